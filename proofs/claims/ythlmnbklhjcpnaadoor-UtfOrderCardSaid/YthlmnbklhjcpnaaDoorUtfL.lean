/- told: the scalars of a text, as many as are asked for (layer 2). -/
import Derived.Test.YthlmnbklhjcpnaaDoorUtfK
namespace Go.Proofs.YthlmnbklhjcpnaaDoor
open Go.RowKit Go.Tab Go.Shelf
attribute [local go_sem] Oper.semAt_some

theorem ownsRow_base {w : World} {base base' : Nat} {e : TypeId} {size : Nat} {v : Value} {n : Nat} {xs : List Value} (h : w.ownsRow base e size v n xs) (hb : base' ≤ base) : w.ownsRow base' e size v n xs := by
  obtain ⟨h1, h2⟩ := h
  refine ⟨h1, ?_⟩
  rcases h2 with h2 | ⟨g, cap, cur, hv, hg, r⟩
  · exact .inl h2
  · exact .inr ⟨g, cap, cur, hv, by omega, r⟩

/-- Between two rounds: out owns what has come, no more than m; most's box. -/
def ToldI (w : World) (L m : Nat) (pre : List (Nat × Nat)) (W : World) : Prop :=
  ((∃ v, Boxed W (w.heap.size + 1) 23 v ∧ W.ownsRow L 30 2 v pre.length (pre.flatMap pairC) ∧ True) ∧ pre.length ≤ m ∧ Boxed W w.heap.size 3 (.int .i64 (m : Int)) ∧ L ≤ W.heap.size) ∧ Below w.heap.size w W
theorem ToldI_own (w : World) (L m : Nat) (hL : w.heap.size ≤ L) : OwnFrom L (ToldI w L m) :=
  OwnFrom.and (Own.from (fun s A B row hs hg hr => ⟨holdsRow_own L (w.heap.size + 1) 23 30 2 (fun pre : List (Nat × Nat) => pre.length) (fun pre => pre.flatMap pairC) (fun _ _ => True) s A B row hs.1 hg hr, hs.2.1, hs.2.2.1.kept hg (fun e' => by
    obtain ⟨o, ho, hc⟩ := hr _ e'.symm
    rw [show A.heap[w.heap.size]? = _ from hs.2.2.1] at ho; cases ho; cases hc), Nat.le_trans hs.2.2.2 hg.size⟩) _) (ownFrom_below (Nat.le_refl _) hL)
def ToldX (w : World) (L m : Nat) (c : Code) (pre : List (Nat × Nat)) (W : World) : Prop :=
  c = .exit 0 ∧ ∃ d x, pre = d ++ [x] ∧ d.length = m ∧ ToldI w L m d W
theorem ToldX_own (w : World) (L m : Nat) (hL : w.heap.size ≤ L) (c : Code) : OwnFrom L (ToldX w L m c) := fun s A B row hs hg hr => by
  obtain ⟨hc, d, x, hd, hm, hi⟩ := hs
  exact ⟨hc, d, x, hd, hm, ToldI_own w L m hL d A B row hi hg hr⟩
theorem TwoKept.put (g : Nat) (w : World) (h0 : 0 < w.heap.size) (hg : g < w.heap.size) (W : World) (l : Nat) (o o' : Obj) (hl : w.heap.size ≤ l) (_ : W.heap[l]? = some o) (_ : o.isCells = false) (_ : o.isWalk = false) : TwoKept g W (W.putObj l o') :=
  ⟨(grownBy_putObj' W l o').size, World.putObj_heap_other (by omega), World.putObj_heap_other (by omega)⟩
theorem uAll_stops (n : Nat) (hn : 2 ≤ n) (Bn : Nat) (s : ByteArray) (hs : s.size ≤ 1000000) (w : World) (hBn : Bn < w.heap.size)
    (hc : w.cell? ⟨Bn, 0, none⟩ = some (.string s)) (hT : Tab w) :
    SeqStopsK Fence.wide n Tryd.prog 26 #[.pointer (some ⟨Bn, 0, none⟩)] (fun x : Nat × Nat => #[.int .i64 (x.1 : Nat), .int .i64 (x.2 : Nat)]) (TwoKept Bn) (fun ys => ys = (scan (bs s) 0).1) (fun pre => pre <+: (scan (bs s) 0).1) (scan (bs s) 0).1.length w := fun l0 J Jx W hW _ _ hY h0 =>
  uAll1_in n hn l0 Bn s hs J Jx hY W ((hW.cell (p := ⟨Bn, 0, none⟩) hBn).trans hc) (hT.below hW hT.pos) h0

theorem cells_two (w : World) (a b : Value) (t : TypeId) : ∀ j u, [a, b][j]? = some u → (w.alloc (.cells #[a, b] t)).cell? ((⟨w.heap.size, 0, none⟩ : Addr).add j) = some u := by
  intro j u hu
  rw [Addr.add_lit, Nat.zero_add, World.cell?_alloc_new]
  simpa using hu

set_option maxHeartbeats 800000 in
set_option maxRecDepth 100000 in
theorem told_any (s : ByteArray) (m : Nat) (w : World) (hs : s.size ≤ 100000) (hT : Tab w) :
    Calls Tryd.prog 11 #[.string s, .int .i64 m] w fun e w' => ∃ v', e = .returned v' ∧ OwnP w.heap.size w' v' ((scan (bs s) 0).1.take m) ∧ Below w.heap.size w w' := by
  refine (callsIn_wide (n := 9)).1 ?_
  obtain ⟨i0, hi, hz0, hz1, hz2⟩ := info_parts Tryd.infoP
  have hsl := scan_len (bs s).length (bs s) 0 (Nat.le_refl _)
  rw [bs_length] at hsl
  refine callsIn_of_wp_marks Tryd.func11 rfl trivial ?_ rfl
  simp only [Tryd.ntmps11, List.size_toArray, List.length_cons, List.length_nil, Nat.reduceAdd, Nat.reduceSub, Array.replicate_succ, Array.replicate_zero, List.push_toArray, List.append_toArray, List.nil_append, List.cons_append]
  have HA := Lib.hid (uAll_any s ((w.alloc (.cells #[.int .i64 (m : Int)] 3)).alloc (.cells #[.slice none 0 0] 23)))
  gi_wp2
  refine ⟨trivial, (callsIn_wide.2 HA.out).mono ?_⟩
  rintro e w1 ⟨rfl, hw1⟩
  have hb1 : Below (w.heap.size + 2) ((w.alloc (.cells #[.int .i64 (m : Int)] 3)).alloc (.cells #[.slice none 0 0] 23)) w1 := by
    rw [hw1]; exact (Below.refl _ _).alloc (by simp) _
  have hz : w1.heap.size = w.heap.size + 3 := by rw [hw1]; simp
  have hcB : w1.cell? ⟨w.heap.size + 2, 0, none⟩ = some (.string s) := by
    have h := World.cell?_alloc_new (w := (w.alloc (.cells #[.int .i64 (m : Int)] 3)).alloc (.cells #[.slice none 0 0] 23)) #[.string s] 9 0
    simp only [World.size_alloc] at h
    rw [hw1]; exact h
  have bM : Boxed w1 w.heap.size 3 (.int .i64 (m : Int)) := (hb1.block _ (by omega)).trans ((Boxed.new w 3 (.int .i64 (m : Int))).alloc _)
  have bO : Boxed w1 (w.heap.size + 1) 23 (.slice none 0 0) := by
    have h := Boxed.new (w.alloc (.cells #[.int .i64 (m : Int)] 3)) 23 (.slice none 0 0)
    rw [World.size_alloc] at h
    exact (hb1.block _ (by omega)).trans h
  have hB0 : Below w.heap.size w w1 := (((Below.refl _ w).alloc (Nat.le_refl _) _).alloc (by simp) _).trans (hb1.mono (by omega))
  have hT1 := hT.below hB0 hT.pos
  have h0w := hT.pos
  clear HA hw1
  simp only [World.size_alloc]
  have hneq : Sem.run Tryd.prog (binOp .neq 42 (Value.func (Fn.func 26) #[] #[Value.pointer (some { block := w.heap.size + 2, off := 0 })]) Value.nilFunc) w1 = .ok (.bool true) w1 := by rfl
  gi_wp2
  have hwL : w.heap.size ≤ w1.heap.size := by omega
  refine wpIn_rangeFunc_ownG rfl (by omega) (gf := 26) (lb := #[.pointer (some ⟨w.heap.size + 2, 0, none⟩)]) rfl trivial (enters_of Tryd.func26 (by kernel_rfl) rfl)
    (uAll_stops 8 (by omega) (w.heap.size + 2) s (by omega) w1 (by omega) hcB hT1) TwoKept.trans (TwoKept.put (w.heap.size + 2) w1 (by omega) (by omega)) (Below.refl _ _) (fun _ => rfl)
    (ToldI w w1.heap.size m) (ToldX w w1.heap.size m) (ToldI_own _ _ _ hwL) (ToldX_own _ _ _ hwL)
    ⟨⟨⟨_, bO, World.ownsRow_nil _ _ _ _, trivial⟩, Nat.zero_le _, bM, Nat.le_refl _⟩, hB0⟩
    (fun x => { tmps := #[.string s, .int .i64 m, undef, .pointer (some ⟨w.heap.size, 0, none⟩), .slice none 0 0, .pointer (some ⟨w.heap.size + 1, 0, none⟩), .func (.func 26) #[] #[.pointer (some ⟨w.heap.size + 2, 0, none⟩)], .int .i64 (x.1 : Nat), .int .i64 (x.2 : Nat), .string s, .func (.func 26) #[] #[.pointer (some ⟨w.heap.size + 2, 0, none⟩)], .func (.func 26) #[] #[.pointer (some ⟨w.heap.size + 2, 0, none⟩)], .bool true, .func (.func 26) #[] #[.pointer (some ⟨w.heap.size + 2, 0, none⟩)], .int .i64 (x.1 : Nat), .int .i64 (x.2 : Nat), undef, undef, undef, undef, undef, undef, undef, undef, undef, undef, undef], defers := [] }) ?assign ?body ?done ?stop
  case assign =>
    intro l x W K hK
    gi_wp2
    exact hK
  case body =>
    rintro l0 pre x W ⟨⟨⟨v', hbo, hrow, -⟩, hlen, hbm, hLW⟩, hB⟩ hlt
    have hc := hbo.cell
    have hcm := hbm.cell
    have ho : OwnP w1.heap.size W v' pre := hrow
    obtain ⟨a', c', he'⟩ := ho.len
    subst he'
    by_cases hm : pre.length < m
    · gi_wp2_with (gi_at_builtin; have hzW := hB.size; refine wpListIn_append_own _ rfl _ _ 23 rfl w1.heap.size 30 i0 (.agg #[.int .i64 0, .int .i64 0]) 2 16 Tryd.underlying23 hi hz0 hz1 hz2 rfl (by decide) _ _ _ rfl (hrow.alloc _) ⟨W.heap.size, 0, none⟩ 1 1 (pairC x) rfl rfl (cells_two _ _ _ _) (by intro u hu; simp [pairC] at hu; rcases hu with rfl | rfl <;> rfl) (by first | omega | (unfold maxLen; omega) | (simp [maxLen]; omega)) (by omega) (by have := hB.size; simp; omega) ?_; intro v2 w2 hown' hgrow hnil; clear hnil; obtain ⟨g', cap', rfl⟩ := ownsRow_succ hown'; have hgr : (W.alloc (.cells #[.int .i64 (x.1 : Nat), .int .i64 (x.2 : Nat)] 30)).grownBy w2 (Value.slice a' pre.length c').ownBlock := hgrow; clear hgrow; have hown2 : OwnP w1.heap.size w2 (.slice (some ⟨g', 0, none⟩) (pre.length + 1) cap') (pre ++ [x]) := (by unfold OwnP; simpa using hown'); obtain ⟨hv1', hv2', hr2', hk2', hb2'⟩ := hbo.appended (n₀ := w.heap.size) (by decide) (ownsRow_base hrow hwL) hB.size (by omega) (ownsRow_base hown2 hwL) hgr; have hc1 := hv1'.cell; have hf1 := hv1'.frozen)
      have hkeep : ∀ k, k < w1.heap.size → k ≠ w.heap.size + 1 → (w2.setCell ⟨w.heap.size + 1, 0, none⟩ (.slice (some ⟨g', 0, none⟩) (pre.length + 1) cap')).heap[k]? = W.heap[k]? := fun k hk hne =>
        (Below.heap_setCell _ _ _ _ hne).trans ((hgr.block k (by simp; omega) (fun h => absurd (World.ownsRow.lt ho k h.symm).1 (by omega))).trans (Below.heap_alloc _ _ _ (by omega)))
      refine ⟨hk2'.from _, ⟨hb2'.size, hkeep 0 (by omega) (by omega), hkeep (w.heap.size + 2) (by omega) (by omega)⟩, ⟨⟨_, hv2', ?_, trivial⟩, by simp; omega, (hkeep _ (by omega) (by omega)).trans hbm, by have := hb2'.size; omega⟩, hB.trans hb2'⟩
      exact ownsRow_setCell_other hown2 (by intro h; have := (World.ownsRow.lt hown2 _ h).1; simp at this; omega) _
    · obtain hme : pre.length = m := by omega
      gi_wp2
      exact ⟨KeepsFrom.refl _ _, rfl, pre, x, rfl, hme, ⟨⟨_, hbo, hrow, trivial⟩, hlen, hbm, hLW⟩, hB⟩
  case done =>
    rintro D ys W hD rfl ⟨⟨⟨v', hbo, hrow, -⟩, hlen, hbm, hLW⟩, hB⟩ hK
    have hc := hbo.cell
    gi_wp2
    refine ⟨by simp, .inl ⟨_, _, rfl, run_takeDeferred hK, ?_⟩⟩
    have ho : OwnP w1.heap.size (W.putObj D (.deferred none)) v' (scan (bs s) 0).1 := ownsRow_putObj hrow _ hK rfl
    exact ⟨_, results_tmp rfl _ _ _, v', rfl, by rw [List.take_of_length_le hlen]; exact ownsRow_base ho hwL, hB.trans (belowK_b (w := w) (Nat.le_refl _) W D _ _ (by omega) hK rfl rfl)⟩
  case stop =>
    rintro D c pre W hD hpre ⟨rfl, d, x, rfl, hm, ⟨⟨v', hbo, hrow, -⟩, hlen, hbm, hLW⟩, hB⟩ hK
    have hc := hbo.cell
    gi_wp2
    refine ⟨by simp, .inl ⟨_, _, rfl, run_takeDeferred hK, ?_⟩⟩
    have ho : OwnP w1.heap.size (W.putObj D (.deferred none)) v' d := ownsRow_putObj hrow _ hK rfl
    obtain ⟨more, hmore⟩ := hpre
    have htk : (scan (bs s) 0).1.take m = d := by rw [← hmore, ← hm]; simp
    exact ⟨_, results_tmp rfl _ _ _, v', rfl, by rw [htk]; exact ownsRow_base ho hwL, hB.trans (belowK_b (w := w) (Nat.le_refl _) W D _ _ (by omega) hK rfl rfl)⟩
end Go.Proofs.YthlmnbklhjcpnaaDoor
