/- told: the numbers of a list of bytes, as many as are asked for. -/
import Derived.Test.YtoccanppfdeggaaVarJ
namespace Go.Proofs.Ytoccanppfdeggaa
open Go.RowKit Go.Tab Go.Shelf
attribute [local go_sem] Oper.semAt_some

/-- Between two rounds: out owns what has come, no more than m; most's box. -/
def ToldI (w : World) (L m : Nat) (pre : List Nat) (W : World) : Prop :=
  ((∃ v, Boxed W (w.heap.size + 1) 38 v ∧ W.ownsRow L 24 1 v pre.length (pre.map numV) ∧ True) ∧ pre.length ≤ m ∧ Boxed W w.heap.size 3 (.int .i64 (m : Int)) ∧ L ≤ W.heap.size) ∧ Below w.heap.size w W
theorem ToldI_own (w : World) (L m : Nat) (hL : w.heap.size ≤ L) : OwnFrom L (ToldI w L m) :=
  OwnFrom.and (Own.from (fun s A B row hs hg hr => ⟨holdsRow_own L (w.heap.size + 1) 38 24 1 (fun pre : List Nat => pre.length) (fun pre => pre.map numV) (fun _ _ => True) s A B row hs.1 hg hr, hs.2.1, hs.2.2.1.kept hg (fun e' => by
    obtain ⟨o, ho, hc⟩ := hr _ e'.symm
    rw [show A.heap[w.heap.size]? = _ from hs.2.2.1] at ho; cases ho; cases hc), Nat.le_trans hs.2.2.2 hg.size⟩) _) (ownFrom_below (Nat.le_refl _) hL)
def ToldX (w : World) (L m : Nat) (c : Code) (pre : List Nat) (W : World) : Prop :=
  c = .exit 0 ∧ ∃ d x, pre = d ++ [x] ∧ d.length = m ∧ ToldI w L m d W
theorem ToldX_own (w : World) (L m : Nat) (hL : w.heap.size ≤ L) (c : Code) : OwnFrom L (ToldX w L m c) := fun s A B row hs hg hr => by
  obtain ⟨hc, d, x, hd, hm, hi⟩ := hs
  exact ⟨hc, d, x, hd, hm, ToldI_own w L m hL d A B row hi hg hr⟩
theorem RowKept.put (v : Value) (w : World) (hv : ∀ k, v.ownBlock = some k → k < w.heap.size) (W : World) (l : Nat) (o o' : Obj) (hl : w.heap.size ≤ l) (_ : W.heap[l]? = some o) (_ : o.isCells = false) (_ : o.isWalk = false) : RowKept v W (W.putObj l o') :=
  ⟨(grownBy_putObj' W l o').size, fun k hk => World.putObj_heap_other (by have := hv k hk; omega)⟩

set_option maxHeartbeats 800000 in
set_option maxRecDepth 100000 in
theorem told_any (v : Value) (l : List UInt8) (m : Nat) (w : World) (hv : BytesAt w v l) (hl : l.length ≤ 1000) :
    Calls Try.prog 20 #[v, .int .i64 m] w fun e w' => ∃ v', e = .returned v' ∧ RowOf numV w' v' ((nums l).take m) ∧ Below w.heap.size w w' := by
  refine (callsIn_wide (n := 9)).1 ?_
  obtain ⟨i0, hi, hz0, hz1, hz2⟩ := info_parts Try.infoN
  refine callsIn_of_wp_marks Try.func20 rfl trivial ?_ rfl
  simp only [Try.ntmps20, List.size_toArray, List.length_cons, List.length_nil, Nat.reduceAdd, Nat.reduceSub, Array.replicate_succ, Array.replicate_zero, List.push_toArray, List.append_toArray, List.nil_append, List.cons_append]
  have hv2 : BytesAt ((w.alloc (.cells #[.int .i64 (m : Int)] 3)).alloc (.cells #[.slice none 0 0] 38)) v l := (hv.alloc _).alloc _
  have HA := Lib.hid (vAll_any v l _ hv2 hl)
  gi_wp2
  refine ⟨trivial, (callsIn_wide.2 HA.out).mono ?_⟩
  rintro e w1 ⟨B, v1, rfl, hcB, hBl, hv1, hvo, hb1⟩
  have hz := hb1.size
  simp only [World.size_alloc] at hvo hb1 hz
  have bM : Boxed w1 w.heap.size 3 (.int .i64 (m : Int)) := (hb1.block _ (by omega)).trans ((Boxed.new w 3 (.int .i64 (m : Int))).alloc _)
  have bO : Boxed w1 (w.heap.size + 1) 38 (.slice none 0 0) := by
    have h := Boxed.new (w.alloc (.cells #[.int .i64 (m : Int)] 3)) 38 (.slice none 0 0)
    rw [World.size_alloc] at h
    exact (hb1.block _ (by omega)).trans h
  have hB0 : Below w.heap.size w w1 := (((Below.refl _ w).alloc (Nat.le_refl _) _).alloc (by simp) _).trans (hb1.mono (by omega))
  clear HA hv2
  have hneq : Sem.run Try.prog (binOp .neq 79 (Value.func (Fn.func 44) #[] #[Value.pointer (some { block := B, off := 0 })]) Value.nilFunc) w1 = .ok (.bool true) w1 := by rfl
  gi_wp2
  have hvl : ∀ k, v1.ownBlock = some k → k < w1.heap.size := fun k hk => Nat.lt_trans (hvo k hk).2 hBl
  have hwL : w.heap.size ≤ w1.heap.size := by omega
  refine wpIn_rangeFunc_ownG rfl (by omega) (gf := 44) (lb := #[.pointer (some ⟨B, 0, none⟩)]) rfl trivial (enters_of Try.func44 (by kernel_rfl) rfl)
    (vAll_stops 8 (by omega) B v1 l hl w1 hBl hcB hv1 hvl) RowKept.trans (RowKept.put v1 w1 hvl) (Below.refl _ _) (fun _ => rfl)
    (ToldI w w1.heap.size m) (ToldX w w1.heap.size m) (ToldI_own _ _ _ hwL) (ToldX_own _ _ _ hwL)
    ⟨⟨⟨_, bO, World.ownsRow_nil _ _ _ _, trivial⟩, Nat.zero_le _, bM, Nat.le_refl _⟩, hB0⟩
    (fun x => { tmps := #[v, .int .i64 m, undef, .pointer (some ⟨w.heap.size, 0, none⟩), .slice none 0 0, .pointer (some ⟨w.heap.size + 1, 0, none⟩), .func (.func 44) #[] #[.pointer (some ⟨B, 0, none⟩)], .int .u64 (x : Nat), v, .func (.func 44) #[] #[.pointer (some ⟨B, 0, none⟩)], .func (.func 44) #[] #[.pointer (some ⟨B, 0, none⟩)], .bool true, .func (.func 44) #[] #[.pointer (some ⟨B, 0, none⟩)], .int .u64 (x : Nat), undef, undef, undef, undef, undef, undef, undef, undef, undef], defers := [] }) ?assign ?body ?done ?stop
  case assign =>
    intro l x W K hK
    unfold numV
    gi_wp2
    exact hK
  case body =>
    rintro l0 pre x W ⟨⟨⟨v', hbo, hrow, -⟩, hlen, hbm, hLW⟩, hB⟩ hlt
    have hnl := nums_length l.length l (Nat.le_refl _)
    have hc := hbo.cell
    have hcm := hbm.cell
    have ho : OwnN w1.heap.size W v' pre := hrow
    have how : OwnN w.heap.size W v' pre := ho.base_le hwL
    obtain ⟨a', c', he', -, hmc, -⟩ := ho.row.len
    subst he'
    unfold maxLen at hmc
    by_cases hm : pre.length < m
    · gi_wp2_with (gi_at_builtin; have hzW := hB.size; refine wpListIn_append_own _ rfl _ _ 38 rfl w1.heap.size 24 i0 (.int .u64 0) 1 8 Try.underlying38 hi hz0 hz1 hz2 rfl (by decide) _ _ _ rfl (hrow.alloc _) ⟨W.heap.size, 0, none⟩ 1 1 [.int .u64 x] rfl rfl (cell_one_new _ _ _) (by simp [Value.oneCell']) (by first | omega | (unfold maxLen; omega) | (simp [maxLen]; omega)) (by omega) (by have := hB.size; simp; omega) ?_; intro v2 w2 hown' hgrow hnil; clear hnil; obtain ⟨g', cap', rfl⟩ := ownsRow_succ hown'; have hgr : (W.alloc (.cells #[.int .u64 (x : Int)] 24)).grownBy w2 (Value.slice a' pre.length c').ownBlock := hgrow; clear hgrow; have hown2 : OwnN w1.heap.size w2 (.slice (some ⟨g', 0, none⟩) (pre.length + 1) cap') (pre ++ [x]) := (by unfold OwnN OwnOf; simpa [numV] using hown'); obtain ⟨hv1', hv2', hr2', hk2', hb2'⟩ := hbo.appended (n₀ := w.heap.size) (by decide) how hB.size (by omega) (hown2.base_le hwL) hgr; have hc1 := hv1'.cell; have hf1 := hv1'.frozen)
      have hkeep : ∀ k, k < w1.heap.size → k ≠ w.heap.size + 1 → (w2.setCell ⟨w.heap.size + 1, 0, none⟩ (.slice (some ⟨g', 0, none⟩) (pre.length + 1) cap')).heap[k]? = W.heap[k]? := fun k hk hne =>
        (Below.heap_setCell _ _ _ _ hne).trans ((hgr.block k (by simp; omega) (fun h => absurd (ho.own_ge k h.symm) (by omega))).trans (Below.heap_alloc _ _ _ (by omega)))
      refine ⟨hk2'.from _, ⟨hb2'.size, fun k hk => hkeep k (hvl k hk) (by have := (hvo k hk).1; omega)⟩, ⟨⟨_, hv2', ?_, trivial⟩, by simp; omega, (hkeep _ (by omega) (by omega)).trans hbm, by have := hb2'.size; omega⟩, hB.trans hb2'⟩
      exact hown2.setOther _ _ (by intro h; have := hown2.own_ge _ h; simp at this; omega)
    · obtain hme : pre.length = m := by omega
      gi_wp2
      exact ⟨KeepsFrom.refl _ _, rfl, pre, x, rfl, hme, ⟨⟨_, hbo, hrow, trivial⟩, hlen, hbm, hLW⟩, hB⟩
  case done =>
    rintro D ys W hD rfl ⟨⟨⟨v', hbo, hrow, -⟩, hlen, hbm, hLW⟩, hB⟩ hK
    have hc := hbo.cell
    gi_wp2
    refine ⟨by simp, .inl ⟨_, _, rfl, run_takeDeferred hK, ?_⟩⟩
    have ho : OwnN w1.heap.size (W.putObj D (.deferred none)) v' (nums l) := ownsRow_putObj hrow _ hK rfl
    exact ⟨_, results_tmp rfl _ _ _, v', rfl, by rw [List.take_of_length_le hlen]; exact ho.row, hB.trans (belowK_b (w := w) (Nat.le_refl _) W D _ _ (by omega) hK rfl rfl)⟩
  case stop =>
    rintro D c pre W hD hpre ⟨rfl, d, x, rfl, hm, ⟨⟨v', hbo, hrow, -⟩, hlen, hbm, hLW⟩, hB⟩ hK
    have hc := hbo.cell
    gi_wp2
    refine ⟨by simp, .inl ⟨_, _, rfl, run_takeDeferred hK, ?_⟩⟩
    have ho : OwnN w1.heap.size (W.putObj D (.deferred none)) v' d := ownsRow_putObj hrow _ hK rfl
    obtain ⟨more, hmore⟩ := hpre
    have htk : (nums l).take m = d := by rw [← hmore, ← hm]; simp
    exact ⟨_, results_tmp rfl _ _ _, v', rfl, by rw [htk]; exact ho.row, hB.trans (belowK_b (w := w) (Nat.le_refl _) W D _ _ (by omega) hK rfl rfl)⟩
end Go.Proofs.Ytoccanppfdeggaa
