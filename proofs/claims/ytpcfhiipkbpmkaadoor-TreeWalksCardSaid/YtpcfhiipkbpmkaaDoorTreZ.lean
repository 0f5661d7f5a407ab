/- The walk of Walk of the reference (layer 8). -/
import Derived.Test.YtpcfhiipkbpmkaaDoorTreB
import Derived.Deep.AppendLies
namespace Go.Proofs.YtpcfhiipkbpmkaaDoor
open Go.RowKit Go.Tab

mutual
/-- A value, and all in it, each as deep as it lies. -/
def spots (d : Nat) : Tree → List (Nat × Tree)
  | .mk kind is neg dg e s ks kids => (d, .mk kind is neg dg e s ks kids) :: spotsAll (d + 1) kids
def spotsAll (d : Nat) : List Tree → List (Nat × Tree)
  | [] => []
  | t :: r => spots d t ++ spotsAll d r
end
mutual
theorem spots_len (d : Nat) : ∀ t : Tree, (spots d t).length ≤ t.bulk
  | .mk kind is neg dg e s ks kids => by
    have := spotsAll_len (d + 1) kids
    simp only [spots, Tree.bulk, List.length_cons]; omega
theorem spotsAll_len (d : Nat) : ∀ l : List Tree, (spotsAll d l).length ≤ bulkAll l
  | [] => by simp [spotsAll]
  | t :: r => by
    have := spots_len d t
    have := spotsAll_len d r
    simp only [spotsAll, bulkAll, List.length_append]; omega
end
theorem spotsAll_snoc (d : Nat) : ∀ (l : List Tree) (t : Tree), spotsAll d (l ++ [t]) = spotsAll d l ++ spots d t
  | [], t => by simp [spotsAll]
  | a :: r, t => by simp [spotsAll, spotsAll_snoc d r t]
theorem spotsAll_take {d : Nat} {l : List Tree} {k : Nat} (h : k < l.length) : spotsAll d (l.take (k + 1)) = spotsAll d (l.take k) ++ spots d l[k] := by
  rw [take_snoc' l k h, spotsAll_snoc]
theorem spots_pos (d : Nat) (t : Tree) : 0 < (spots d t).length := by cases t; simp [spots]
/-- Spots with their cells. -/
def flatS (L : List ((Nat × Tree) × List Value)) : List Value := L.flatMap (fun s => .int .i64 (s.1.1 : Nat) :: s.2)
/-- The row of spots as it lies: the cells are those of values that lay in w0. -/
def SpotsP (base : Nat) (w0 w' : World) (v : Value) (ss : List (Nat × Tree)) : Prop :=
  ∃ L : List ((Nat × Tree) × List Value), L.map (·.1) = ss ∧ (∀ s ∈ L, ValAt w0 s.1.2 s.2) ∧ w'.ownsRow base 36 9 v ss.length (flatS L)
theorem ValAt.len8 {w : World} {t : Tree} {cs : List Value} (h : ValAt w t cs) : cs.length = 8 := by
  cases t
  simp only [ValAt] at h
  obtain ⟨kv, a, cap, rfl, -⟩ := h
  rfl
theorem flatS_len {w0 : World} : ∀ (L : List ((Nat × Tree) × List Value)), (∀ s ∈ L, ValAt w0 s.1.2 s.2) → (flatS L).length = L.length * 9
  | [], _ => rfl
  | s :: r, h => by
    have h1 := (h s (by simp)).len8
    have h2 := flatS_len r (fun x hx => h x (by simp [hx]))
    simp only [flatS, List.flatMap_cons, List.length_append, List.length_cons] at h2 ⊢
    rw [h2, h1]; omega
theorem ValAt.one {w : World} {t : Tree} {cs : List Value} (h : ValAt w t cs) : ∀ u ∈ cs, u.oneCell' = true := by
  cases t
  simp only [ValAt] at h
  obtain ⟨kv, a, cap, rfl, hk, -⟩ := h
  obtain ⟨ka, kc, rfl, -⟩ := hk.len
  intro u hu
  simp at hu
  rcases hu with rfl | rfl | rfl | rfl | rfl | rfl | rfl | rfl <;> rfl
theorem flatS_one {w0 : World} {L : List ((Nat × Tree) × List Value)} (h : ∀ s ∈ L, ValAt w0 s.1.2 s.2) : ∀ u ∈ flatS L, u.oneCell' = true := by
  intro u hu
  simp only [flatS, List.mem_flatMap] at hu
  obtain ⟨s, hs, hu⟩ := hu
  rcases List.mem_cons.1 hu with rfl | hu
  · rfl
  · exact (h s hs).one u hu
theorem own_moved {w w' : World} {base : Nat} {e : TypeId} {size : Nat} {v : Value} {n : Nat} {xs : List Value} (h : w.ownsRow base e size v n xs) (hb : Below w.heap.size w w') : w'.ownsRow base e size v n xs := by
  obtain ⟨h1, h2⟩ := h
  refine ⟨h1, ?_⟩
  rcases h2 with h2 | ⟨g, cap, cur, hv, hg, h3, r⟩
  · exact .inl h2
  · exact .inr ⟨g, cap, cur, hv, hg, (hb.block g (Array.getElem?_eq_some_iff.1 h3).1).trans h3, r⟩
theorem Tryd.infoSpot : (Tryd.prog.info? 36).map (fun i => (i.zero, i.size, i.bytes)) = some (some (.agg #[.int .i64 0, .int .i64 0, .bool false, .bool false, .string ⟨#[]⟩, .int .i64 0, .string ⟨#[]⟩, .slice none 0 0, .slice none 0 0]), 9, 120) := by kernel_rfl

theorem owns_ne_box {w : World} {base : Nat} {e : TypeId} {size : Nat} {v : Value} {n : Nat} {xs : List Value} {g : Nat} {cs : Array Value} {t : TypeId} (h : w.ownsRow base e size v n xs) (hc : Cells w g cs t) (ht : t ≠ e) : some g ≠ v.ownBlock := by
  rcases h.2 with ⟨rfl, _⟩ | ⟨b, cap, cur, rfl, _, hg, _⟩
  · simp [Value.ownBlock]
  · intro he
    simp only [Value.ownBlock, Option.some.injEq] at he
    subst he
    have hc' : w.heap[g]? = some (.cells cs t (0, 0)) := hc
    rw [hg] at hc'
    simp only [Option.some.injEq, Obj.cells.injEq] at hc'
    exact ht hc'.2.1.symm
theorem owns_shape {w : World} {base : Nat} {e : TypeId} {size : Nat} {v : Value} {n : Nat} {xs : List Value} (h : w.ownsRow base e size v n xs) (hn : 0 < n) : ∃ g cap, v = .slice (some ⟨g, 0, none⟩) n cap := by
  rcases h.2 with ⟨_, h0⟩ | ⟨b, cap, cur, rfl, _⟩
  · omega
  · exact ⟨b, cap, rfl⟩
theorem flatS_append (L M : List ((Nat × Tree) × List Value)) : flatS (L ++ M) = flatS L ++ flatS M := by simp [flatS]
theorem SpotsP.moved {base : Nat} {w0 w w' : World} {v : Value} {ss : List (Nat × Tree)} (h : SpotsP base w0 w v ss) (hb : Below w.heap.size w w') : SpotsP base w0 w' v ss := by
  obtain ⟨L, h1, h2, h3⟩ := h
  exact ⟨L, h1, h2, own_moved h3 hb⟩

set_option maxHeartbeats 4000000 in
set_option maxRecDepth 100000 in
theorem rWalk_step (n : Nat) (IH : ∀ (t : Tree), t.bulk ≤ n → t.bulk ≤ 1048576 → ∀ (dp : Nat), dp + t.bulk ≤ 4194304 → ∀ (w0 w : World) (cs : List Value), Below w0.heap.size w0 w → ValAt w0 t cs →
      Calls Tryd.prog 16 #[valV cs, .int .i64 (dp : Int)] w fun e w' => (∃ v, e = .returned v ∧ SpotsP w.heap.size w0 w' v (spots dp t)) ∧ Below w.heap.size w w')
    (kind : Int) (is neg : Bool) (digits : ByteArray) (exp : Int) (str : ByteArray) (keys : List ByteArray) (kids : List Tree)
    (h : (Tree.mk kind is neg digits exp str keys kids).bulk ≤ n + 1) (hmax : (Tree.mk kind is neg digits exp str keys kids).bulk ≤ 1048576)
    (dp : Nat) (hdp : dp + (Tree.mk kind is neg digits exp str keys kids).bulk ≤ 4194304) (w0 w : World) (cs : List Value) (hbw : Below w0.heap.size w0 w) (hv : ValAt w0 (.mk kind is neg digits exp str keys kids) cs) :
    Calls Tryd.prog 16 #[valV cs, .int .i64 (dp : Int)] w fun e w' => (∃ v, e = .returned v ∧ SpotsP w.heap.size w0 w' v (spots dp (.mk kind is neg digits exp str keys kids))) ∧ Below w.heap.size w w' := by
  have hkb : bulkAll kids ≤ n ∧ bulkAll kids ≤ 1048575 ∧ dp + 1 + bulkAll kids ≤ 4194304 := by simp only [Tree.bulk] at h hmax hdp; omega
  have hv0 := hv
  simp only [ValAt] at hv
  obtain ⟨kv, a, cap, rfl, hk, hl, hm, hnil, hx⟩ := hv
  obtain ⟨ka, kc, rfl, -⟩ := hk.len
  have hll := len_bulk kids
  unfold maxLen at hm
  simp only [valV]
  clear h hmax hdp hk
  obtain ⟨i0, hi0, hi1⟩ := Option.map_eq_some_iff.1 Tryd.infoSpot
  simp only [Prod.mk.injEq] at hi1
  obtain ⟨hz0, hz1, hz2⟩ := hi1
  have hrow0 : ∀ W : World, w.heap.size ≤ W.heap.size → SpotsP w.heap.size w0 (W.alloc (.cells #[.int .i64 (dp : Int), .int .i64 kind, .bool is, .bool neg, .string digits, .int .i64 exp, .string str, .slice ka keys.length kc, .slice a kids.length cap] 36))
      (.slice (some ⟨W.heap.size, 0, none⟩) 1 1) [(dp, .mk kind is neg digits exp str keys kids)] := fun W hW =>
    ⟨[((dp, .mk kind is neg digits exp str keys kids), [.int .i64 kind, .bool is, .bool neg, .string digits, .int .i64 exp, .string str, .slice ka keys.length kc, .slice a kids.length cap])], rfl, (fun s hs => by simp at hs; subst hs; exact hv0),
      World.ownsRow_lit W #[.int .i64 (dp : Int), .int .i64 kind, .bool is, .bool neg, .string digits, .int .i64 exp, .string str, .slice ka keys.length kc, .slice a kids.length cap] 1 hW (by decide) rfl⟩
  have HR0 := Lib.hid hrow0
  clear hrow0 hv0
  go_enter Tryd.func16, Tryd.ntmps16
  go_wp2_with fail
  have hb0 : Below w.heap.size w ((w.alloc (.cells #[.int .i64 kind, .bool is, .bool neg, .string digits, .int .i64 exp, .string str, .slice ka keys.length kc, .slice a kids.length cap] 27)).alloc (.cells #[.int .i64 (dp : Int), .int .i64 kind, .bool is, .bool neg, .string digits, .int .i64 exp, .string str, .slice ka keys.length kc, .slice a kids.length cap] 36)) := by (repeat' (first | (with_reducible refine Below.setCell ?_ ?_ _) | (with_reducible refine Below.alloc ?_ ?_ _) | (with_reducible refine Below.drew ?_) | (with_reducible assumption) | (with_reducible exact Below.refl _ _) | (simp only [World.size_alloc, World.size_setCell, World.size_drew]; done) | (simp only [World.size_alloc, World.size_setCell, World.size_drew]; omega) | omega))
  have hc0 := (Cells.new w #[.int .i64 kind, .bool is, .bool neg, .string digits, .int .i64 exp, .string str, .slice ka keys.length kc, .slice a kids.length cap] 27).alloc (.cells #[.int .i64 (dp : Int), .int .i64 kind, .bool is, .bool neg, .string digits, .int .i64 exp, .string str, .slice ka keys.length kc, .slice a kids.length cap] 36)
  have hr0 := HR0.out (w.alloc (.cells #[.int .i64 kind, .bool is, .bool neg, .string digits, .int .i64 exp, .string str, .slice ka keys.length kc, .slice a kids.length cap] 27)) (by simp)
  have HS := Lib.hid (And.intro hb0 (And.intro hc0 hr0))
  clear hb0 hc0 hr0
  go_loopw [5, 6] (fun out i wr => ∃ k : Nat, k ≤ kids.length ∧ i = .int .i64 (k : Int) ∧ SpotsP w.heap.size w0 wr out ((dp, .mk kind is neg digits exp str keys kids) :: spotsAll (dp + 1) (kids.take k)) ∧ Cells wr w.heap.size #[.int .i64 kind, .bool is, .bool neg, .string digits, .int .i64 exp, .string str, .slice ka keys.length kc, .slice a kids.length cap] 27 ∧ Below w.heap.size w wr) (fun _ i _ => kids.length - (intOf i).toNat)
  case atStart => exact ⟨0, Nat.zero_le _, rfl, by simpa [spotsAll] using HS.out.2.2, HS.out.2.1, HS.out.1⟩
  case round =>
    clear HS HR0
    obtain ⟨k, hkk, rfl, hsp, hc, hbl⟩ := hrel
    have hcl := hc.lt
    have HSP := Lib.hid hsp
    clear hsp
    by_cases hkl : k < kids.length
    · have hne : kids ≠ [] := by intro h0; rw [h0] at hkl; simp at hkl
      cases a with
      | none => have := hnil rfl; omega
      | some x =>
      obtain ⟨bb, off, sp⟩ := x
      obtain ⟨rfl, hlt, hkids⟩ := hx _ rfl hne
      simp only at hlt hkids
      have hbr := hbw.trans (hbl.mono hbw.size)
      obtain ⟨kc0, hkc, hkv⟩ := KidsAt.get hkids k hkl
      obtain ⟨kkind, kis, kneg, kdig, kexp, kstr, kka, kkn, kkc, ksa, ksn, ksc, rfl, m0, m1, m2, m3, m4, m5, m6, m7⟩ := kid_at hkv hkc
      replace m0 := (hbr.cell (by exact hlt)).trans m0
      replace m1 := (hbr.cell (by exact hlt)).trans m1
      replace m2 := (hbr.cell (by exact hlt)).trans m2
      replace m3 := (hbr.cell (by exact hlt)).trans m3
      replace m4 := (hbr.cell (by exact hlt)).trans m4
      replace m5 := (hbr.cell (by exact hlt)).trans m5
      replace m6 := (hbr.cell (by exact hlt)).trans m6
      replace m7 := (hbr.cell (by exact hlt)).trans m7
      have hltr := Nat.lt_of_lt_of_le hlt hbr.size
      have hkb2 := bulk_kid hkl
      have hC := IH kids[k] (by omega) (by omega) (dp + 1) (by omega) w0 wr _ hbr hkv
      have hlen1 := spotsAll_len (dp + 1) (kids.take k)
      have hlen2 := bulkAll_take kids k
      have hlen3 := spots_len (dp + 1) kids[k]
      have hpos := spots_pos (dp + 1) kids[k]
      have HST := Lib.hid (spotsAll_take (d := dp + 1) hkl)
      clear IH hkv hkc hkids
      generalize kids[k] = kid at *
      have hc' := hc
      simp only [valV, Int.natCast_add, Int.natCast_one] at hC
      have hdpb : dp ≤ 4194304 := by omega
      have hcc0 := hc.cell 0 _ rfl
      have hcf0 := hc.frozen 0
      have hcc1 := hc.cell 1 _ rfl
      have hcf1 := hc.frozen 1
      have hcc2 := hc.cell 2 _ rfl
      have hcf2 := hc.frozen 2
      have hcc3 := hc.cell 3 _ rfl
      have hcf3 := hc.frozen 3
      have hcc4 := hc.cell 4 _ rfl
      have hcf4 := hc.frozen 4
      have hcc5 := hc.cell 5 _ rfl
      have hcf5 := hc.frozen 5
      have hcc6 := hc.cell 6 _ rfl
      have hcf6 := hc.frozen 6
      have hcc7 := hc.cell 7 _ rfl
      have hcf7 := hc.frozen 7
      go_wp2_with fail
      refine hC.mono ?_
      clear hC hcc0 hcc1 hcc2 hcc3 hcc4 hcc5 hcc6 hcc7 hcf0 hcf1 hcf2 hcf3 hcf4 hcf5 hcf6 hcf7 hc
      rintro e w2 ⟨⟨v2, rfl, L2, hL2a, hL2b, hL2c⟩, hb2⟩
      obtain ⟨L1, hL1a, hL1b, hL1c⟩ := HSP.out.moved hb2
      have hc2 := hc'.below hb2 hcl
      have hbl2 := hbl.trans (hb2.mono hbl.size)
      have hx1 : ((dp, Tree.mk kind is neg digits exp str keys kids) :: spotsAll (dp + 1) (kids.take k)).length = L1.length := by rw [← hL1a, List.length_map]
      have hx2 : (spots (dp + 1) kid).length = L2.length := by rw [← hL2a, List.length_map]
      have hpos1 : 0 < L1.length := by rw [← hx1]; simp
      have hpos2 : 0 < L2.length := by omega
      have hsize1 : L1.length ≤ 1048576 := by rw [← hx1]; simp only [List.length_cons]; omega
      have hsize2 : L2.length ≤ 1048576 := by omega
      rw [hx1] at hL1c
      rw [hx2] at hL2c
      obtain ⟨g2, cap2, rfl⟩ := owns_shape hL2c hpos2
      obtain ⟨g1, cap1, rfl⟩ := owns_shape hL1c hpos1
      have hs2 := hb2.size
      have HL := Lib.hid (And.intro hL1a (And.intro hL1b (And.intro hL2a (And.intro hL2b (And.intro hc2 hbl2)))))
      clear hL1a hL2a hc2 hbl2 HSP
      go_wp2_with (with_reducible first | refine stop_append ?_ | refine stop_make ?_ | refine stop_slice ?_ | refine stop_copy ?_); refine Stop.out ?_
      refine wpList_append_own _ rfl _ _ 30 rfl w.heap.size 36 i0 _ 9 120 Tryd.underlying30 hi0 hz0 hz1 hz2 rfl (by decide) _ L1.length (flatS L1) rfl (by exact hL1c) ⟨g2, 0, none⟩ L2.length cap2 (flatS L2) rfl (flatS_len L2 hL2b) (fun j u hu => World.ownsRow.cells hL2c rfl j u hu) (flatS_one hL2b) (by unfold maxLen; omega) (by omega) (by omega) ?_
      intro v3 w3 hown3 hgrow0 hnil3
      have hgrow : w2.grownBy w3 (Value.slice (some ⟨g1, 0, none⟩) L1.length cap1).ownBlock := hgrow0
      clear hgrow0 hnil3
      obtain ⟨hL1a, -, hL2a, -, hc2, hbl2⟩ := HL.out
      have hE : SpotsP w.heap.size w0 w3 v3 ((dp, .mk kind is neg digits exp str keys kids) :: spotsAll (dp + 1) (kids.take (k + 1))) := by
        refine ⟨L1 ++ L2, ?_, fun s hs => ?_, ?_⟩
        · rw [List.map_append, hL1a, hL2a, HST.out]; rfl
        · rcases List.mem_append.1 hs with hs | hs
          · exact hL1b s hs
          · exact hL2b s hs
        · have he : ((dp, Tree.mk kind is neg digits exp str keys kids) :: spotsAll (dp + 1) (kids.take (k + 1))).length = L1.length + L2.length := by rw [HST.out, ← List.cons_append, List.length_append, hx1, hx2]
          rw [he, flatS_append]
          exact hown3
      have hc3 := hc2.kept hgrow (owns_ne_box hL1c hc2 (by decide))
      have hb3 := hbl2.trans (grown_below hgrow (B := w.heap.size) (by omega) (fun k hk => (World.ownsRow.lt hL1c k hk).1))
      have HE := Lib.hid (And.intro hE (And.intro hc3 hb3))
      clear hE hc3 hb3 hc2 hbl2 hgrow hown3 hL1a hL2a HL hL1b hL2b
      go_wp2_with fail
      go_roundw
      case rel => exact ⟨k + 1, hkl, by go_num, HE.out.1, HE.out.2.1, HE.out.2.2⟩
      case measure => simp [intOf]; omega
    · obtain rfl : k = kids.length := by omega
      have hc' := hc
      clear IH
      have hcc0 := hc.cell 0 _ rfl
      have hcf0 := hc.frozen 0
      have hcc1 := hc.cell 1 _ rfl
      have hcf1 := hc.frozen 1
      have hcc2 := hc.cell 2 _ rfl
      have hcf2 := hc.frozen 2
      have hcc3 := hc.cell 3 _ rfl
      have hcf3 := hc.frozen 3
      have hcc4 := hc.cell 4 _ rfl
      have hcf4 := hc.frozen 4
      have hcc5 := hc.cell 5 _ rfl
      have hcf5 := hc.frozen 5
      have hcc6 := hc.cell 6 _ rfl
      have hcf6 := hc.frozen 6
      have hcc7 := hc.cell 7 _ rfl
      have hcf7 := hc.frozen 7
      go_wp2_with fail
      go_ret
      refine ⟨⟨_, rfl, ?_⟩, hbl⟩
      have := HSP.out
      rwa [List.take_length] at this

theorem rWalk_upto (n : Nat) : ∀ (t : Tree), t.bulk ≤ n → t.bulk ≤ 1048576 → ∀ (dp : Nat), dp + t.bulk ≤ 4194304 → ∀ (w0 w : World) (cs : List Value), Below w0.heap.size w0 w → ValAt w0 t cs →
      Calls Tryd.prog 16 #[valV cs, .int .i64 (dp : Int)] w fun e w' => (∃ v, e = .returned v ∧ SpotsP w.heap.size w0 w' v (spots dp t)) ∧ Below w.heap.size w w' := by
  induction n with
  | zero => intro t h; have := bulk_pos t; omega
  | succ n IH =>
    intro t h hmax dp hdp w0 w cs hbw hv
    cases t
    exact rWalk_step n IH _ _ _ _ _ _ _ _ h hmax dp hdp w0 w cs hbw hv
end Go.Proofs.YtpcfhiipkbpmkaaDoor
