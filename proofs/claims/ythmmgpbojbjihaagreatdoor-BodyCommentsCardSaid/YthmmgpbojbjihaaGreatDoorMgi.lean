/- Texts of this claim, one behind the other: BoEa, BoEb, BoF, BoG, BoH, BoI, BoJ, BoL, BoMa, BoM, LxK. -/
import Derived.Test.YthmmgpbojbjihaaGreatDoorMgg
import Derived.Test.YthmmgpbojbjihaaGreatDoorMgh
import Derived.Deep.AppendLies
import Derived.Deep.MidRow
set_option linter.unusedSimpArgs false
set_option linter.unusedVariables false

/- What a line is: attribute or block (layer 13). -/
namespace Go.Proofs.YthmmgpbojbjihaaGreatDoor
open Go.RowKit Go.Tab
theorem one7 (b : Bool) (n o s : ByteArray) (va : Option Addr) (vn vc : Nat) (la : Option Addr) (ln lc : Nat) (ia : Option Addr) (k c : Nat) : ∀ v ∈ (#[.bool b, .string n, .string o, .string s, .slice va vn vc, .slice la ln lc, .slice ia k c] : Array Value).toList, v.oneCell' = true := by
  intro v hv
  simp at hv
  rcases hv with rfl | rfl | rfl | rfl | rfl | rfl | rfl <;> rfl
theorem itm_row {w3 : World} {B n q : Nat} {x : Itm} {cs : List Value} {vals : Array Value} (hq : q < B) (hn : n ≤ B) (hx : ItmIn (fun b => B ≤ b) w3 x cs) : ItmIn (fun b => n ≤ b) (w3.setRow q vals) x cs :=
  ItmIn.move (P := fun b => B ≤ b) (Q := fun b => n ≤ b) (w := w3) (w' := (w3.setRow q vals)) (Nat.le_of_eq (setRow_size w3 q vals).symm) (fun b (hb : B ≤ b) _ => setRow_other w3 q b vals (by omega)) (fun b (hb : B ≤ b) _ => Nat.le_trans hn hb) x cs hx
theorem Save.setRowNew {w w' : World} {g q : Nat} (h : Save g w w') (hq : w.heap.size ≤ q) (vals : Array Value) : Save g w (w'.setRow q vals) :=
  ⟨below_setRow h.1 (Nat.zero_le _) _, fun k hk hn => (setRow_other w' q k vals (by omega)).trans (h.2 k hk hn)⟩
set_option maxHeartbeats 4000000 in
set_option maxRecDepth 100000 in
theorem kind_tab (g : Nat) (oa : Option Addr) (n oc : Nat) (t : Tok) (r : List Tok) (lv : Value) (stop : Int) (last : Bool) (w : World) (h : PBox w g (.slice oa n oc) 0 0) (hr : ToksAt w lv (t :: r)) (ho : ∀ b, lv.ownBlock = some b → b < w.heap.size) (hT : LexT w) (hn : (t :: r).length ≤ 900000) (hsh : ∀ u ∈ (t :: r), u.text.size ≤ 1000000) (hq : ∀ u ∈ (t :: r), u.kind = 3 → quoX u.text ≠ none) (hs0 : signT t sRc = false) (hk1 : t.kind = 1) :
    Calls Tryz.prog 21 #[.pointer (some ⟨g, 0, none⟩), lineV lv stop last] w (KindP g (.slice oa n oc) (lineK n (t :: r) stop last) w) := by
  obtain ⟨ra, rc, rfl, hl1, hl2, -⟩ := hr.len
  obtain ⟨N, hN⟩ : ∃ N, N = (t :: r).length := ⟨_, rfl⟩
  have hNle : N ≤ (t :: r).length ∧ (t :: r).length ≤ N := by omega
  rw [← hN] at hr hl1 ho ⊢
  unfold maxLen at hl2
  have HN := Lib.hid hN
  clear hN
  obtain ⟨R, hR⟩ : ∃ R, R = lineK n (t :: r) stop last := ⟨_, rfl⟩
  have HR := Lib.hid hR
  rw [← hR]
  clear hR
  have hgw := h.lt
  have hbA : Below w.heap.size w ((w.alloc (.cells (lineC (.slice ra N rc) stop last) 48)).alloc (.cells zeroIC.toArray 37)) := ((Below.refl _ w).alloc (Nat.le_refl _) _).alloc (by simp) _
  have kA := (Cells.new w (lineC (.slice ra N rc) stop last) 48).alloc (.cells zeroIC.toArray 37)
  have kB := Cells.new (w.alloc (.cells (lineC (.slice ra N rc) stop last) 48)) zeroIC.toArray 37
  simp only [World.size_alloc] at kB
  have hzA : ((w.alloc (.cells (lineC (.slice ra N rc) stop last) 48)).alloc (.cells zeroIC.toArray 37)).heap.size = w.heap.size + 2 := by simp
  have HS := Lib.hid (show KdS w ((w.alloc (.cells (lineC (.slice ra N rc) stop last) 48)).alloc (.cells zeroIC.toArray 37)) (lineC (.slice ra N rc) stop last) from ⟨hbA, kA, kB, by rw [hzA]; exact Nat.le_refl _⟩)
  have H0 := Lib.hid (And.intro h (And.intro hr (And.intro ho hT)))
  clear hbA kA kB hzA h hr ho hT
  simp only [List.length_cons] at hNle hn
  have hN1 : 1 ≤ N := by omega
  have hNz : ((N : Int) == 0) = false := by rw [beq_eq_false_iff_ne]; omega
  obtain ⟨bb, ob, he, hlt, c0, c1, c2⟩ := (H0.out.2.1.below HS.out.1 (Nat.le_refl _)).get (j := 0) (by simp)
  cases he
  simp only [Nat.zero_mul, Nat.add_zero, List.getElem_cons_zero] at c0 c1 c2
  have hSg := sign_tok t sRc ((w.alloc (.cells (lineC (.slice (some ⟨bb, ob, none⟩) N rc) stop last) 48)).alloc (.cells zeroIC.toArray 37))
  have hRB := HR.out
  simp only [lineK] at hRB
  rw [isS_cons] at hRB
  have HRB := Lib.hid hRB
  clear hRB HR
  have HTT := Lib.hid (And.intro hsh hq)
  have htl := hsh t (by simp)
  clear hsh hq
  simp only [tokV] at hSg
  have HA0 := Lib.hid (And.intro hs0 hk1)
  clear hs0 hk1
  go_enter Tryz.func21, Tryz.ntmps21
  go_wp2_with fail
  refine hSg.mono ?_
  generalize (w.alloc (.cells (lineC (.slice (some ⟨bb, ob, none⟩) N rc) stop last) 48)).alloc (.cells zeroIC.toArray 37) = w1 at *
  clear hSg c0 c1 c2 hlt
  rintro _ w2 ⟨rfl, hb2⟩
  have HS2 := Lib.hid (HS.out.step hb2)
  clear hb2 HS
  have hRB := HRB.out
  clear HRB
  have hs0 := HA0.out.1
  have hk1 := HA0.out.2
  rw [if_neg (by simp [hs0])] at hRB
  have hsg2 : signT t sRc = false := hs0
  rw [hsg2]
  clear hsg2 hs0
  obtain ⟨bb3, ob3, he3, hlt3, c0, c1, c2⟩ := (H0.out.2.1.below HS2.out.1 (Nat.le_refl _)).get (j := 0) (by simp)
  cases he3
  simp only [Nat.zero_mul, Nat.add_zero, List.getElem_cons_zero] at c0 c1 c2
  rw [if_neg (by simpa using hk1)] at hRB
  have hkk : (t.kind != 1) = false := by simp [hk1]
  cases r with
  | nil =>
    have hd : decide ((1 : Int) < (N : Int)) = false := by rw [decide_eq_false_iff_not]; simp at hNle; omega
    rw [if_neg (by simp [isS])] at hRB
    have hC := block_any g oa n oc t [] (.slice (some ⟨bb, ob, none⟩) N rc) stop last w2 (H0.out.1.below HS2.out.1 hgw) (H0.out.2.1.below HS2.out.1 (Nat.le_refl _)) (H0.out.2.2.2.below HS2.out.1).utf (H0.out.2.2.2.below HS2.out.1).utf.pos (by simp) (fun t ht => by cases ht) (fun t ht => by cases ht)
    rw [← hRB] at hC
    obtain ⟨hbl, k0, k1, hz9⟩ := HS2.out
    have hl0 := k0.lt
    have k0c0 := k0.cell 0 _ rfl
    have k0f0 := k0.frozen 0
    have k0c1 := k0.cell 1 _ rfl
    have k0f1 := k0.frozen 1
    have k0c2 := k0.cell 2 _ rfl
    have k0f2 := k0.frozen 2
    clear hbl k0 k1 hRB hk1
    simp only [lineV] at hC
    go_wp2_with fail
    clear k0c0 k0c1 k0c2 k0f0 k0f1 k0f2 c0 c1 c2
    refine hC.mono ?_
    clear hC
    rintro _ w4 ⟨hs4, p4, cs, rfl, hin, hi6⟩
    obtain ⟨cn, cvo, cvt, va, vn, vc, la, ln, lc, cia, ck, ccap, rfl⟩ := ItmIn.shape7 hin
    obtain ⟨hbl, k0, k1, hz9⟩ := HS2.out
    have q4 := hs4.cells k1 (by omega)
    have hl4 := q4.lt
    have HP4 := Lib.hid (And.intro p4 (And.intro ((Save.of hbl).trans hs4) (And.intro hin hi6)))
    have HQ4 := Lib.hid q4
    clear q4 p4 hs4 hbl k0 k1 hin hi6
    generalize (lnX R).block = cb at *
    go_wp2_with (with_reducible first | refine stop_store ?_)
    refine Stop.out ?_
    refine wpList_store_all rfl 37 _ _ rfl rfl _ rfl #[.bool cb, .string cn, .string cvo, .string cvt, .slice va vn vc, .slice la ln lc, .slice cia ck ccap] rfl _ _ HQ4.out rfl (by kernel_rfl) (one7 _ _ _ _ _ _ _ _ _ _ _ _ _) ?_
    have hqq : Cells (w4.setRow (w.heap.size + 1) #[.bool cb, .string cn, .string cvo, .string cvt, .slice va vn vc, .slice la ln lc, .slice cia ck ccap]) (w.heap.size + 1) #[.bool cb, .string cn, .string cvo, .string cvt, .slice va vn vc, .slice la ln lc, .slice cia ck ccap] 37 := setRow_heap _ _ _ _ _ _ HQ4.out
    have y0 := hqq.cell 0 (.bool cb) rfl
    have y1 := hqq.cell 1 (.string cn) rfl
    have y2 := hqq.cell 2 (.string cvo) rfl
    have y3 := hqq.cell 3 (.string cvt) rfl
    have y4 := hqq.cell 4 (.slice va vn vc) rfl
    have y5 := hqq.cell 5 (.slice la ln lc) rfl
    have y6 := hqq.cell 6 (.slice cia ck ccap) rfl
    go_wp2
    refine bodyPost_ret (v := .tuple #[.int .i64 (lnK R), .agg #[.bool cb, .string cn, .string cvo, .string cvt, .slice va vn vc, .slice la ln lc, .slice cia ck ccap]]) (by simp [results, Tryz.results21, go_sem, y0, y1, y2, y3, y4, y5, y6]) rfl ?_
    exact ⟨HP4.out.2.1.setRowNew (by omega) _, (setRow_other _ _ _ _ (by omega)).trans HP4.out.1, _, rfl, itm_row (B := w2.heap.size) (by omega) (by omega) HP4.out.2.2.1, HP4.out.2.2.2⟩
  | cons t2 r2 =>
    have hN2 : 2 ≤ N := by simp at hNle; omega
    have hd : decide ((1 : Int) < (N : Int)) = true := by rw [decide_eq_true_iff]; simp at hNle; omega
    obtain ⟨bb4, ob4, he4, hlt4, d0, d1, d2⟩ := (H0.out.2.1.below HS2.out.1 (Nat.le_refl _)).get (j := 1) (by simp)
    cases he4
    simp only [Nat.one_mul, List.getElem_cons_succ, List.getElem_cons_zero] at d0 d1 d2
    have hSg := sign_tok t2 sEq w2
    rw [isS_cons] at hRB
    have HRB := Lib.hid hRB
    obtain ⟨hbl, k0, k1, hz9⟩ := HS2.out
    have hl0 := k0.lt
    have k0c0 := k0.cell 0 _ rfl
    have k0f0 := k0.frozen 0
    have k0c1 := k0.cell 1 _ rfl
    have k0f1 := k0.frozen 1
    have k0c2 := k0.cell 2 _ rfl
    have k0f2 := k0.frozen 2
    clear hbl k0 k1 hRB hk1
    simp only [tokV] at hSg
    go_wp2_with fail
    refine hSg.mono ?_
    clear hSg k0c0 k0c1 k0c2 k0f0 k0f1 k0f2 c0 c1 c2 d0 d1 d2
    rintro _ w5 ⟨rfl, hb5⟩
    have HS5 := Lib.hid (HS2.out.step hb5)
    clear hb5 HS2
    have hRB := HRB.out
    clear HRB
    have HS2 := HS5
    by_cases hsq : signT t2 sEq = true
    · rw [if_pos hsq] at hRB
      rw [hsq]
      have hC := attribute_any g (.slice oa n oc) t t2 r2 (.slice (some ⟨bb, ob, none⟩) N rc) stop last w5 (H0.out.1.below HS2.out.1 hgw) (H0.out.2.1.below HS2.out.1 (Nat.le_refl _)) (fun b hb => Nat.lt_of_lt_of_le (H0.out.2.2.1 b hb) HS2.out.1.size) (H0.out.2.2.2.below HS2.out.1) (by simp at hn; omega) (fun t ht => HTT.out.1 t (by simp [ht]))
      rw [← hRB] at hC
      obtain ⟨hbl, k0, k1, hz9⟩ := HS2.out
      have hl0 := k0.lt
      have k0c0 := k0.cell 0 _ rfl
      have k0f0 := k0.frozen 0
      have k0c1 := k0.cell 1 _ rfl
      have k0f1 := k0.frozen 1
      have k0c2 := k0.cell 2 _ rfl
      have k0f2 := k0.frozen 2
      clear hbl k0 k1 hRB hsq
      simp only [lineV] at hC
      go_wp2_with fail
      clear k0c0 k0c1 k0c2 k0f0 k0f1 k0f2
      refine hC.mono ?_
      clear hC
      rintro _ w4 ⟨hs4, p4, cs, rfl, hin, hi6⟩
      obtain ⟨cn, cvo, cvt, va, vn, vc, la, ln, lc, cia, ck, ccap, rfl⟩ := ItmIn.shape7 hin
      obtain ⟨hbl, k0, k1, hz9⟩ := HS2.out
      have q4 := hs4.cells k1 (by omega)
      have hl4 := q4.lt
      have HP4 := Lib.hid (And.intro p4 (And.intro ((Save.of hbl).trans hs4) (And.intro hin hi6)))
      have HQ4 := Lib.hid q4
      clear q4 p4 hs4 hbl k0 k1 hin hi6
      generalize (lnX R).block = cb at *
      go_wp2_with (with_reducible first | refine stop_store ?_)
      refine Stop.out ?_
      refine wpList_store_all rfl 37 _ _ rfl rfl _ rfl #[.bool cb, .string cn, .string cvo, .string cvt, .slice va vn vc, .slice la ln lc, .slice cia ck ccap] rfl _ _ HQ4.out rfl (by kernel_rfl) (one7 _ _ _ _ _ _ _ _ _ _ _ _ _) ?_
      have hqq : Cells (w4.setRow (w.heap.size + 1) #[.bool cb, .string cn, .string cvo, .string cvt, .slice va vn vc, .slice la ln lc, .slice cia ck ccap]) (w.heap.size + 1) #[.bool cb, .string cn, .string cvo, .string cvt, .slice va vn vc, .slice la ln lc, .slice cia ck ccap] 37 := setRow_heap _ _ _ _ _ _ HQ4.out
      have y0 := hqq.cell 0 (.bool cb) rfl
      have y1 := hqq.cell 1 (.string cn) rfl
      have y2 := hqq.cell 2 (.string cvo) rfl
      have y3 := hqq.cell 3 (.string cvt) rfl
      have y4 := hqq.cell 4 (.slice va vn vc) rfl
      have y5 := hqq.cell 5 (.slice la ln lc) rfl
      have y6 := hqq.cell 6 (.slice cia ck ccap) rfl
      go_wp2
      refine bodyPost_ret (v := .tuple #[.int .i64 (lnK R), .agg #[.bool cb, .string cn, .string cvo, .string cvt, .slice va vn vc, .slice la ln lc, .slice cia ck ccap]]) (by simp [results, Tryz.results21, go_sem, y0, y1, y2, y3, y4, y5, y6]) rfl ?_
      exact ⟨HP4.out.2.1.setRowNew (by omega) _, (setRow_other _ _ _ _ (by omega)).trans HP4.out.1, _, rfl, itm_row (B := w5.heap.size) (by omega) (by omega) HP4.out.2.2.1, HP4.out.2.2.2⟩
    · rw [if_neg hsq] at hRB
      have hsq2 : signT t2 sEq = false := by simpa using hsq
      rw [hsq2]
      have hC := block_any g oa n oc t (t2 :: r2) (.slice (some ⟨bb, ob, none⟩) N rc) stop last w5 (H0.out.1.below HS2.out.1 hgw) (H0.out.2.1.below HS2.out.1 (Nat.le_refl _)) (H0.out.2.2.2.below HS2.out.1).utf (H0.out.2.2.2.below HS2.out.1).utf.pos (by simp at hn ⊢; omega) (fun t ht => HTT.out.1 t (List.mem_cons_of_mem _ ht)) (fun t ht => HTT.out.2 t (List.mem_cons_of_mem _ ht))
      rw [← hRB] at hC
      obtain ⟨hbl, k0, k1, hz9⟩ := HS2.out
      have hl0 := k0.lt
      have k0c0 := k0.cell 0 _ rfl
      have k0f0 := k0.frozen 0
      have k0c1 := k0.cell 1 _ rfl
      have k0f1 := k0.frozen 1
      have k0c2 := k0.cell 2 _ rfl
      have k0f2 := k0.frozen 2
      clear hbl k0 k1 hRB hsq hsq2
      simp only [lineV] at hC
      go_wp2_with fail
      clear k0c0 k0c1 k0c2 k0f0 k0f1 k0f2
      refine hC.mono ?_
      clear hC
      rintro _ w4 ⟨hs4, p4, cs, rfl, hin, hi6⟩
      obtain ⟨cn, cvo, cvt, va, vn, vc, la, ln, lc, cia, ck, ccap, rfl⟩ := ItmIn.shape7 hin
      obtain ⟨hbl, k0, k1, hz9⟩ := HS2.out
      have q4 := hs4.cells k1 (by omega)
      have hl4 := q4.lt
      have HP4 := Lib.hid (And.intro p4 (And.intro ((Save.of hbl).trans hs4) (And.intro hin hi6)))
      have HQ4 := Lib.hid q4
      clear q4 p4 hs4 hbl k0 k1 hin hi6
      generalize (lnX R).block = cb at *
      go_wp2_with (with_reducible first | refine stop_store ?_)
      refine Stop.out ?_
      refine wpList_store_all rfl 37 _ _ rfl rfl _ rfl #[.bool cb, .string cn, .string cvo, .string cvt, .slice va vn vc, .slice la ln lc, .slice cia ck ccap] rfl _ _ HQ4.out rfl (by kernel_rfl) (one7 _ _ _ _ _ _ _ _ _ _ _ _ _) ?_
      have hqq : Cells (w4.setRow (w.heap.size + 1) #[.bool cb, .string cn, .string cvo, .string cvt, .slice va vn vc, .slice la ln lc, .slice cia ck ccap]) (w.heap.size + 1) #[.bool cb, .string cn, .string cvo, .string cvt, .slice va vn vc, .slice la ln lc, .slice cia ck ccap] 37 := setRow_heap _ _ _ _ _ _ HQ4.out
      have y0 := hqq.cell 0 (.bool cb) rfl
      have y1 := hqq.cell 1 (.string cn) rfl
      have y2 := hqq.cell 2 (.string cvo) rfl
      have y3 := hqq.cell 3 (.string cvt) rfl
      have y4 := hqq.cell 4 (.slice va vn vc) rfl
      have y5 := hqq.cell 5 (.slice la ln lc) rfl
      have y6 := hqq.cell 6 (.slice cia ck ccap) rfl
      go_wp2
      refine bodyPost_ret (v := .tuple #[.int .i64 (lnK R), .agg #[.bool cb, .string cn, .string cvo, .string cvt, .slice va vn vc, .slice la ln lc, .slice cia ck ccap]]) (by simp [results, Tryz.results21, go_sem, y0, y1, y2, y3, y4, y5, y6]) rfl ?_
      exact ⟨HP4.out.2.1.setRowNew (by omega) _, (setRow_other _ _ _ _ (by omega)).trans HP4.out.1, _, rfl, itm_row (B := w5.heap.size) (by omega) (by omega) HP4.out.2.2.1, HP4.out.2.2.2⟩
end Go.Proofs.YthmmgpbojbjihaaGreatDoor

/- What a line is: what is no line (layer 13). -/
namespace Go.Proofs.YthmmgpbojbjihaaGreatDoor
open Go.RowKit Go.Tab
set_option maxHeartbeats 4000000 in
set_option maxRecDepth 100000 in
theorem kind_lack (g : Nat) (oa : Option Addr) (n oc : Nat) (t : Tok) (r : List Tok) (lv : Value) (stop : Int) (last : Bool) (w : World) (h : PBox w g (.slice oa n oc) 0 0) (hr : ToksAt w lv (t :: r)) (ho : ∀ b, lv.ownBlock = some b → b < w.heap.size) (hT : LexT w) (hn : (t :: r).length ≤ 900000) (hsh : ∀ u ∈ (t :: r), u.text.size ≤ 1000000) (hq : ∀ u ∈ (t :: r), u.kind = 3 → quoX u.text ≠ none) (hB : signT t sRc = true ∨ ¬ t.kind = 1) :
    Calls Tryz.prog 21 #[.pointer (some ⟨g, 0, none⟩), lineV lv stop last] w (KindP g (.slice oa n oc) (lineK n (t :: r) stop last) w) := by
  obtain ⟨ra, rc, rfl, hl1, hl2, -⟩ := hr.len
  obtain ⟨N, hN⟩ : ∃ N, N = (t :: r).length := ⟨_, rfl⟩
  have hNle : N ≤ (t :: r).length ∧ (t :: r).length ≤ N := by omega
  rw [← hN] at hr hl1 ho ⊢
  unfold maxLen at hl2
  have HN := Lib.hid hN
  clear hN
  obtain ⟨R, hR⟩ : ∃ R, R = lineK n (t :: r) stop last := ⟨_, rfl⟩
  have HR := Lib.hid hR
  rw [← hR]
  clear hR
  have hgw := h.lt
  have hbA : Below w.heap.size w ((w.alloc (.cells (lineC (.slice ra N rc) stop last) 48)).alloc (.cells zeroIC.toArray 37)) := ((Below.refl _ w).alloc (Nat.le_refl _) _).alloc (by simp) _
  have kA := (Cells.new w (lineC (.slice ra N rc) stop last) 48).alloc (.cells zeroIC.toArray 37)
  have kB := Cells.new (w.alloc (.cells (lineC (.slice ra N rc) stop last) 48)) zeroIC.toArray 37
  simp only [World.size_alloc] at kB
  have hzA : ((w.alloc (.cells (lineC (.slice ra N rc) stop last) 48)).alloc (.cells zeroIC.toArray 37)).heap.size = w.heap.size + 2 := by simp
  have HS := Lib.hid (show KdS w ((w.alloc (.cells (lineC (.slice ra N rc) stop last) 48)).alloc (.cells zeroIC.toArray 37)) (lineC (.slice ra N rc) stop last) from ⟨hbA, kA, kB, by rw [hzA]; exact Nat.le_refl _⟩)
  have H0 := Lib.hid (And.intro h (And.intro hr (And.intro ho hT)))
  clear hbA kA kB hzA h hr ho hT
  simp only [List.length_cons] at hNle hn
  have hN1 : 1 ≤ N := by omega
  have hNz : ((N : Int) == 0) = false := by rw [beq_eq_false_iff_ne]; omega
  obtain ⟨bb, ob, he, hlt, c0, c1, c2⟩ := (H0.out.2.1.below HS.out.1 (Nat.le_refl _)).get (j := 0) (by simp)
  cases he
  simp only [Nat.zero_mul, Nat.add_zero, List.getElem_cons_zero] at c0 c1 c2
  have hSg := sign_tok t sRc ((w.alloc (.cells (lineC (.slice (some ⟨bb, ob, none⟩) N rc) stop last) 48)).alloc (.cells zeroIC.toArray 37))
  have hRB := HR.out
  simp only [lineK] at hRB
  rw [isS_cons] at hRB
  have HRB := Lib.hid hRB
  clear hRB HR
  have HTT := Lib.hid (And.intro hsh hq)
  have htl := hsh t (by simp)
  clear hsh hq
  simp only [tokV] at hSg
  go_enter Tryz.func21, Tryz.ntmps21
  go_wp2_with fail
  refine hSg.mono ?_
  generalize (w.alloc (.cells (lineC (.slice (some ⟨bb, ob, none⟩) N rc) stop last) 48)).alloc (.cells zeroIC.toArray 37) = w1 at *
  clear hSg c0 c1 c2 hlt
  rintro _ w2 ⟨rfl, hb2⟩
  have HS2 := Lib.hid (HS.out.step hb2)
  clear hb2 HS
  have hRB := HRB.out
  clear HRB
  by_cases hsg : signT t sRc = true
  · rw [if_pos hsg] at hRB
    rw [hsg]
    clear hsg
    by_cases h1 : n = 1
    · rw [if_pos h1] at hRB
      have hn1 : ((n : Int) == 1) = true := by rw [beq_iff_eq]; omega
      have HRR := Lib.hid hRB
      clear hRB h1
      have hpc := (H0.out.1.below HS2.out.1 hgw).cell 0 _ rfl
      have hgl := (H0.out.1.below HS2.out.1 hgw).lt
      obtain ⟨hbl, k0, k1, hz9⟩ := HS2.out
      have hL := lacks_any g (.slice oa n oc) (t :: r) (.slice (some ⟨bb, ob, none⟩) N rc) stop last (0) _ (H0.out.1.below hbl hgw) (H0.out.2.1.below hbl (Nat.le_refl _)) (by simp; omega)
      rw [← HRR.out, show (((0 : Nat)) : Int) = 0 from rfl] at hL
      have H9 : Hid (lnK R = 0 ∧ lnX R = zeroI) := Lib.hid (by rw [HRR.out]; exact lack_zero _ _ _ _)
      simp only [lineV] at hL
      have hl0 := k0.lt
      have hgl := (H0.out.1.below hbl hgw).lt
      have hpc := (H0.out.1.below hbl hgw).cell 0 _ rfl
      have k0c0 := k0.cell 0 _ rfl
      have k0f0 := k0.frozen 0
      have k0c1 := k0.cell 1 _ rfl
      have k0f1 := k0.frozen 1
      have k0c2 := k0.cell 2 _ rfl
      have k0f2 := k0.frozen 2
      clear hbl k0 k1
      go_wp2_with fail
      refine hL.mono ?_
      clear hL k0c0 k0c1 k0c2 k0f0 k0f1 k0f2 hpc hgl
      rintro _ w4 ⟨rfl, hs4, p4⟩
      obtain ⟨hbl, k0, k1, -⟩ := HS2.out
      have q4 := hs4.cells k1 (by omega)
      have hl4 := q4.lt
      have HP4 := Lib.hid (And.intro p4 ((Save.of hbl).trans hs4))
      have HQ4 := Lib.hid q4
      have q4c0 := q4.cell 0 _ rfl
      have q4f0 := q4.frozen 0
      have q4c1 := q4.cell 1 _ rfl
      have q4f1 := q4.frozen 1
      have q4c2 := q4.cell 2 _ rfl
      have q4f2 := q4.frozen 2
      have q4c3 := q4.cell 3 _ rfl
      have q4f3 := q4.frozen 3
      have q4c4 := q4.cell 4 _ rfl
      have q4f4 := q4.frozen 4
      have q4c5 := q4.cell 5 _ rfl
      have q4f5 := q4.frozen 5
      have q4c6 := q4.cell 6 _ rfl
      have q4f6 := q4.frozen 6
      clear q4 p4 hs4 hbl k0 k1
      go_wp2_with fail
      have hqq := HQ4.out.put zeroIC 0
      have y0 := hqq.cell 0 (.bool false) rfl
      have y1 := hqq.cell 1 (.string ⟨#[]⟩) rfl
      have y2 := hqq.cell 2 (.string ⟨#[]⟩) rfl
      have y3 := hqq.cell 3 (.string ⟨#[]⟩) rfl
      have y4 := hqq.cell 4 (.slice none 0 0) rfl
      have y5 := hqq.cell 5 (.slice none 0 0) rfl
      have y6 := hqq.cell 6 (.slice none 0 0) rfl
      simp only [setAll] at y0 y1 y2 y3 y4 y5 y6
      refine bodyPost_ret (v := .tuple #[.int .i64 0, .agg #[.bool false, .string ⟨#[]⟩, .string ⟨#[]⟩, .string ⟨#[]⟩, .slice none 0 0, .slice none 0 0, .slice none 0 0]]) (by simp [results, Tryz.results21, go_sem, y0, y1, y2, y3, y4, y5, y6]) rfl ?_
      show KindP g (.slice oa n oc) R w _ (setAll w4 (w.heap.size + 1) 0 zeroIC)
      exact ⟨HP4.out.2.setAllNew (by omega) _, HP4.out.1.setAllOther (by omega), zeroIC, by rw [H9.out.1], (by rw [H9.out.2]; exact ItmIn.zero _ _), rfl⟩
    · rw [if_neg h1] at hRB
      have hn1 : ((n : Int) == 1) = false := by rw [beq_eq_false_iff_ne]; omega
      simp only [List.length_cons] at hRB
      by_cases h2 : 1 < r.length + 1
      · rw [if_pos h2] at hRB
        have hd : decide ((1 : Int) < (N : Int)) = true := by rw [decide_eq_true_iff]; omega
        have HRR := Lib.hid hRB
        clear hRB h1 h2
        obtain ⟨hbl, k0, k1, hz9⟩ := HS2.out
        have hL := lacks_any g (.slice oa n oc) (t :: r) (.slice (some ⟨bb, ob, none⟩) N rc) stop last (1) _ (H0.out.1.below hbl hgw) (H0.out.2.1.below hbl (Nat.le_refl _)) (by simp; omega)
        rw [← HRR.out, show (((1 : Nat)) : Int) = 1 from rfl] at hL
        have H9 : Hid (lnK R = 0 ∧ lnX R = zeroI) := Lib.hid (by rw [HRR.out]; exact lack_zero _ _ _ _)
        simp only [lineV] at hL
        have hl0 := k0.lt
        have hgl := (H0.out.1.below hbl hgw).lt
        have hpc := (H0.out.1.below hbl hgw).cell 0 _ rfl
        have k0c0 := k0.cell 0 _ rfl
        have k0f0 := k0.frozen 0
        have k0c1 := k0.cell 1 _ rfl
        have k0f1 := k0.frozen 1
        have k0c2 := k0.cell 2 _ rfl
        have k0f2 := k0.frozen 2
        clear hbl k0 k1
        go_wp2_with fail
        refine hL.mono ?_
        clear hL k0c0 k0c1 k0c2 k0f0 k0f1 k0f2 hpc hgl
        rintro _ w4 ⟨rfl, hs4, p4⟩
        obtain ⟨hbl, k0, k1, -⟩ := HS2.out
        have q4 := hs4.cells k1 (by omega)
        have hl4 := q4.lt
        have HP4 := Lib.hid (And.intro p4 ((Save.of hbl).trans hs4))
        have HQ4 := Lib.hid q4
        have q4c0 := q4.cell 0 _ rfl
        have q4f0 := q4.frozen 0
        have q4c1 := q4.cell 1 _ rfl
        have q4f1 := q4.frozen 1
        have q4c2 := q4.cell 2 _ rfl
        have q4f2 := q4.frozen 2
        have q4c3 := q4.cell 3 _ rfl
        have q4f3 := q4.frozen 3
        have q4c4 := q4.cell 4 _ rfl
        have q4f4 := q4.frozen 4
        have q4c5 := q4.cell 5 _ rfl
        have q4f5 := q4.frozen 5
        have q4c6 := q4.cell 6 _ rfl
        have q4f6 := q4.frozen 6
        clear q4 p4 hs4 hbl k0 k1
        go_wp2_with fail
        have hqq := HQ4.out.put zeroIC 0
        have y0 := hqq.cell 0 (.bool false) rfl
        have y1 := hqq.cell 1 (.string ⟨#[]⟩) rfl
        have y2 := hqq.cell 2 (.string ⟨#[]⟩) rfl
        have y3 := hqq.cell 3 (.string ⟨#[]⟩) rfl
        have y4 := hqq.cell 4 (.slice none 0 0) rfl
        have y5 := hqq.cell 5 (.slice none 0 0) rfl
        have y6 := hqq.cell 6 (.slice none 0 0) rfl
        simp only [setAll] at y0 y1 y2 y3 y4 y5 y6
        refine bodyPost_ret (v := .tuple #[.int .i64 0, .agg #[.bool false, .string ⟨#[]⟩, .string ⟨#[]⟩, .string ⟨#[]⟩, .slice none 0 0, .slice none 0 0, .slice none 0 0]]) (by simp [results, Tryz.results21, go_sem, y0, y1, y2, y3, y4, y5, y6]) rfl ?_
        show KindP g (.slice oa n oc) R w _ (setAll w4 (w.heap.size + 1) 0 zeroIC)
        exact ⟨HP4.out.2.setAllNew (by omega) _, HP4.out.1.setAllOther (by omega), zeroIC, by rw [H9.out.1], (by rw [H9.out.2]; exact ItmIn.zero _ _), rfl⟩
      · rw [if_neg h2] at hRB
        have hd : decide ((1 : Int) < (N : Int)) = false := by rw [decide_eq_false_iff_not]; omega
        have HRR := Lib.hid hRB
        have H9 : Hid (lnK R = 5 ∧ lnX R = zeroI) := Lib.hid (by rw [HRR.out]; exact ⟨rfl, rfl⟩)
        clear hRB h1 h2
        obtain ⟨hbl, k0, k1, hz9⟩ := HS2.out
        have hpb := H0.out.1.below hbl hgw
        have hpc := hpb.cell 0 _ rfl
        have hgl := hpb.lt
        have hl0 := k0.lt
        have hl4 := k1.lt
        have p4 : PBox w2 g (.slice oa n oc) (lnE R).1 (lnE R).2 := by rw [HRR.out]; exact hpb
        have HP4 := Lib.hid (And.intro p4 (Save.of (g := g) hbl))
        have HQ4 := Lib.hid k1
        have k0c0 := k0.cell 0 _ rfl
        have k0f0 := k0.frozen 0
        have k0c1 := k0.cell 1 _ rfl
        have k0f1 := k0.frozen 1
        have k0c2 := k0.cell 2 _ rfl
        have k0f2 := k0.frozen 2
        have k1c0 := k1.cell 0 _ rfl
        have k1f0 := k1.frozen 0
        have k1c1 := k1.cell 1 _ rfl
        have k1f1 := k1.frozen 1
        have k1c2 := k1.cell 2 _ rfl
        have k1f2 := k1.frozen 2
        have k1c3 := k1.cell 3 _ rfl
        have k1f3 := k1.frozen 3
        have k1c4 := k1.cell 4 _ rfl
        have k1f4 := k1.frozen 4
        have k1c5 := k1.cell 5 _ rfl
        have k1f5 := k1.frozen 5
        have k1c6 := k1.cell 6 _ rfl
        have k1f6 := k1.frozen 6
        clear hbl k0 k1 hpb p4
        go_wp2_with fail
        have hqq := HQ4.out.put zeroIC 0
        have y0 := hqq.cell 0 (.bool false) rfl
        have y1 := hqq.cell 1 (.string ⟨#[]⟩) rfl
        have y2 := hqq.cell 2 (.string ⟨#[]⟩) rfl
        have y3 := hqq.cell 3 (.string ⟨#[]⟩) rfl
        have y4 := hqq.cell 4 (.slice none 0 0) rfl
        have y5 := hqq.cell 5 (.slice none 0 0) rfl
        have y6 := hqq.cell 6 (.slice none 0 0) rfl
        simp only [setAll] at y0 y1 y2 y3 y4 y5 y6
        refine bodyPost_ret (v := .tuple #[.int .i64 5, .agg #[.bool false, .string ⟨#[]⟩, .string ⟨#[]⟩, .string ⟨#[]⟩, .slice none 0 0, .slice none 0 0, .slice none 0 0]]) (by simp [results, Tryz.results21, go_sem, y0, y1, y2, y3, y4, y5, y6]) rfl ?_
        show KindP g (.slice oa n oc) R w _ (setAll w2 (w.heap.size + 1) 0 zeroIC)
        exact ⟨HP4.out.2.setAllNew (by omega) _, HP4.out.1.setAllOther (by omega), zeroIC, by rw [H9.out.1], (by rw [H9.out.2]; exact ItmIn.zero _ _), rfl⟩
  · rw [if_neg hsg] at hRB
    have hsg2 : signT t sRc = false := by simpa using hsg
    have hsg0 := hsg
    rw [hsg2]
    clear hsg hsg2
    obtain ⟨bb3, ob3, he3, hlt3, c0, c1, c2⟩ := (H0.out.2.1.below HS2.out.1 (Nat.le_refl _)).get (j := 0) (by simp)
    cases he3
    simp only [Nat.zero_mul, Nat.add_zero, List.getElem_cons_zero] at c0 c1 c2
    by_cases hk1 : t.kind = 1
    · exact absurd hk1 (by exact hB.resolve_left hsg0)
    · rw [if_pos (by simpa using hk1)] at hRB
      have hkk : (t.kind != 1) = true := by simpa using hk1
      have HRR := Lib.hid hRB
      have hl00 := HS2.out.2.1.lt
      have hc00 := HS2.out.2.1.cell 0 _ rfl
      clear hRB hk1
      obtain ⟨hbl, k0, k1, hz9⟩ := HS2.out
      have hL := lacks_any g (.slice oa n oc) (t :: r) (.slice (some ⟨bb, ob, none⟩) N rc) stop last (0) _ (H0.out.1.below hbl hgw) (H0.out.2.1.below hbl (Nat.le_refl _)) (by simp; omega)
      rw [← HRR.out, show (((0 : Nat)) : Int) = 0 from rfl] at hL
      have H9 : Hid (lnK R = 0 ∧ lnX R = zeroI) := Lib.hid (by rw [HRR.out]; exact lack_zero _ _ _ _)
      simp only [lineV] at hL
      have hl0 := k0.lt
      have hgl := (H0.out.1.below hbl hgw).lt
      have hpc := (H0.out.1.below hbl hgw).cell 0 _ rfl
      have k0c0 := k0.cell 0 _ rfl
      have k0f0 := k0.frozen 0
      have k0c1 := k0.cell 1 _ rfl
      have k0f1 := k0.frozen 1
      have k0c2 := k0.cell 2 _ rfl
      have k0f2 := k0.frozen 2
      clear hbl k0 k1
      go_wp2_with fail
      refine hL.mono ?_
      clear hL k0c0 k0c1 k0c2 k0f0 k0f1 k0f2 hpc hgl
      rintro _ w4 ⟨rfl, hs4, p4⟩
      obtain ⟨hbl, k0, k1, -⟩ := HS2.out
      have q4 := hs4.cells k1 (by omega)
      have hl4 := q4.lt
      have HP4 := Lib.hid (And.intro p4 ((Save.of hbl).trans hs4))
      have HQ4 := Lib.hid q4
      have q4c0 := q4.cell 0 _ rfl
      have q4f0 := q4.frozen 0
      have q4c1 := q4.cell 1 _ rfl
      have q4f1 := q4.frozen 1
      have q4c2 := q4.cell 2 _ rfl
      have q4f2 := q4.frozen 2
      have q4c3 := q4.cell 3 _ rfl
      have q4f3 := q4.frozen 3
      have q4c4 := q4.cell 4 _ rfl
      have q4f4 := q4.frozen 4
      have q4c5 := q4.cell 5 _ rfl
      have q4f5 := q4.frozen 5
      have q4c6 := q4.cell 6 _ rfl
      have q4f6 := q4.frozen 6
      clear q4 p4 hs4 hbl k0 k1
      go_wp2_with fail
      have hqq := HQ4.out.put zeroIC 0
      have y0 := hqq.cell 0 (.bool false) rfl
      have y1 := hqq.cell 1 (.string ⟨#[]⟩) rfl
      have y2 := hqq.cell 2 (.string ⟨#[]⟩) rfl
      have y3 := hqq.cell 3 (.string ⟨#[]⟩) rfl
      have y4 := hqq.cell 4 (.slice none 0 0) rfl
      have y5 := hqq.cell 5 (.slice none 0 0) rfl
      have y6 := hqq.cell 6 (.slice none 0 0) rfl
      simp only [setAll] at y0 y1 y2 y3 y4 y5 y6
      refine bodyPost_ret (v := .tuple #[.int .i64 0, .agg #[.bool false, .string ⟨#[]⟩, .string ⟨#[]⟩, .string ⟨#[]⟩, .slice none 0 0, .slice none 0 0, .slice none 0 0]]) (by simp [results, Tryz.results21, go_sem, y0, y1, y2, y3, y4, y5, y6]) rfl ?_
      show KindP g (.slice oa n oc) R w _ (setAll w4 (w.heap.size + 1) 0 zeroIC)
      exact ⟨HP4.out.2.setAllNew (by omega) _, HP4.out.1.setAllOther (by omega), zeroIC, by rw [H9.out.1], (by rw [H9.out.2]; exact ItmIn.zero _ _), rfl⟩
end Go.Proofs.YthmmgpbojbjihaaGreatDoor

/- What a line is, whole (layer 13). -/
namespace Go.Proofs.YthmmgpbojbjihaaGreatDoor
open Go.RowKit Go.Tab

theorem kind_any (g : Nat) (oa : Option Addr) (n oc : Nat) (row : List Tok) (lv : Value) (stop : Int) (last : Bool) (w : World) (h : PBox w g (.slice oa n oc) 0 0) (hr : ToksAt w lv row) (ho : ∀ b, lv.ownBlock = some b → b < w.heap.size) (hT : LexT w) (hn : row.length ≤ 900000) (hsh : ∀ t ∈ row, t.text.size ≤ 1000000) (hq : ∀ t ∈ row, t.kind = 3 → quoX t.text ≠ none) :
    Calls Tryz.prog 21 #[.pointer (some ⟨g, 0, none⟩), lineV lv stop last] w (KindP g (.slice oa n oc) (lineK n row stop last) w) := by
  cases row with
  | nil => exact kind_nil g oa n oc lv stop last w h hr ho hT hn hsh hq
  | cons t r =>
    by_cases h1 : signT t sRc = true
    · exact kind_lack g oa n oc t r lv stop last w h hr ho hT hn hsh hq (.inl h1)
    · by_cases h2 : t.kind = 1
      · exact kind_tab g oa n oc t r lv stop last w h hr ho hT hn hsh hq (by simpa using h1) h2
      · exact kind_lack g oa n oc t r lv stop last w h hr ho hT hn hsh hq (.inr h2)
end Go.Proofs.YthmmgpbojbjihaaGreatDoor

/- What lies in rows of items when one is appended and stored (layer 13). -/
namespace Go.Proofs.YthmmgpbojbjihaaGreatDoor
open Go.RowKit Go.Tab

def setL (xs : List Value) : Nat → List Value → List Value
  | _, [] => xs
  | o, v :: r => setL (xs.set o v) (o + 1) r
theorem setL_end : ∀ (vs zs ts : List Value), zs.length = vs.length → setL (ts ++ zs) ts.length vs = ts ++ vs
  | [], [], ts, _ => rfl
  | [], _ :: _, _, h => by simp at h
  | _ :: _, [], _, h => by simp at h
  | v :: r, z :: zs, ts, h => by
    have ih := setL_end r zs (ts ++ [v]) (by simpa using h)
    simp only [List.length_append, List.length_cons, List.length_nil, List.append_assoc, List.cons_append, List.nil_append] at ih
    rw [setL, List.set_append_right _ _ (Nat.le_refl _), Nat.sub_self, List.set_cons_zero]
    exact ih
theorem own_cells {base g n cap size : Nat} {e : TypeId} : ∀ (vs : List Value) (o : Nat) {w : World} {xs : List Value}, w.ownsRow base e size (.slice (some ⟨g, 0, none⟩) n cap) n xs → (w.setCells g o vs).ownsRow base e size (.slice (some ⟨g, 0, none⟩) n cap) n (setL xs o vs)
  | [], _, _, _, h => h
  | v :: r, o, _, _, h => own_cells r (o + 1) (h.stored o v).1
theorem grown_cells (g : Nat) : ∀ (vs : List Value) (o : Nat) (w : World), w.grownBy (w.setCells g o vs) (some g)
  | [], _, w => ⟨rfl, rfl, rfl, Nat.le_refl _, fun _ _ _ => rfl⟩
  | v :: r, o, w => World.grownBy.trans (b := w.setCell ⟨g, o, none⟩ v) ⟨rfl, rfl, rfl, by simp [World.setCell], fun k _ hk => heap_setCell_other w ⟨g, o, none⟩ k v (fun e => hk (by simp [e]))⟩ (grown_cells g r (o + 1) _)
theorem there_own {base g n cap size : Nat} {e : TypeId} {w : World} {xs : List Value} (h : w.ownsRow base e size (.slice (some ⟨g, 0, none⟩) n cap) n xs) (o m : Nat) (hm : o + m ≤ n * size) : w.there g o m := fun j hj => by
  refine ⟨?_, h.frozenAt _⟩
  rw [h.cellAt _ (by omega), List.getElem?_eq_getElem (by rw [h.1]; omega)]
  rfl
section
variable {P : Program}
/-- A store of many cells, at a step of a region that draws its order. -/
theorem step_store_mid {ops : Array Oper} {o : Oper} {a : Act} {w : World} {K : Act → World → Prop} {Q : Exit → Act → World → Prop} {E : Prop} (hgd : o.guard = none) (ty : TypeId) (x y : Operand) (ho : o.op = .store ty x y)
    (b f : Nat) (cells : Array Value) (hx : a.eval x = .pointer (some ⟨b, f, none⟩)) (hy : a.eval y = .agg cells)
    (ht : w.there b f cells.size) (hi : (P.info? ty).map (·.size) = some cells.size) (h1 : cells.all (·.oneCell') = true)
    (h : K (a.put o.dst undef) (w.setCells b f cells.toList)) : if Region.wanted o (yielded ops a.tmps) = true then Oper.wp P o a w K Q else E := by
  have hw : Region.wanted o (yielded ops a.tmps) = true := by simp [Region.wanted, hgd]
  rw [if_pos hw]
  exact wp_store_mid ty x y ho b f cells hx hy ht hi h1 h
end
end Go.Proofs.YthmmgpbojbjihaaGreatDoor

/- An item is laid into what is open (layer 13). -/
namespace Go.Proofs.YthmmgpbojbjihaaGreatDoor
open Go.RowKit Go.Tab

theorem zeroIC_one : ∀ u ∈ zeroIC, u.oneCell' = true := by
  intro u hu
  simp [zeroIC] at hu
  rcases hu with rfl | rfl | rfl | rfl | rfl | rfl | rfl <;> rfl
theorem zero_at {n : Nat} (w : World) (hw : w.heap.size = n) (j : Nat) (u : Value) (hu : zeroIC[j]? = some u) : (w.alloc (.cells zeroIC.toArray 37)).cell? ⟨n, j, none⟩ = some u := by
  subst hw
  rw [World.cell?_alloc_new]
  simpa using hu
theorem two_size (w : World) (o1 o2 : Obj) : ((w.alloc o1).alloc o2).heap.size = w.heap.size + 2 := by
  rw [World.size_alloc, World.size_alloc]
theorem add_at {w : World} {base k n ob oc : Nat} {v : Value} {ts os : List Value} (o : Obj) (hb : base ≤ w.heap.size) (h1 : w.ownsRow base 37 7 v k ts) (h2 : w.ownsRow base 37 7 (.slice (some ⟨ob, 0, none⟩) n oc) n os) :
    (((w.alloc o).alloc (.cells zeroIC.toArray 37)).drew.drew.ownsRow base 37 7 v k ts) ∧ (((w.alloc o).alloc (.cells zeroIC.toArray 37)).drew.drew.ownsRow base 37 7 (.slice (some ⟨ob, 0, none⟩) n oc) n os) ∧
    (∀ (j : Nat) (u : Value), zeroIC[j]? = some u → ((w.alloc o).alloc (.cells zeroIC.toArray 37)).drew.drew.cell? ⟨w.heap.size + 1, j, none⟩ = some u) ∧ base ≤ ((w.alloc o).alloc (.cells zeroIC.toArray 37)).drew.drew.heap.size ∧ ((w.alloc o).alloc (.cells zeroIC.toArray 37)).drew.drew.heap.size = w.heap.size + 2 ∧ Below w.heap.size w ((w.alloc o).alloc (.cells zeroIC.toArray 37)).drew.drew :=
  ⟨show ((w.alloc o).alloc (.cells zeroIC.toArray 37)).ownsRow _ _ _ _ _ _ from (h1.alloc _).alloc _, show ((w.alloc o).alloc (.cells zeroIC.toArray 37)).ownsRow _ _ _ _ _ _ from (h2.alloc _).alloc _,
    fun j u hu => zero_at (w.alloc o) (World.size_alloc w _) j u hu, Nat.le_trans hb (Nat.le_trans (Nat.le_add_right _ 2) (Nat.le_of_eq (two_size w o (.cells zeroIC.toArray 37)).symm)), two_size w o _, ((((Below.refl _ w).alloc (Nat.le_refl _) _).alloc (by simp) _).drew).drew⟩
theorem new_at {w : World} {base k g cap : Nat} {ts : List Value} (h : w.ownsRow base 37 7 (.slice (some ⟨g, 0, none⟩) (k + 1) cap) (k + 1) (ts ++ zeroIC)) (hl : ts.length = k * 7) (j : Nat) (u : Value) (hu : zeroIC[j]? = some u) : w.cell? ⟨g, k * 7 + j, none⟩ = some u := by
  have hj : j < 7 := (List.getElem?_eq_some_iff.1 hu).1
  rw [h.cellAt _ (by omega), List.getElem?_append_right (by omega), show k * 7 + j - ts.length = j by omega]
  exact hu
theorem new_at0 {w : World} {base k g cap : Nat} {ts : List Value} (h : w.ownsRow base 37 7 (.slice (some ⟨g, 0, none⟩) (k + 1) cap) (k + 1) (ts ++ zeroIC)) (hl : ts.length = k * 7) : w.cell? ⟨g, k * 7, none⟩ = some (.bool false) := new_at h hl 0 _ rfl
theorem add_far {v : Value} {g ob H n : Nat} (h : v.ownBlock = some g ∨ g = H) (hH : H = n + 2) (hne : v.ownBlock ≠ some ob) (hl : ob < n) : ¬ g = ob ∧ (v.ownBlock = some g ∨ g = n + 2) :=
  ⟨fun e => h.elim (fun q => hne (by rw [q, e])) (fun q => by omega), h.imp id (fun q => q.trans hH)⟩
/-- What add leaves: the top's items with one more, and the top's cell that says so; nothing else is written. -/
def AddP (base ob oc M k : Nat) (os ts xs : List Value) (tv : Value) (w : World) (r : Ending) (w' : World) : Prop :=
  r = .returned (.tuple #[]) ∧ ∃ g2 cap2, w'.ownsRow base 37 7 (.slice (some ⟨g2, 0, none⟩) (k + 1) cap2) (k + 1) (ts ++ xs) ∧
    w'.ownsRow base 37 7 (.slice (some ⟨ob, 0, none⟩) (M + 1) oc) (M + 1) (os.set (M * 7 + 6) (.slice (some ⟨g2, 0, none⟩) (k + 1) cap2)) ∧
    (tv.ownBlock = some g2 ∨ w.heap.size ≤ g2) ∧ Below 0 w w' ∧ (∀ b, b < w.heap.size → b ≠ ob → tv.ownBlock ≠ some b → w'.heap[b]? = w.heap[b]?)
section
variable {base ob oc M N k g3 cap3 : Nat} {os ts xs : List Value} {tv : Value} {w W w3 : World}
theorem add_far2 {b : Nat} (hat : tv.ownBlock = some g3 ∨ g3 = w.heap.size + 2) (h1 : b < w.heap.size) (h2 : tv.ownBlock ≠ some b) : b ≠ g3 := fun e => hat.elim (fun q => h2 (by rw [q, e])) (fun q => by omega)
theorem add_end1 (hx : xs.length = 7) (HN : N = M + 1) (hL : ts.length = k * 7) (hne : ¬ g3 = ob) (hW : Below w.heap.size w W) (h1 : w3.ownsRow base 37 7 (.slice (some ⟨g3, 0, none⟩) (k + 1) cap3) (k + 1) (ts ++ zeroIC)) (h2 : W.grownBy w3 tv.ownBlock) (hat : tv.ownBlock = some g3 ∨ g3 = w.heap.size + 2)
    (h3 : w3.ownsRow base 37 7 (.slice (some ⟨ob, 0, none⟩) N oc) N os) : AddP base ob oc M k os ts xs tv w (.returned (.tuple #[])) ((w3.setCells g3 (k * 7) xs).setCell ⟨ob, M * 7 + 6, none⟩ (.slice (some ⟨g3, 0, none⟩) (k + 1) cap3)) := by
  subst HN
  have a1 := own_cells xs (k * 7) h1
  rw [← hL, setL_end xs zeroIC ts (by rw [hx]; rfl), hL] at a1
  have a2 := grown_cells g3 xs (k * 7) w3
  have a3 := h3.kept a2 (.inr (fun e => hne (by simpa [Value.ownBlock] using e.symm)))
  obtain ⟨a4, a5⟩ := a3.stored (M * 7 + 6) (.slice (some ⟨g3, 0, none⟩) (k + 1) cap3)
  refine ⟨rfl, g3, cap3, a1.kept a5 (.inr (fun e => hne (by simpa [Value.ownBlock] using e))), a4, hat.imp id (fun q => by omega), ?_, fun b hb1 hb2 hb3 => ?_⟩
  · exact ((((hW.mono (Nat.zero_le _)).grown h2 (Nat.zero_le _) (fun _ _ => Nat.zero_le _)).grown a2 (Nat.zero_le _) (fun _ _ => Nat.zero_le _)).grown a5 (Nat.zero_le _) (fun _ _ => Nat.zero_le _))
  · have z1 := hW.size
    have z2 := h2.size
    have z3 := a2.size
    rw [a5.block b (by omega) (fun e => hb2 (Option.some.inj e)), a2.block b (by omega) (fun e => add_far2 hat hb1 hb3 (Option.some.inj e)), h2.block b (by omega) (fun e => hb3 e.symm)]
    exact hW.block b hb1
theorem add_end2 (hx : xs.length = 7) (HN : N = M + 1) (hL : ts.length = k * 7) (hne : ¬ g3 = ob) (hW : Below w.heap.size w W) (h1 : w3.ownsRow base 37 7 (.slice (some ⟨g3, 0, none⟩) (k + 1) cap3) (k + 1) (ts ++ zeroIC)) (h2 : W.grownBy w3 tv.ownBlock) (hat : tv.ownBlock = some g3 ∨ g3 = w.heap.size + 2)
    (h3 : w3.ownsRow base 37 7 (.slice (some ⟨ob, 0, none⟩) N oc) N os) : AddP base ob oc M k os ts xs tv w (.returned (.tuple #[])) ((w3.setCell ⟨ob, M * 7 + 6, none⟩ (.slice (some ⟨g3, 0, none⟩) (k + 1) cap3)).setCells g3 (k * 7) xs) := by
  subst HN
  obtain ⟨a4, a5⟩ := h3.stored (M * 7 + 6) (.slice (some ⟨g3, 0, none⟩) (k + 1) cap3)
  have a1 := own_cells xs (k * 7) (h1.kept a5 (.inr (fun e => hne (by simpa [Value.ownBlock] using e))))
  rw [← hL, setL_end xs zeroIC ts (by rw [hx]; rfl), hL] at a1
  have a2 := grown_cells g3 xs (k * 7) (w3.setCell ⟨ob, M * 7 + 6, none⟩ (.slice (some ⟨g3, 0, none⟩) (k + 1) cap3))
  refine ⟨rfl, g3, cap3, a1, a4.kept a2 (.inr (fun e => hne (by simpa [Value.ownBlock] using e.symm))), hat.imp id (fun q => by omega), ?_, fun b hb1 hb2 hb3 => ?_⟩
  · exact ((((hW.mono (Nat.zero_le _)).grown h2 (Nat.zero_le _) (fun _ _ => Nat.zero_le _)).grown a5 (Nat.zero_le _) (fun _ _ => Nat.zero_le _)).grown a2 (Nat.zero_le _) (fun _ _ => Nat.zero_le _))
  · have z1 := hW.size
    have z2 := h2.size
    have z3 := a5.size
    rw [a2.block b (by omega) (fun e => add_far2 hat hb1 hb3 (Option.some.inj e)), a5.block b (by omega) (fun e => hb2 (Option.some.inj e)), h2.block b (by omega) (fun e => hb3 e.symm)]
    exact hW.block b hb1
theorem add_c1 {a0 a1 a2 a3 a4 a5 a6 : Value} (HN : N = M + 1) (hL : ts.length = k * 7) (hne : ¬ g3 = ob) (h1 : w3.ownsRow base 37 7 (.slice (some ⟨g3, 0, none⟩) (k + 1) cap3) (k + 1) (ts ++ zeroIC)) (h2 : W.grownBy w3 tv.ownBlock) (hat : tv.ownBlock = some g3 ∨ g3 = w.heap.size + 2)
    (h3 : w3.ownsRow base 37 7 (.slice (some ⟨ob, 0, none⟩) N oc) N os) (hW : Below w.heap.size w W) : AddP base ob oc M k os ts [a0, a1, a2, a3, a4, a5, a6] tv w (.returned (.tuple #[])) ((((((((w3.setCell ⟨g3, k * 7, none⟩ a0).setCell ⟨g3, k * 7 + 1, none⟩ a1).setCell ⟨g3, k * 7 + 2, none⟩ a2).setCell ⟨g3, k * 7 + 3, none⟩ a3).setCell ⟨g3, k * 7 + 4, none⟩ a4).setCell ⟨g3, k * 7 + 5, none⟩ a5).setCell ⟨g3, k * 7 + 6, none⟩ a6).setCell ⟨ob, M * 7 + 6, none⟩ (.slice (some ⟨g3, 0, none⟩) (k + 1) cap3)) :=
  add_end1 (xs := [a0, a1, a2, a3, a4, a5, a6]) rfl HN hL hne hW h1 h2 hat h3
theorem add_c2 {a0 a1 a2 a3 a4 a5 a6 : Value} (HN : N = M + 1) (hL : ts.length = k * 7) (hne : ¬ g3 = ob) (h1 : w3.ownsRow base 37 7 (.slice (some ⟨g3, 0, none⟩) (k + 1) cap3) (k + 1) (ts ++ zeroIC)) (h2 : W.grownBy w3 tv.ownBlock) (hat : tv.ownBlock = some g3 ∨ g3 = w.heap.size + 2)
    (h3 : w3.ownsRow base 37 7 (.slice (some ⟨ob, 0, none⟩) N oc) N os) (hW : Below w.heap.size w W) : AddP base ob oc M k os ts [a0, a1, a2, a3, a4, a5, a6] tv w (.returned (.tuple #[])) ((((((((w3.setCell ⟨ob, M * 7 + 6, none⟩ (.slice (some ⟨g3, 0, none⟩) (k + 1) cap3)).setCell ⟨g3, k * 7, none⟩ a0).setCell ⟨g3, k * 7 + 1, none⟩ a1).setCell ⟨g3, k * 7 + 2, none⟩ a2).setCell ⟨g3, k * 7 + 3, none⟩ a3).setCell ⟨g3, k * 7 + 4, none⟩ a4).setCell ⟨g3, k * 7 + 5, none⟩ a5).setCell ⟨g3, k * 7 + 6, none⟩ a6) :=
  add_end2 (xs := [a0, a1, a2, a3, a4, a5, a6]) rfl HN hL hne hW h1 h2 hat h3
end
set_option maxHeartbeats 4000000 in
set_option maxRecDepth 100000 in
theorem add_any (g ob oc M k base : Nat) (a e : Int) (os ts : List Value) (tv : Value) (xb : Bool) (xn xo xs : ByteArray) (va : Option Addr) (vn vc : Nat) (la : Option Addr) (ln lc : Nat) (ia : Option Addr) (ik ic : Nat) (w : World)
    (h : PBox w g (.slice (some ⟨ob, 0, none⟩) (M + 1) oc) a e) (ho : w.ownsRow base 37 7 (.slice (some ⟨ob, 0, none⟩) (M + 1) oc) (M + 1) os) (ht : os[M * 7 + 6]? = some tv) (hts : w.ownsRow base 37 7 tv k ts)
    (hne : tv.ownBlock ≠ some ob) (hgo : g ≠ ob) (hgt : tv.ownBlock ≠ some g) (hM : M ≤ 1000000) (hk : k ≤ 1000000) (hb : base ≤ w.heap.size) :
    Calls Tryz.prog 22 #[.pointer (some ⟨g, 0, none⟩), .agg #[.bool xb, .string xn, .string xo, .string xs, .slice va vn vc, .slice la ln lc, .slice ia ik ic]] w (AddP base ob oc M k os ts [.bool xb, .string xn, .string xo, .string xs, .slice va vn vc, .slice la ln lc, .slice ia ik ic] tv w) := by
  obtain ⟨ta, tc, rfl⟩ : ∃ ta tc, tv = .slice ta k tc := by
    rcases hts.2 with ⟨h1, h2⟩ | ⟨g', cap', cur, h1, -⟩
    · exact ⟨none, 0, by rw [h1, h2]⟩
    · exact ⟨_, _, h1⟩
  obtain ⟨i0, hi0, hi1⟩ := Option.map_eq_some_iff.1 Tryz.infoItm
  simp only [Prod.mk.injEq] at hi1
  obtain ⟨hz0, hz1, hz2⟩ := hi1
  have hgl := h.lt
  have hol := (World.ownsRow.lt ho ob rfl).2
  obtain ⟨N, hN⟩ : ∃ N, N = M + 1 := ⟨_, rfl⟩
  have hNle : N ≤ M + 1 ∧ M + 1 ≤ N := by omega
  rw [← hN] at h ho
  have HN := Lib.hid hN
  clear hN
  have hNM : (N : Int) - 1 = (M : Int) := by omega
  have hMN : M < N := by omega
  have hc6 : w.cell? ⟨ob, M * 7 + 6, none⟩ = some (.slice ta k tc) := by rw [ho.cellAt _ (by omega)]; exact ht
  have hf6 : w.frozen? ⟨ob, M * 7 + 6, none⟩ = false := ho.frozenAt _
  have HH := Lib.hid (And.intro h (And.intro ho hts))
  have hpc := h.cell 0 _ rfl
  clear h ho hts
  go_enter Tryz.func22, Tryz.ntmps22
  go_wp2_with fail
  have HL := Lib.hid HH.out.2.2.1
  have HQ := Lib.hid (add_at (.cells #[.bool xb, .string xn, .string xo, .string xs, .slice va vn vc, .slice la ln lc, .slice ia ik ic] 37) hb HH.out.2.2 HH.out.2.1)
  have hkk : (k : Int) < (k : Int) + 1 := by omega
  go_region
  all_goals
    go_wp2_with fail
  go_region_law (first
    | (refine step_append_lies _ rfl _ _ 23 rfl base 37 i0 _ 7 128 Tryz.underlying23 hi0 hz0 hz1 hz2 rfl (by decide) (.slice ta k tc) k ts (by rfl) (by exact HQ.out.1) ⟨w.heap.size + 1, 0, none⟩ 1 1 zeroIC (by rfl) rfl (by intro j u hu; rw [Addr.add_lit, Nat.zero_add]; exact HQ.out.2.2.1 j u hu) zeroIC_one (by omega) (by unfold maxLen; omega) (by omega) (by exact HQ.out.2.2.2.1) _ rfl ?_; intro g3 cap3 w3 hown3 hgrow3 hat3 hlt3; have ho3 := HQ.out.2.1.kept hgrow3 (.inr (fun e => hne e.symm)); have o7c := (ho3.cellAt (M * 7 + 6) (by omega)).trans ht; have o7f := ho3.frozenAt (M * 7 + 6); have m0 := new_at0 hown3 HL.out; have m0f := hown3.frozenAt (k * 7); have m1 := new_at hown3 HL.out 1 _ rfl; have m1f := hown3.frozenAt (k * 7 + 1); have m2 := new_at hown3 HL.out 2 _ rfl; have m2f := hown3.frozenAt (k * 7 + 2); have m3 := new_at hown3 HL.out 3 _ rfl; have m3f := hown3.frozenAt (k * 7 + 3); have m4 := new_at hown3 HL.out 4 _ rfl; have m4f := hown3.frozenAt (k * 7 + 4); have m5 := new_at hown3 HL.out 5 _ rfl; have m5f := hown3.frozenAt (k * 7 + 5); have m6 := new_at hown3 HL.out 6 _ rfl; have m6f := hown3.frozenAt (k * 7 + 6); have hat4 := add_far hat3 HQ.out.2.2.2.2.1 hne hol; have hg3 := hat4.1; have hg3' : ¬ ob = g3 := fun e => hg3 e.symm; have HG := Lib.hid (And.intro hown3 (And.intro hgrow3 (And.intro hat4.2 ho3))); clear hown3 hgrow3 hat3 ho3 hat4))
  all_goals
    refine bodyPost_end (v := .tuple #[]) (by simp [results, Tryz.results22, go_sem]) rfl ?_
  all_goals
    obtain ⟨q1, q2, q3, q4⟩ := HG.out
    first
      | (with_reducible refine add_c1 HN.out HL.out hg3 q1 q2 q3 q4 ?_)
      | (with_reducible refine add_c2 HN.out HL.out hg3 q1 q2 q3 q4 ?_)
    exact HQ.out.2.2.2.2.2
end Go.Proofs.YthmmgpbojbjihaaGreatDoor

/- What is open while lines are read, as it lies in memory (layer 13). -/
namespace Go.Proofs.YthmmgpbojbjihaaGreatDoor
open Go.RowKit Go.Tab

/-- An open item: itself, its cells, the row of its items. -/
structure Opn where
  x : Itm
  cs : List Value
  iv : Value
/-- The blocks that what is open may reach and that nobody writes. -/
def Inn (B g : Nat) (rb : Option Nat) (v : Value) (C : List Opn) (b : Nat) : Prop := B ≤ b ∧ b ≠ g ∧ rb ≠ some b ∧ v.ownBlock ≠ some b ∧ ∀ c ∈ C, c.iv.ownBlock ≠ some b
def OneAt (P : Nat → Prop) (B : Nat) (w : World) (c : Opn) : Prop :=
  ∃ (b : Bool) (n : ByteArray) (e : Exp) (ls : List ByteArray) (vo vt : ByteArray) (vk lv : Value) (L : List (Itm × List Value)), c.x = .mk b n e ls (L.map (·.1)) ∧ c.cs = [.bool b, .string n, .string vo, .string vt, vk, lv, c.iv] ∧
    ExpIn P w e [.string vo, .string vt, vk] ∧ RowIn P w lv ls ∧ w.ownsRow B 37 7 c.iv L.length (L.flatMap (·.2)) ∧ ∀ s ∈ L, ItmIn P w s.1 s.2
structure Apart (g : Nat) (rb : Option Nat) (v : Value) (C : List Opn) : Prop where
  vg : v.ownBlock ≠ some g
  vr : ∀ b, v.ownBlock = some b → rb ≠ some b
  rg : rb ≠ some g
  one : ∀ c ∈ C, ∀ b, c.iv.ownBlock = some b → v.ownBlock ≠ some b ∧ b ≠ g ∧ rb ≠ some b
  two : C.Pairwise (fun c d => ∀ b, c.iv.ownBlock = some b → d.iv.ownBlock ≠ some b)
structure StC (B g : Nat) (rb : Option Nat) (w : World) (v : Value) (C : List Opn) : Prop where
  gl : g < w.heap.size
  rl : ∀ b, rb = some b → b < w.heap.size
  row : w.ownsRow B 37 7 v C.length (C.flatMap (·.cs))
  apart : Apart g rb v C
  all : ∀ c ∈ C, OneAt (Inn B g rb v C) B w c
def StAt (B g : Nat) (rb : Option Nat) (w : World) (v : Value) (st : List Itm) : Prop := ∃ C, st = C.map (·.x) ∧ StC B g rb w v C

theorem own_moved {base size n : Nat} {e : TypeId} {w w' : World} {v : Value} {xs : List Value} (h : w.ownsRow base e size v n xs) (hc : ∀ k, v.ownBlock = some k → w'.heap[k]? = w.heap[k]?) : w'.ownsRow base e size v n xs := by
  obtain ⟨h1, h2⟩ := h
  refine ⟨h1, ?_⟩
  rcases h2 with h2 | ⟨g, cap, cur, rfl, hg0, hg, r⟩
  · exact .inl h2
  · exact .inr ⟨g, cap, cur, rfl, hg0, by rw [hc g rfl]; exact hg, r⟩
/-- Moved to a world that keeps the blocks it may read and its own row. -/
theorem OneAt.move {P Q : Nat → Prop} {B : Nat} {w w' : World} {c : Opn} (hs : w.heap.size ≤ w'.heap.size) (hb : ∀ k, P k → k < w.heap.size → w'.heap[k]? = w.heap[k]?) (hq : ∀ k, P k → k < w.heap.size → Q k)
    (hi : ∀ k, c.iv.ownBlock = some k → w'.heap[k]? = w.heap[k]?) (h : OneAt P B w c) : OneAt Q B w' c := by
  obtain ⟨b, n, e, ls, vo, vt, vk, lv, L, h1, h2, h3, h4, h5, h6⟩ := h
  exact ⟨b, n, e, ls, vo, vt, vk, lv, L, h1, h2, ExpIn.move hs hb hq e _ h3, h4.move hs hb hq, own_moved h5 hi, fun s hm => ItmIn.move hs hb hq _ _ (h6 s hm)⟩
/-- A row's value tells its length, and the world its cells. -/
theorem own_same {base : Nat} {e : TypeId} {w : World} {v : Value} {n m : Nat} {xs ys : List Value} (h1 : w.ownsRow base e 7 v n xs) (h2 : w.ownsRow base e 7 v m ys) : n = m ∧ xs = ys := by
  obtain ⟨a1, a2⟩ := h1
  obtain ⟨b1, b2⟩ := h2
  rcases a2 with ⟨rfl, rfl⟩ | ⟨g, cap, cur, rfl, -, hg, -, -, -, r⟩
  · rcases b2 with ⟨-, rfl⟩ | ⟨g', cap', cur', he, -⟩
    · exact ⟨rfl, (List.eq_nil_of_length_eq_zero (by simpa using a1)).trans (List.eq_nil_of_length_eq_zero (by simpa using b1)).symm⟩
    · cases he
  · rcases b2 with ⟨he, -⟩ | ⟨g', cap', cur', he, -, hg', -, -, -, r'⟩
    · cases he
    · cases he
      rw [hg] at hg'
      cases hg'
      exact ⟨rfl, r.symm.trans r'⟩
theorem OneAt.len {P : Nat → Prop} {B : Nat} {w : World} {c : Opn} (h : OneAt P B w c) : c.cs.length = 7 := by
  obtain ⟨b, n, e, ls, vo, vt, vk, lv, L, h1, h2, -⟩ := h
  rw [h2]; rfl
theorem OneAt.cell6 {P : Nat → Prop} {B : Nat} {w : World} {c : Opn} (h : OneAt P B w c) : c.cs[6]? = some c.iv := by
  obtain ⟨b, n, e, ls, vo, vt, vk, lv, L, h1, h2, -⟩ := h
  rw [h2]; rfl
theorem StC.lt {B g : Nat} {rb : Option Nat} {w : World} {v : Value} {C : List Opn} (h : StC B g rb w v C) {b : Nat} (hb : v.ownBlock = some b ∨ ∃ c ∈ C, c.iv.ownBlock = some b) : B ≤ b ∧ b < w.heap.size := by
  rcases hb with hb | ⟨c, hc, hb⟩
  · exact World.ownsRow.lt h.row b hb
  · obtain ⟨_, _, _, _, _, _, _, _, _, -, -, -, -, h5, -⟩ := h.all c hc
    exact World.ownsRow.lt h5 b hb
/-- What keeps all but the parser's box and the tokens' row keeps it; the tokens' row may have moved to a new block. -/
theorem StC.keep {B g : Nat} {rb rb' : Option Nat} {w w' : World} {v : Value} {C : List Opn} (h : StC B g rb w v C) (hs : w.heap.size ≤ w'.heap.size) (hk : ∀ b, b < w.heap.size → b ≠ g → rb ≠ some b → w'.heap[b]? = w.heap[b]?)
    (hr : ∀ b, rb' = some b → (rb = some b ∨ w.heap.size ≤ b) ∧ b < w'.heap.size) : StC B g rb' w' v C := by
  have hr2 : ∀ b, b < w.heap.size → rb ≠ some b → rb' ≠ some b := fun b hl hn e => (hr b e).1.elim hn (fun q => by omega)
  refine ⟨Nat.lt_of_lt_of_le h.gl hs, fun b e => (hr b e).2, own_moved h.row (fun k e => hk k (h.lt (.inl e)).2 (fun q => h.apart.vg (by rw [e, q])) (h.apart.vr k e)), ⟨h.apart.vg, fun b e => hr2 b (h.lt (.inl e)).2 (h.apart.vr b e), hr2 g h.gl h.apart.rg, fun c hc b e => ?_, h.apart.two⟩, fun c hc => ?_⟩
  · obtain ⟨q1, q2, q3⟩ := h.apart.one c hc b e
    exact ⟨q1, q2, hr2 b (h.lt (.inr ⟨c, hc, e⟩)).2 q3⟩
  · refine (h.all c hc).move hs (fun k hP hl => hk k hl hP.2.1 hP.2.2.1) (fun k hP hl => ⟨hP.1, hP.2.1, hr2 k hl hP.2.2.1, hP.2.2.2⟩) (fun k e => ?_)
    obtain ⟨q1, q2, q3⟩ := h.apart.one c hc k e
    exact hk k (h.lt (.inr ⟨c, hc, e⟩)).2 q2 q3
theorem flat_len : ∀ (C : List Opn), (∀ c ∈ C, c.cs.length = 7) → (C.flatMap (·.cs)).length = C.length * 7
  | [], _ => rfl
  | c :: r, h => by
    have h1 := h c (by simp)
    have h2 := flat_len r (fun d hd => h d (by simp [hd]))
    simp only [List.flatMap_cons, List.length_append, List.length_cons, h1, h2]; omega
theorem flat_top (C : List Opn) (c : Opn) (h : ∀ d ∈ C, d.cs.length = 7) (j : Nat) : ((C ++ [c]).flatMap (·.cs))[C.length * 7 + j]? = c.cs[j]? := by
  rw [List.flatMap_append, List.getElem?_append_right (by rw [flat_len C h]; omega), flat_len C h, show C.length * 7 + j - C.length * 7 = j by omega]
  simp
theorem flat_set (C : List Opn) (c : Opn) (h : ∀ d ∈ C, d.cs.length = 7) (j : Nat) (u iv : Value) (x : Itm) : ((C ++ [c]).flatMap (·.cs)).set (C.length * 7 + j) u = (C ++ [Opn.mk x (c.cs.set j u) iv]).flatMap (·.cs) := by
  rw [List.flatMap_append, List.flatMap_append, List.set_append_right _ _ (by rw [flat_len C h]; omega), flat_len C h, show C.length * 7 + j - C.length * 7 = j by omega]
  simp
/-- An item is laid into the top. -/
theorem StC.add {B g g2 cap2 : Nat} {rb : Option Nat} {w w' : World} {v : Value} {C : List Opn} {c : Opn} {k : Nat} {ts xs : List Value} {x : Itm} (h : StC B g rb w v (C ++ [c])) (hx : ItmIn (Inn B g rb v (C ++ [c])) w x xs)
    (ht : w.ownsRow B 37 7 c.iv k ts) (h1 : w'.ownsRow B 37 7 (.slice (some ⟨g2, 0, none⟩) (k + 1) cap2) (k + 1) (ts ++ xs))
    (h2 : w'.ownsRow B 37 7 v (C.length + 1) (((C ++ [c]).flatMap (·.cs)).set (C.length * 7 + 6) (.slice (some ⟨g2, 0, none⟩) (k + 1) cap2)))
    (h3 : c.iv.ownBlock = some g2 ∨ w.heap.size ≤ g2) (hs : w.heap.size ≤ w'.heap.size) (hf : ∀ b, b < w.heap.size → v.ownBlock ≠ some b → c.iv.ownBlock ≠ some b → w'.heap[b]? = w.heap[b]?) :
    StC B g rb w' v (C ++ [⟨c.x.add x, c.cs.set 6 (.slice (some ⟨g2, 0, none⟩) (k + 1) cap2), .slice (some ⟨g2, 0, none⟩) (k + 1) cap2⟩]) := by
  have h7 : ∀ d ∈ C, d.cs.length = 7 := fun d hd => (h.all d (by simp [hd])).len
  have hP : ∀ b, Inn B g rb v (C ++ [c]) b → b < w.heap.size → Inn B g rb v (C ++ [⟨c.x.add x, c.cs.set 6 (.slice (some ⟨g2, 0, none⟩) (k + 1) cap2), .slice (some ⟨g2, 0, none⟩) (k + 1) cap2⟩]) b := fun b hb hl => by
    refine ⟨hb.1, hb.2.1, hb.2.2.1, hb.2.2.2.1, fun d hd => ?_⟩
    rcases List.mem_append.1 hd with hd | hd
    · exact hb.2.2.2.2 d (by simp [hd])
    · simp at hd
      subst hd
      intro e
      simp only [Value.ownBlock, Option.some.injEq] at e
      subst e
      exact h3.elim (fun q => hb.2.2.2.2 c (by simp) q) (fun q => by omega)
  have hC : ∀ b, Inn B g rb v (C ++ [c]) b → b < w.heap.size → w'.heap[b]? = w.heap[b]? := fun b hb hl => hf b hl hb.2.2.2.1 (hb.2.2.2.2 c (by simp))
  have hcA := h.apart.one c (by simp)
  have hg2 : v.ownBlock ≠ some g2 ∧ g2 ≠ g ∧ rb ≠ some g2 ∨ w.heap.size ≤ g2 := h3.imp (fun e => hcA g2 e) id
  refine ⟨Nat.lt_of_lt_of_le h.gl hs, fun b e => Nat.lt_of_lt_of_le (h.rl b e) hs, by rw [List.length_append]; rw [flat_set C c h7 6 _ (.slice (some ⟨g2, 0, none⟩) (k + 1) cap2) (c.x.add x)] at h2; exact h2, ⟨h.apart.vg, h.apart.vr, h.apart.rg, fun d hd b e => ?_, ?_⟩, fun d hd => ?_⟩
  · rcases List.mem_append.1 hd with hd | hd
    · exact h.apart.one d (by simp [hd]) b e
    · simp at hd
      subst hd
      simp only [Value.ownBlock, Option.some.injEq] at e
      subst e
      refine hg2.elim id (fun q => ⟨fun e => ?_, fun e => ?_, fun e => ?_⟩)
      · have := (h.lt (.inl e)).2; omega
      · have := h.gl; omega
      · have := h.rl _ e; omega
  · have h2 := h.apart.two
    rw [List.pairwise_append] at h2 ⊢
    refine ⟨h2.1, by simp, fun d hd d2 hd2 b e => ?_⟩
    simp at hd2
    subst hd2
    intro e2
    simp only [Value.ownBlock, Option.some.injEq] at e2
    subst e2
    exact h3.elim (fun q => h2.2.2 d hd c (by simp) _ e q) (fun q => by have := (h.lt (.inr ⟨d, by simp [hd], e⟩)).2; omega)
  · rcases List.mem_append.1 hd with hd | hd
    · refine (h.all d (by simp [hd])).move hs hC hP (fun b e => ?_)
      have h2 := h.apart.two
      rw [List.pairwise_append] at h2
      exact hf b (h.lt (.inr ⟨d, by simp [hd], e⟩)).2 (h.apart.one d (by simp [hd]) b e).1 (h2.2.2 d hd c (by simp) b e)
    · simp at hd
      subst hd
      obtain ⟨bb, n, e, ls, vo, vt, vk, lv, L, q1, q2, q3, q4, q5, q6⟩ := h.all c (by simp)
      obtain ⟨rfl, rfl⟩ : L.length = k ∧ L.flatMap (·.2) = ts := own_same q5 ht
      refine ⟨bb, n, e, ls, vo, vt, vk, lv, L ++ [(x, xs)], ?_, ?_, ExpIn.move hs hC hP e _ q3, q4.move hs hC hP, by simpa using h1, fun s hm => ?_⟩
      · rw [q1]; simp [Itm.add]
      · rw [q2]; rfl
      · rcases List.mem_append.1 hm with hm | hm
        · exact ItmIn.move hs hC hP _ _ (q6 s hm)
        · simp at hm
          subst hm
          exact ItmIn.move hs hC hP _ _ hx
end Go.Proofs.YthmmgpbojbjihaaGreatDoor

/- What is open: pushed and popped (layer 13). -/
namespace Go.Proofs.YthmmgpbojbjihaaGreatDoor
open Go.RowKit Go.Tab

/-- An item that has no items yet, and whose row of items is nil, may be opened. -/
theorem OneAt.fresh {P : Nat → Prop} {B : Nat} {w : World} {x : Itm} {cs : List Value} (h : ItmIn P w x cs) (h6 : cs[6]? = some (.slice none 0 0)) : OneAt P B w ⟨x, cs, .slice none 0 0⟩ := by
  obtain ⟨b, n, e, ls, its⟩ := x
  unfold ItmIn at h
  obtain ⟨vo, vt, vk, lv, a, cap, rfl, h1, h2, -⟩ := h.open
  simp only [List.getElem?_cons_succ, List.getElem?_cons_zero, Option.some.injEq, Value.slice.injEq] at h6
  obtain ⟨rfl, hl, rfl⟩ := h6
  obtain rfl := List.eq_nil_of_length_eq_zero hl
  exact ⟨b, n, e, ls, vo, vt, vk, lv, [], rfl, rfl, h1, h2, World.ownsRow_nil _ _ _ _, fun s hs => by cases hs⟩
/-- What is closed is an item like any other. -/
theorem OneAt.itm {P Q : Nat → Prop} {B : Nat} {w : World} {c : Opn} (h : OneAt P B w c) (hq : ∀ k, P k → k < w.heap.size → Q k) (hi : ∀ k, c.iv.ownBlock = some k → Q k) : ItmIn Q w c.x c.cs := by
  obtain ⟨b, n, e, ls, vo, vt, vk, lv, L, h1, h2, h3, h4, h5, h6⟩ := h
  rw [h1, h2]
  have hm : ∀ s ∈ L, ItmIn Q w s.1 s.2 := fun s hs => ItmIn.move (Nat.le_refl _) (fun _ _ _ => rfl) hq _ _ (h6 s hs)
  have h7 : ∀ cs ∈ L.map (·.2), cs.length = 7 := fun cs hcs => by
    obtain ⟨s, hs, rfl⟩ := List.mem_map.1 hcs
    exact ItmR.len7 (hm s hs)
  have hown : OwnC B w c.iv (L.map (·.2)) := ⟨by rw [List.length_map, ← List.flatMap_def]; exact h5, h7⟩
  have e3 := ExpIn.move (Nat.le_refl _) (fun _ _ _ => rfl) hq e _ h3
  have e4 := h4.move (Q := Q) (Nat.le_refl _) (fun _ _ _ => rfl) hq
  have hform : ∃ a cap, c.iv = .slice a L.length cap ∧ L.length ≤ cap ∧ cap ≤ maxLen ∧ (a = none → cap = 0) ∧ ∀ x, a = some x → x.spot = none ∧ c.iv.ownBlock = some x.block := by
    rcases h5.2 with ⟨q1, q2⟩ | ⟨g, cap, cur, q1, -, -, q2, q3, -⟩
    · exact ⟨none, 0, by rw [q1, q2], by rw [q2]; exact Nat.le_refl _, Nat.zero_le _, fun _ => rfl, fun x hx => by cases hx⟩
    · exact ⟨_, cap, q1, q2, q3, (fun h => by cases h), fun x hx => by cases hx; exact ⟨rfl, by rw [q1]; rfl⟩⟩
  obtain ⟨a, cap, q1, q2, q3, q4, q5⟩ := hform
  unfold ItmIn
  simp only [ItmR]
  refine ⟨vo, vt, vk, lv, a, cap, by rw [q1, List.length_map], e3, e4, by rw [List.length_map]; exact q2, q3, q4, fun x hx hne => ?_⟩
  obtain ⟨r1, r2⟩ := q5 x hx
  refine ⟨r1, ⟨(World.ownsRow.lt h5 _ r2).2, hi _ r2⟩, ItmsR.make _ _ (fun k hk => ?_)⟩
  rw [List.length_map] at hk
  rw [q1] at hown
  obtain ⟨g, he, -, -, hc, -⟩ := hown.cellAt (k := k) (by simpa using hk)
  rw [hx] at he
  cases he
  refine ⟨L[k].2, fun j u hu => ?_, ?_⟩
  · rw [Nat.zero_add]
    exact hc j u (by simpa using hu)
  · rw [List.getElem_map]
    exact hm _ (List.getElem_mem hk)
/-- One more is open. -/
theorem StC.push {B g g2 cap2 : Nat} {rb : Option Nat} {w w' : World} {v : Value} {C : List Opn} {c : Opn} (h : StC B g rb w v C) (hx : OneAt (Inn B g rb v C) B w c) (hn : c.iv.ownBlock = none)
    (h1 : w'.ownsRow B 37 7 (.slice (some ⟨g2, 0, none⟩) (C.length + 1) cap2) (C.length + 1) (C.flatMap (·.cs) ++ c.cs)) (h3 : v.ownBlock = some g2 ∨ w.heap.size ≤ g2) (hs : w.heap.size ≤ w'.heap.size)
    (hf : ∀ b, b < w.heap.size → v.ownBlock ≠ some b → b ≠ g → w'.heap[b]? = w.heap[b]?) : StC B g rb w' (.slice (some ⟨g2, 0, none⟩) (C.length + 1) cap2) (C ++ [c]) := by
  have hP : ∀ b, Inn B g rb v C b → b < w.heap.size → Inn B g rb (.slice (some ⟨g2, 0, none⟩) (C.length + 1) cap2) (C ++ [c]) b := fun b hb hl => by
    refine ⟨hb.1, hb.2.1, hb.2.2.1, fun e => ?_, fun d hd => ?_⟩
    · simp only [Value.ownBlock, Option.some.injEq] at e
      subst e
      exact h3.elim hb.2.2.2.1 (fun q => by omega)
    · rcases List.mem_append.1 hd with hd | hd
      · exact hb.2.2.2.2 d hd
      · simp at hd; subst hd; rw [hn]; simp
  have hC : ∀ b, Inn B g rb v C b → b < w.heap.size → w'.heap[b]? = w.heap[b]? := fun b hb hl => hf b hl hb.2.2.2.1 hb.2.1
  have hiv : ∀ d ∈ C, ∀ b, d.iv.ownBlock = some b → b ≠ g2 := fun d hd b e q => by
    subst q
    exact h3.elim (h.apart.one d hd b e).1 (fun q => by have := (h.lt (.inr ⟨d, hd, e⟩)).2; omega)
  refine ⟨Nat.lt_of_lt_of_le h.gl hs, fun b e => Nat.lt_of_lt_of_le (h.rl b e) hs, by simpa using h1, ⟨fun e => ?_, fun b e e2 => ?_, h.apart.rg, fun d hd b e => ?_, ?_⟩, fun d hd => ?_⟩
  · simp only [Value.ownBlock, Option.some.injEq] at e
    subst e
    exact h3.elim h.apart.vg (fun q => by have := h.gl; omega)
  · simp only [Value.ownBlock, Option.some.injEq] at e
    subst e
    exact h3.elim (fun q => h.apart.vr _ q e2) (fun q => by have := h.rl _ e2; omega)
  · rcases List.mem_append.1 hd with hd | hd
    · exact ⟨fun q => by simp only [Value.ownBlock, Option.some.injEq] at q; exact hiv d hd b e q.symm, (h.apart.one d hd b e).2⟩
    · simp at hd; subst hd; rw [hn] at e; cases e
  · rw [List.pairwise_append]
    refine ⟨h.apart.two, by simp, fun d _ d2 hd2 b _ => ?_⟩
    simp at hd2; subst hd2; rw [hn]; simp
  · rcases List.mem_append.1 hd with hd | hd
    · exact (h.all d hd).move hs hC hP (fun b e => hf b (h.lt (.inr ⟨d, hd, e⟩)).2 (h.apart.one d hd b e).1 (h.apart.one d hd b e).2.1)
    · simp at hd; subst hd
      exact hx.move hs hC hP (fun b e => by rw [hn] at e; cases e)
/-- The last one is closed: its row is free to be read, and shall not be written any more. -/
theorem StC.pop {B g ob cap : Nat} {rb : Option Nat} {w w' : World} {C : List Opn} {c : Opn} (h : StC B g rb w (.slice (some ⟨ob, 0, none⟩) (C.length + 1) cap) (C ++ [c])) (hC0 : 0 < C.length) (hs : w.heap.size ≤ w'.heap.size) (hf : ∀ b, b < w.heap.size → b ≠ g → w'.heap[b]? = w.heap[b]?) :
    StC B g rb w' (.slice (some ⟨ob, 0, none⟩) C.length cap) C ∧ ItmIn (Inn B g rb (.slice (some ⟨ob, 0, none⟩) C.length cap) C) w' c.x c.cs := by
  have h7 : ∀ d ∈ C, d.cs.length = 7 := fun d hd => (h.all d (by simp [hd])).len
  have hP : ∀ b, Inn B g rb (.slice (some ⟨ob, 0, none⟩) (C.length + 1) cap) (C ++ [c]) b → b < w.heap.size → Inn B g rb (.slice (some ⟨ob, 0, none⟩) C.length cap) C b := fun b hb hl =>
    ⟨hb.1, hb.2.1, hb.2.2.1, hb.2.2.2.1, fun d hd => hb.2.2.2.2 d (by simp [hd])⟩
  have hK : ∀ b, Inn B g rb (.slice (some ⟨ob, 0, none⟩) (C.length + 1) cap) (C ++ [c]) b → b < w.heap.size → w'.heap[b]? = w.heap[b]? := fun b hb hl => hf b hl hb.2.1
  have hrow : w.ownsRow B 37 7 (.slice (some ⟨ob, 0, none⟩) C.length cap) C.length (C.flatMap (·.cs)) := by
    have hr := h.row
    rw [show (C ++ [c]).length = C.length + 1 by simp] at hr
    obtain ⟨r1, r2⟩ := hr
    refine ⟨flat_len C h7, ?_⟩
    rcases r2 with ⟨q, -⟩ | ⟨g', cap', cur, q, q1, q2, q3, q4, q5, q6⟩
    · cases q
    · cases q
      refine .inr ⟨_, _, cur, rfl, q1, q2, by omega, q4, q5, ?_⟩
      have := congrArg (List.take (C.length * 7)) q6
      rw [List.take_take, List.flatMap_append, List.take_append_of_le_length (by rw [flat_len C h7]; exact Nat.le_refl _), List.take_of_length_le (l := C.flatMap _) (by rw [flat_len C h7]; exact Nat.le_refl _)] at this
      rw [← this]
      congr 1
      omega
  have hw := h.apart.two
  rw [List.pairwise_append] at hw
  refine ⟨⟨Nat.lt_of_lt_of_le h.gl hs, fun b e => Nat.lt_of_lt_of_le (h.rl b e) hs, own_moved hrow (fun k e => hf k (h.lt (.inl e)).2 (fun q => h.apart.vg (by subst q; exact e))), ⟨h.apart.vg, h.apart.vr, h.apart.rg, fun d hd b e => h.apart.one d (by simp [hd]) b e, hw.1⟩, fun d hd => ?_⟩, ?_⟩
  · exact (h.all d (by simp [hd])).move hs hK hP (fun b e => hf b (h.lt (.inr ⟨d, by simp [hd], e⟩)).2 (h.apart.one d (by simp [hd]) b e).2.1)
  · have h9 : OneAt (Inn B g rb (.slice (some ⟨ob, 0, none⟩) C.length cap) C) B w' c := (h.all c (by simp)).move hs hK hP (fun b e => hf b (h.lt (.inr ⟨c, by simp, e⟩)).2 (h.apart.one c (by simp) b e).2.1)
    refine h9.itm (fun _ q _ => q) (fun b e => ?_)
    have a1 := h.apart.one c (by simp) b e
    exact ⟨(h.lt (.inr ⟨c, by simp, e⟩)).1, a1.2.1, a1.2.2, a1.1, fun d hd e2 => hw.2.2 d hd c (by simp) b e2 e⟩
end Go.Proofs.YthmmgpbojbjihaaGreatDoor

/- An item is laid into what is open, by the relation (layer 13). -/
namespace Go.Proofs.YthmmgpbojbjihaaGreatDoor
open Go.RowKit Go.Tab

/-- What a step of reading leaves, but for the stack. -/
def KeepR (B : Nat) (rb : Option Nat) (w w' : World) : Prop := Below B w w' ∧ ∀ b, rb = some b → w'.heap[b]? = w.heap[b]?
theorem KeepR.trans {B : Nat} {rb : Option Nat} {a b c : World} (h : KeepR B rb a b) (hs : B ≤ a.heap.size) (k : KeepR B rb b c) : KeepR B rb a c := ⟨h.1.trans k.1, fun x e => (k.2 x e).trans (h.2 x e)⟩
theorem addC_any {B g : Nat} {rb : Option Nat} {w : World} {v : Value} {C : List Opn} {c : Opn} {x : Itm} {xs : List Value} (a e : Int) (h : StC B g rb w v (C ++ [c])) (hp : PBox w g v a e) (hx : ItmIn (Inn B g rb v (C ++ [c])) w x xs) (hn : C.length ≤ 1000000) (hk : c.x.items.length ≤ 1000000) (hB : B ≤ w.heap.size) :
    Calls Tryz.prog 22 #[.pointer (some ⟨g, 0, none⟩), .agg xs.toArray] w fun r w' => r = .returned (.tuple #[]) ∧ ∃ c', c'.x = c.x.add x ∧ StC B g rb w' v (C ++ [c']) ∧ PBox w' g v a e ∧ KeepR B rb w w' := by
  have h7 : ∀ d ∈ C, d.cs.length = 7 := fun d hd => (h.all d (by simp [hd])).len
  have hc := h.all c (by simp)
  obtain ⟨bb, n, ex, ls, vo, vt, vk, lv, L, q1, q2, q3, q4, q5, q6⟩ := hc
  have hkL : L.length ≤ 1000000 := by rw [q1] at hk; simpa [Itm.items] using hk
  have hro := h.row
  rw [show (C ++ [c]).length = C.length + 1 by simp] at hro
  obtain ⟨ob, oc, cur, rfl, -⟩ : ∃ ob oc, ∃ cur : Array Value, v = .slice (some ⟨ob, 0, none⟩) (C.length + 1) oc ∧ True := by
    rcases hro.2 with ⟨-, q⟩ | ⟨g', cap', cur, q, -⟩
    · omega
    · exact ⟨g', cap', cur, q, trivial⟩
  obtain ⟨xn, xo, xt, va, vn, vc, la, ln, lc, ia, ik, ic, rfl⟩ := ItmIn.shape7 hx
  have hA := h.apart.one c (by simp)
  have htop := (flat_top C c h7 6).trans (h.all c (by simp)).cell6
  refine (add_any g ob oc C.length L.length B a e ((C ++ [c]).flatMap (·.cs)) (L.flatMap (·.2)) c.iv x.block xn xo xt va vn vc la ln lc ia ik ic w hp hro htop q5 (fun q => (hA ob q).1 rfl) (fun q => h.apart.vg (by rw [q]; rfl)) (fun q => (hA g q).2.1 rfl) hn hkL hB).mono ?_
  rintro r w' ⟨rfl, g2, cap2, r1, r2, r3, r4, r5⟩
  have hf : ∀ b, b < w.heap.size → (Value.slice (some ⟨ob, 0, none⟩) (C.length + 1) oc).ownBlock ≠ some b → c.iv.ownBlock ≠ some b → w'.heap[b]? = w.heap[b]? := fun b hb h1 h2 => r5 b hb (fun q => h1 (by rw [q]; rfl)) h2
  refine ⟨rfl, _, rfl, StC.add h hx q5 r1 r2 r3 r4.size hf, ?_, ?_, fun b eb => ?_⟩
  · exact (hf g h.gl h.apart.vg (fun q => (hA g q).2.1 rfl)).trans hp
  · exact ⟨r4.os, r4.tape, r4.output, r4.size, fun k hk => hf k (by omega) (fun q => by have := (h.lt (.inl q)).1; omega) (fun q => by have := (h.lt (.inr ⟨c, by simp, q⟩)).1; omega)⟩
  · exact hf b (h.rl b eb) (fun q => h.apart.vr b q eb) (fun q => (hA b q).2.2 eb)
end Go.Proofs.YthmmgpbojbjihaaGreatDoor

/- Something is opened (layer 13). -/
namespace Go.Proofs.YthmmgpbojbjihaaGreatDoor
open Go.RowKit Go.Tab

def PushE (B g n g3 cap3 : Nat) (a e : Int) (os xs : List Value) (v : Value) (W W' : World) : Prop :=
  W'.ownsRow B 37 7 (.slice (some ⟨g3, 0, none⟩) (n + 1) cap3) (n + 1) (os ++ xs) ∧ PBox W' g (.slice (some ⟨g3, 0, none⟩) (n + 1) cap3) a e ∧ (v.ownBlock = some g3 ∨ g3 = W.heap.size) ∧ Below 0 W W' ∧ ∀ b, b < W.heap.size → v.ownBlock ≠ some b → b ≠ g → W'.heap[b]? = W.heap[b]?
section
variable {B g n g3 cap3 : Nat} {a e : Int} {os xs : List Value} {v : Value} {W w3 : World}
theorem push_end1 (hx : xs.length = 7) (hL : os.length = n * 7) (hne : ¬ g3 = g) (h1 : w3.ownsRow B 37 7 (.slice (some ⟨g3, 0, none⟩) (n + 1) cap3) (n + 1) (os ++ zeroIC)) (h2 : W.grownBy w3 v.ownBlock) (hat : v.ownBlock = some g3 ∨ g3 = W.heap.size)
    (h3 : Cells w3 g #[v, .int .i64 a, .int .i64 e] 43) : PushE B g n g3 cap3 a e os xs v W ((w3.setCells g3 (n * 7) xs).setCell ⟨g, 0, none⟩ (.slice (some ⟨g3, 0, none⟩) (n + 1) cap3)) := by
  have a1 := own_cells xs (n * 7) h1
  rw [← hL, setL_end xs zeroIC os (by rw [hx]; rfl), hL] at a1
  have a2 := grown_cells g3 xs (n * 7) w3
  have a3 := (h3.kept a2 (fun q => hne (Option.some.inj q).symm)).setI 0 (.slice (some ⟨g3, 0, none⟩) (n + 1) cap3)
  have a5 : (w3.setCells g3 (n * 7) xs).grownBy ((w3.setCells g3 (n * 7) xs).setCell ⟨g, 0, none⟩ (.slice (some ⟨g3, 0, none⟩) (n + 1) cap3)) (some g) := ⟨rfl, rfl, rfl, by simp [World.setCell], fun k _ hk => heap_setCell_other _ ⟨g, 0, none⟩ k _ (fun q => hk (by simp [q]))⟩
  refine ⟨a1.kept a5 (.inr (fun q => hne (by simpa [Value.ownBlock] using q))), a3, hat, (((Below.refl 0 W).grown h2 (Nat.zero_le _) (fun _ _ => Nat.zero_le _)).grown a2 (Nat.zero_le _) (fun _ _ => Nat.zero_le _)).grown a5 (Nat.zero_le _) (fun _ _ => Nat.zero_le _), fun b hb h4 h5 => ?_⟩
  have z2 := h2.size
  have z3 := a2.size
  rw [a5.block b (by omega) (fun q => h5 (Option.some.inj q)), a2.block b (by omega) (fun q => hat.elim (fun r => h4 (r.trans q.symm)) (fun r => by have := Option.some.inj q; omega)), h2.block b hb (fun q => h4 q.symm)]
theorem push_end2 (hx : xs.length = 7) (hL : os.length = n * 7) (hne : ¬ g3 = g) (h1 : w3.ownsRow B 37 7 (.slice (some ⟨g3, 0, none⟩) (n + 1) cap3) (n + 1) (os ++ zeroIC)) (h2 : W.grownBy w3 v.ownBlock) (hat : v.ownBlock = some g3 ∨ g3 = W.heap.size)
    (h3 : Cells w3 g #[v, .int .i64 a, .int .i64 e] 43) : PushE B g n g3 cap3 a e os xs v W ((w3.setCell ⟨g, 0, none⟩ (.slice (some ⟨g3, 0, none⟩) (n + 1) cap3)).setCells g3 (n * 7) xs) := by
  have a5 : w3.grownBy (w3.setCell ⟨g, 0, none⟩ (.slice (some ⟨g3, 0, none⟩) (n + 1) cap3)) (some g) := ⟨rfl, rfl, rfl, by simp [World.setCell], fun k _ hk => heap_setCell_other _ ⟨g, 0, none⟩ k _ (fun q => hk (by simp [q]))⟩
  have a1 := own_cells xs (n * 7) (h1.kept a5 (.inr (fun q => hne (by simpa [Value.ownBlock] using q))))
  rw [← hL, setL_end xs zeroIC os (by rw [hx]; rfl), hL] at a1
  have a2 := grown_cells g3 xs (n * 7) (w3.setCell ⟨g, 0, none⟩ (.slice (some ⟨g3, 0, none⟩) (n + 1) cap3))
  have a3 := (h3.setI 0 (.slice (some ⟨g3, 0, none⟩) (n + 1) cap3)).kept a2 (fun q => hne (Option.some.inj q).symm)
  refine ⟨a1, a3, hat, (((Below.refl 0 W).grown h2 (Nat.zero_le _) (fun _ _ => Nat.zero_le _)).grown a5 (Nat.zero_le _) (fun _ _ => Nat.zero_le _)).grown a2 (Nat.zero_le _) (fun _ _ => Nat.zero_le _), fun b hb h4 h5 => ?_⟩
  have z2 := h2.size
  have z3 := a5.size
  rw [a2.block b (by omega) (fun q => hat.elim (fun r => h4 (r.trans q.symm)) (fun r => by have := Option.some.inj q; omega)), a5.block b (by omega) (fun q => h5 (Option.some.inj q)), h2.block b hb (fun q => h4 q.symm)]
theorem push_c1 {a0 a1 a2 a3 a4 a5 a6 : Value} (hL : os.length = n * 7) (hne : ¬ g3 = g) (h1 : w3.ownsRow B 37 7 (.slice (some ⟨g3, 0, none⟩) (n + 1) cap3) (n + 1) (os ++ zeroIC)) (h2 : W.grownBy w3 v.ownBlock) (hat : v.ownBlock = some g3 ∨ g3 = W.heap.size)
    (h3 : Cells w3 g #[v, .int .i64 a, .int .i64 e] 43) : PushE B g n g3 cap3 a e os [a0, a1, a2, a3, a4, a5, a6] v W ((((((((w3.setCell ⟨g3, n * 7, none⟩ a0).setCell ⟨g3, n * 7 + 1, none⟩ a1).setCell ⟨g3, n * 7 + 2, none⟩ a2).setCell ⟨g3, n * 7 + 3, none⟩ a3).setCell ⟨g3, n * 7 + 4, none⟩ a4).setCell ⟨g3, n * 7 + 5, none⟩ a5).setCell ⟨g3, n * 7 + 6, none⟩ a6).setCell ⟨g, 0, none⟩ (.slice (some ⟨g3, 0, none⟩) (n + 1) cap3)) :=
  push_end1 (xs := [a0, a1, a2, a3, a4, a5, a6]) rfl hL hne h1 h2 hat h3
theorem push_c2 {a0 a1 a2 a3 a4 a5 a6 : Value} (hL : os.length = n * 7) (hne : ¬ g3 = g) (h1 : w3.ownsRow B 37 7 (.slice (some ⟨g3, 0, none⟩) (n + 1) cap3) (n + 1) (os ++ zeroIC)) (h2 : W.grownBy w3 v.ownBlock) (hat : v.ownBlock = some g3 ∨ g3 = W.heap.size)
    (h3 : Cells w3 g #[v, .int .i64 a, .int .i64 e] 43) : PushE B g n g3 cap3 a e os [a0, a1, a2, a3, a4, a5, a6] v W ((((((((w3.setCell ⟨g, 0, none⟩ (.slice (some ⟨g3, 0, none⟩) (n + 1) cap3)).setCell ⟨g3, n * 7, none⟩ a0).setCell ⟨g3, n * 7 + 1, none⟩ a1).setCell ⟨g3, n * 7 + 2, none⟩ a2).setCell ⟨g3, n * 7 + 3, none⟩ a3).setCell ⟨g3, n * 7 + 4, none⟩ a4).setCell ⟨g3, n * 7 + 5, none⟩ a5).setCell ⟨g3, n * 7 + 6, none⟩ a6) :=
  push_end2 (xs := [a0, a1, a2, a3, a4, a5, a6]) rfl hL hne h1 h2 hat h3
end
theorem push_at {w : World} {B n g : Nat} {v : Value} {os : List Value} {a e : Int} (hb : B ≤ w.heap.size) (h1 : w.ownsRow B 37 7 v n os) (h2 : PBox w g v a e) :
    ((w.alloc (.cells zeroIC.toArray 37)).drew.ownsRow B 37 7 v n os) ∧ (Cells (w.alloc (.cells zeroIC.toArray 37)).drew g #[v, .int .i64 a, .int .i64 e] 43) ∧
    (∀ (j : Nat) (u : Value), zeroIC[j]? = some u → (w.alloc (.cells zeroIC.toArray 37)).drew.cell? ⟨w.heap.size, j, none⟩ = some u) ∧ B ≤ (w.alloc (.cells zeroIC.toArray 37)).drew.heap.size ∧ (w.alloc (.cells zeroIC.toArray 37)).drew.heap.size = w.heap.size + 1 ∧ Below w.heap.size w (w.alloc (.cells zeroIC.toArray 37)).drew :=
  have hA : Below w.heap.size w (w.alloc (.cells zeroIC.toArray 37)).drew := ((Below.refl _ w).alloc (Nat.le_refl _) _).drew
  ⟨show (w.alloc (.cells zeroIC.toArray 37)).ownsRow _ _ _ _ _ _ from h1.alloc _, h2.below hA h2.lt, fun j u hu => zero_at w rfl j u hu, Nat.le_trans hb hA.size, World.size_alloc w _, hA⟩
theorem push_far {v : Value} {g g3 H n : Nat} (h : v.ownBlock = some g3 ∨ g3 = H) (hH : H = n + 1) (hne : v.ownBlock ≠ some g) (hl : g < n) : ¬ g3 = g := fun e => h.elim (fun q => hne (by rw [q, e])) (fun q => by omega)
end Go.Proofs.YthmmgpbojbjihaaGreatDoor

/- One line is read (layer 13). -/
namespace Go.Proofs.YthmmgpbojbjihaaGreatDoor
open Go.RowKit Go.Tab

theorem StC.inn {B g : Nat} {rb : Option Nat} {w : World} {v : Value} {C : List Opn} (h : StC B g rb w v C) (hB : B ≤ w.heap.size) (b : Nat) (hb : w.heap.size ≤ b) : Inn B g rb v C b :=
  ⟨Nat.le_trans hB hb, fun e => by have := h.gl; omega, fun e => by have := h.rl b e; omega, fun e => by have := (h.lt (.inl e)).2; omega, fun c hc e => by have := (h.lt (.inr ⟨c, hc, e⟩)).2; omega⟩
theorem StC.below {B g : Nat} {rb : Option Nat} {w w' : World} {v : Value} {C : List Opn} (h : StC B g rb w v C) (hb : Below w.heap.size w w') : StC B g rb w' v C :=
  h.keep hb.size (fun b hl _ _ => hb.block b hl) (fun b e => ⟨.inl e, Nat.lt_of_lt_of_le (h.rl b e) hb.size⟩)
theorem StC.save {B g : Nat} {rb : Option Nat} {w w' : World} {v : Value} {C : List Opn} (h : StC B g rb w v C) (hb : Save g w w') : StC B g rb w' v C :=
  h.keep hb.1.size (fun b hl h1 _ => hb.2 b hl h1) (fun b e => ⟨.inl e, Nat.lt_of_lt_of_le (h.rl b e) hb.1.size⟩)
def ReadP (B g : Nat) (rb : Option Nat) (r : List Itm × Int × Int) (w : World) (e : Ending) (w' : World) : Prop :=
  e = .returned (.tuple #[]) ∧ ∃ v', StAt B g rb w' v' r.1 ∧ PBox w' g v' r.2.1 r.2.2 ∧ KeepR B rb w w'
/-- The boxes while a line is read. -/
theorem read_kind {B g : Nat} {rb : Option Nat} {w w4 : World} {v : Value} {C : List Opn} {x : Itm} {xs : List Value} {o : Obj} (h : StC B g rb w v C) (hB : B ≤ w.heap.size) (hg : B ≤ g) (hs : Save g (w.alloc o) w4) (hin : ItmIn (fun b => (w.alloc o).heap.size ≤ b) w4 x xs) :
    StC B g rb w4 v C ∧ ItmIn (Inn B g rb v C) w4 x xs ∧ KeepR B rb w w4 := by
  have hA : Below w.heap.size w (w.alloc o) := (Below.refl _ w).alloc (Nat.le_refl _) _
  have h1 := h.below hA
  refine ⟨h1.save hs, ItmIn.move (Nat.le_refl _) (fun _ _ _ => rfl) (fun b hb _ => h1.inn (Nat.le_trans hB hA.size) b hb) _ _ hin, ?_, fun b e => ?_⟩
  · exact (hA.mono hB).trans ⟨hs.1.os, hs.1.tape, hs.1.output, hs.1.size, fun k hk => hs.2 k (by have := hA.size; omega) (by omega)⟩
  · exact (hs.2 b (by have := h.rl b e; have := hA.size; omega) (fun q => h.apart.rg (by rw [e, q]))).trans (hA.block b (h.rl b e))
theorem read_next {B g : Nat} {rb : Option Nat} {w w4 w5 : World} {v : Value} {C : List Opn} {x : Itm} {xs : List Value} {a e : Int} {p : Prop} (h : StC B g rb w4 v C ∧ PBox w4 g v a e ∧ ItmIn (Inn B g rb v C) w4 x xs ∧ KeepR B rb w w4 ∧ p) (hb : Below w4.heap.size w4 w5) (hB : B ≤ w.heap.size) :
    StC B g rb w5 v C ∧ PBox w5 g v a e ∧ ItmIn (Inn B g rb v C) w5 x xs ∧ KeepR B rb w w5 :=
  ⟨h.1.below hb, h.2.1.below hb h.1.gl, ItmIn.below hb _ _ h.2.2.1, h.2.2.2.1.trans hB ⟨hb.mono (Nat.le_trans hB h.2.2.2.1.1.size), fun b e => hb.block b (h.1.rl b e)⟩⟩
theorem push_done {B g n ob oc g3 cap3 : Nat} {rb : Option Nat} {w w5 W W' : World} {C : List Opn} {c : Opn} {x : Itm} {xs os : List Value} {a e : Int} (h : StC B g rb w5 (.slice (some ⟨ob, 0, none⟩) (C.length + 1) oc) (C ++ [c]) ∧ PBox w5 g (.slice (some ⟨ob, 0, none⟩) (C.length + 1) oc) a e ∧ ItmIn (Inn B g rb (.slice (some ⟨ob, 0, none⟩) (C.length + 1) oc) (C ++ [c])) w5 x xs ∧ KeepR B rb w w5)
    (hg : B ≤ g) (h6 : xs[6]? = some (.slice none 0 0)) (hn : n = C.length + 1) (hos : os = (C ++ [c]).flatMap (·.cs)) (hB : B ≤ w.heap.size) (hW : Below w5.heap.size w5 W) (hs : W.heap.size = w5.heap.size + 1) (hE : PushE B g n g3 cap3 a e os xs (.slice (some ⟨ob, 0, none⟩) n oc) W W') :
    StC B g rb W' (.slice (some ⟨g3, 0, none⟩) (C.length + 1 + 1) cap3) ((C ++ [c]) ++ [⟨x, xs, .slice none 0 0⟩]) ∧ PBox W' g (.slice (some ⟨g3, 0, none⟩) (C.length + 1 + 1) cap3) a e ∧ KeepR B rb w W' := by
  subst hn
  subst hos
  obtain ⟨e1, e2, e3, e4, e5⟩ := hE
  have hf : ∀ b, b < w5.heap.size → (Value.slice (some ⟨ob, 0, none⟩) (C.length + 1) oc).ownBlock ≠ some b → b ≠ g → W'.heap[b]? = w5.heap[b]? := fun b hb h1 h2 => (e5 b (by omega) h1 h2).trans (hW.block b hb)
  have hsz : w5.heap.size ≤ W'.heap.size := by have := e4.size; omega
  have hl : (C ++ [c]).length = C.length + 1 := by simp
  have hB5 := Nat.le_trans hB h.2.2.2.1.size
  have hp := StC.push (g2 := g3) (cap2 := cap3) (c := ⟨x, xs, .slice none 0 0⟩) h.1 (OneAt.fresh h.2.2.1 h6) rfl (by rw [hl]; exact e1) (e3.imp id (fun q => by omega)) hsz hf
  rw [hl] at hp
  refine ⟨hp, e2, h.2.2.2.trans hB ⟨⟨(e4.os).trans hW.os, (e4.tape).trans hW.tape, (e4.output).trans hW.output, hsz, fun k hk => hf k (by omega) (fun q => by have := (h.1.lt (.inl q)).1; omega) (fun q => ?_)⟩, fun b eb => hf b (h.1.rl b eb) (fun q => h.1.apart.vr b q eb) (fun q => h.1.apart.rg (by rw [eb, q]))⟩⟩
  omega
theorem begin_done {B g n ob oc g3 cap3 : Nat} {rb : Option Nat} {w w5 W W' : World} {C : List Opn} {c : Opn} {x : Itm} {xs os : List Value} (h : StC B g rb w5 (.slice (some ⟨ob, 0, none⟩) (C.length + 1) oc) (C ++ [c]) ∧ PBox w5 g (.slice (some ⟨ob, 0, none⟩) (C.length + 1) oc) 0 0 ∧ ItmIn (Inn B g rb (.slice (some ⟨ob, 0, none⟩) (C.length + 1) oc) (C ++ [c])) w5 x xs ∧ KeepR B rb w w5)
    (hg : B ≤ g) (h6 : xs[6]? = some (.slice none 0 0)) (hn : n = C.length + 1) (hos : os = (C ++ [c]).flatMap (·.cs)) (hB : B ≤ w.heap.size) (hW : Below w5.heap.size w5 W) (hs : W.heap.size = w5.heap.size + 1) (hE : PushE B g n g3 cap3 0 0 os xs (.slice (some ⟨ob, 0, none⟩) n oc) W W') :
    ReadP B g rb (readR ((C ++ [c]).map (·.x)) (.begins x)) w (.returned (.tuple #[])) W' := by
  obtain ⟨p1, p2, p3⟩ := push_done h hg h6 hn hos hB hW hs hE
  exact ⟨rfl, _, ⟨_, by simp [readR], p1⟩, p2, p3⟩
theorem OneAt.shape {P : Nat → Prop} {B : Nat} {w : World} {c : Opn} (h : OneAt P B w c) : ∃ (b : Bool) (n vo vt : ByteArray) (va : Option Addr) (vn vc : Nat) (la : Option Addr) (ln lc : Nat) (ia : Option Addr) (k cap : Nat), c.cs = [.bool b, .string n, .string vo, .string vt, .slice va vn vc, .slice la ln lc, .slice ia k cap] := by
  obtain ⟨b, n, e, ls, vo, vt, vk, lv, L, -, h2, h3, h4, h5, -⟩ := h
  obtain ⟨va, vn, vc, rfl⟩ := exp_shape h3
  obtain ⟨la, lc, rfl, -⟩ := h4.1.len
  rcases h5.2 with ⟨q, -⟩ | ⟨g, cap, cur, q, -⟩
  · rw [q] at h2; exact ⟨_, _, _, _, _, _, _, _, _, _, _, _, _, h2⟩
  · rw [q] at h2; exact ⟨_, _, _, _, _, _, _, _, _, _, _, _, _, h2⟩
theorem top_at {B g ob oc : Nat} {rb : Option Nat} {w : World} {C : List Opn} {c : Opn} (h : StC B g rb w (.slice (some ⟨ob, 0, none⟩) (C.length + 1) oc) (C ++ [c])) (j : Nat) (u : Value) (hu : c.cs[j]? = some u) : w.cell? ⟨ob, C.length * 7 + j, none⟩ = some u := by
  have h7 : ∀ d ∈ C, d.cs.length = 7 := fun d hd => (h.all d (by simp [hd])).len
  have hj : j < 7 := by have := (List.getElem?_eq_some_iff.1 hu).1; rw [(h.all c (by simp)).len] at this; exact this
  have hro := h.row
  rw [show (C ++ [c]).length = C.length + 1 by simp] at hro
  rw [hro.cellAt _ (by omega), flat_top C c h7 j, hu]
theorem read_nextT {B g : Nat} {rb : Option Nat} {w w4 w5 : World} {v : Value} {C : List Opn} {a e : Int} {p : Prop} (h : StC B g rb w4 v C ∧ PBox w4 g v a e ∧ p ∧ KeepR B rb w w4) (hb : Below w4.heap.size w4 w5) (hB : B ≤ w.heap.size) :
    StC B g rb w5 v C ∧ PBox w5 g v a e ∧ True ∧ KeepR B rb w w5 :=
  ⟨h.1.below hb, h.2.1.below hb h.1.gl, trivial, h.2.2.2.trans hB ⟨hb.mono (Nat.le_trans hB h.2.2.2.1.size), fun b e => hb.block b (h.1.rl b e)⟩⟩
theorem fin_call {B g ob oc m : Nat} {rb : Option Nat} {w wc : World} {C : List Opn} {c : Opn} {xs : List Value} {p : Prop} (h : StC B g rb wc (.slice (some ⟨ob, 0, none⟩) (C.length + 1) oc) (C ++ [c]) ∧ PBox wc g (.slice (some ⟨ob, 0, none⟩) (C.length + 1) oc) 0 0 ∧ p ∧ KeepR B rb w wc)
    (hC0 : 0 < C.length) (hcs : c.cs = xs) (hC : C.length ≤ 900001) (hk : ∀ d ∈ C, d.x.items.length ≤ 900000) (hB : B ≤ w.heap.size) (hg : B ≤ g) (hm : m = C.length) :
    Calls Tryz.prog 22 #[.pointer (some ⟨g, 0, none⟩), .agg xs.toArray] (wc.setCell ⟨g, 0, none⟩ (.slice (some ⟨ob, 0, none⟩) m oc)).drew fun e w' => e = .returned (.tuple #[]) ∧ ReadP B g rb (readR ((C ++ [c]).map (·.x)) .fin) w (.returned (.tuple #[])) w' := by
  subst hm
  subst hcs
  have hsz : wc.heap.size ≤ (wc.setCell ⟨g, 0, none⟩ (.slice (some ⟨ob, 0, none⟩) C.length oc)).drew.heap.size := by show _ ≤ (wc.setCell _ _).heap.size; simp [World.setCell]
  have hf : ∀ b, b < wc.heap.size → b ≠ g → (wc.setCell ⟨g, 0, none⟩ (.slice (some ⟨ob, 0, none⟩) C.length oc)).drew.heap[b]? = wc.heap[b]? := fun b _ hb => heap_setCell_other wc ⟨g, 0, none⟩ b _ hb
  obtain ⟨h1, h2⟩ := h.1.pop (w' := (wc.setCell ⟨g, 0, none⟩ (.slice (some ⟨ob, 0, none⟩) C.length oc)).drew) hC0 hsz hf
  have hp : PBox (wc.setCell ⟨g, 0, none⟩ (.slice (some ⟨ob, 0, none⟩) C.length oc)).drew g (.slice (some ⟨ob, 0, none⟩) C.length oc) 0 0 := h.2.1.setI 0 _
  have hkp : KeepR B rb wc (wc.setCell ⟨g, 0, none⟩ (.slice (some ⟨ob, 0, none⟩) C.length oc)).drew := ⟨⟨rfl, rfl, rfl, hsz, fun k hk => hf k (Nat.lt_of_lt_of_le hk (Nat.le_trans hB h.2.2.2.1.size)) (by omega)⟩, fun b eb => hf b (h.1.rl b eb) (fun q => h.1.apart.rg (by rw [eb, q]))⟩
  have hBc := Nat.le_trans hB h.2.2.2.1.size
  generalize (wc.setCell ⟨g, 0, none⟩ (.slice (some ⟨ob, 0, none⟩) C.length oc)).drew = wd at *
  rcases List.eq_nil_or_concat C with rfl | ⟨C1, d, hCd⟩
  · simp at hC0
  · rw [List.concat_eq_append] at hCd
    subst hCd
    refine (addC_any 0 0 h1 hp h2 (by simp at hC; omega) (Nat.le_trans (hk d (by simp)) (by omega)) (Nat.le_trans hBc hsz)).mono ?_
    rintro _ w' ⟨rfl, c2, e2, s2, p2, k2⟩
    refine ⟨rfl, rfl, _, ⟨C1 ++ [c2], ?_, s2⟩, p2, (h.2.2.2.trans hB hkp).trans hB k2⟩
    simp only [readR, List.map_append, List.map_cons, List.map_nil, List.dropLast_concat, List.getLast?_concat, Option.getD_some, e2]
    exact addTop_snoc _ _ _
theorem wp_letter {P : Program} {code : Code} {Q : Exit → Act → World → Prop} {a : Act} {W : World} {Pr : World → Prop} (h : Pr W) (k : ∀ z, Pr z → Code.wp P code Q a z) : Code.wp P code Q a W := k W h
set_option maxHeartbeats 4000000 in
set_option maxRecDepth 100000 in
theorem read_any (B g : Nat) (rb : Option Nat) (v : Value) (C : List Opn) (c : Opn) (row : List Tok) (lv : Value) (stop : Int) (last : Bool) (w : World) (hS : StC B g rb w v (C ++ [c])) (h : PBox w g v 0 0) (hr : ToksAt w lv row) (ho : ∀ b, lv.ownBlock = some b → b < w.heap.size) (hT : LexT w) (hn : row.length ≤ 900000) (hsh : ∀ t ∈ row, t.text.size ≤ 1000000) (hq : ∀ t ∈ row, t.kind = 3 → quoX t.text ≠ none)
    (hC : C.length ≤ 900000) (hk : ∀ d ∈ C ++ [c], d.x.items.length ≤ 900000) (hB : B ≤ w.heap.size) (hg : B ≤ g) :
    Calls Tryz.prog 12 #[.pointer (some ⟨g, 0, none⟩), lineV lv stop last] w (ReadP B g rb (readK ((C ++ [c]).map (·.x)) row stop last) w) := by
  obtain ⟨ob, oc, rfl⟩ : ∃ ob oc, v = .slice (some ⟨ob, 0, none⟩) (C.length + 1) oc := by
    have hro := hS.row
    rw [show (C ++ [c]).length = C.length + 1 by simp] at hro
    obtain ⟨g', cap', q, -⟩ := World.ownsRow.form hro (by omega)
    exact ⟨g', cap', q⟩
  rw [readK_R]
  have hA : Below w.heap.size w (w.alloc (.cells #[lv, .int .i64 stop, .bool last] 48)) := (Below.refl _ w).alloc (Nat.le_refl _) _
  have hK := kind_any g (some ⟨ob, 0, none⟩) (C.length + 1) oc row lv stop last _ (h.below hA hS.gl) (hr.below hA (Nat.le_refl _)) (fun b e => Nat.lt_of_lt_of_le (ho b e) hA.size) (hT.below hA) hn hsh hq
  rw [show ((C ++ [c]).map (·.x)).length = C.length + 1 by simp]
  have HF : Hid (lineK (C.length + 1) row stop last = .fin → 0 < C.length) := Lib.hid (fun q => by have := lineK_fin q; omega)
  generalize lineK (C.length + 1) row stop last = R at *
  obtain ⟨la, lc, rfl, hl1, hl2, -⟩ := hr.len
  have HH := Lib.hid (And.intro hS (And.intro hB (And.intro hg (And.intro hC hk))))
  clear hS h hr ho hT hn hsh hq hC hk hB hA
  generalize row.length = N at *
  simp only [lineV] at hK
  go_enter Tryz.func12, Tryz.ntmps12
  go_wp2_with fail
  refine hK.mono ?_
  clear hK
  rintro _ w4 ⟨hsv, p4, cs, rfl, hin, hi6⟩
  obtain ⟨h4, hin4, hkp⟩ := read_kind HH.out.1 HH.out.2.1 HH.out.2.2.1 hsv hin
  obtain ⟨xn, xo, xt, va, vn, vc, xla, ln, xlc, ia, ik, ic, rfl⟩ := ItmIn.shape7 hin
  simp only [List.getElem?_cons_succ, List.getElem?_cons_zero, Option.some.injEq, Value.slice.injEq] at hi6
  obtain ⟨rfl, rfl, rfl⟩ := hi6
  clear hsv hin
  have HX := Lib.hid (And.intro h4 (And.intro p4 (And.intro hin4 (And.intro hkp trivial))))
  clear h4 p4 hin4 hkp
  generalize (lnX R).block = xb at *
  go_wp2_with (with_reducible first | refine stop_store ?_)
  refine Stop.out ?_
  refine wpList_store_all rfl 37 _ _ rfl rfl _ rfl #[.bool xb, .string xn, .string xo, .string xt, .slice va vn vc, .slice xla ln xlc, .slice none 0 0] rfl _ _ (Cells.new w4 zeroIC.toArray 37) rfl (by kernel_rfl) (one7 _ _ _ _ _ _ _ _ _ _ _ _ _) ?_
  rw [World.setRow_alloc_new]
  have hb5 : Below w4.heap.size w4 (w4.alloc (.cells #[.bool xb, .string xn, .string xo, .string xt, .slice va vn vc, .slice xla ln xlc, .slice none 0 0] 37)) := (Below.refl _ w4).alloc (Nat.le_refl _) _
  have hq5 : Cells (w4.alloc (.cells #[.bool xb, .string xn, .string xo, .string xt, .slice va vn vc, .slice xla ln xlc, .slice none 0 0] 37)) w4.heap.size #[.bool xb, .string xn, .string xo, .string xt, .slice va vn vc, .slice xla ln xlc, .slice none 0 0] 37 := Cells.new w4 #[.bool xb, .string xn, .string xo, .string xt, .slice va vn vc, .slice xla ln xlc, .slice none 0 0] 37
  have HX := Lib.hid (read_next HX.out hb5 HH.out.2.1)
  have hq5l := hq5.lt
  generalize w4.alloc (.cells #[.bool xb, .string xn, .string xo, .string xt, .slice va vn vc, .slice xla ln xlc, .slice none 0 0] 37) = w5 at *
  have HQ := Lib.hid hq5
  clear hb5
  cases R with
  | wrong a e =>
    simp only [lnK]
    clear hq5
    go_wp2_with fail
    refine bodyPost_end (v := .tuple #[]) (by simp [results, Tryz.results12, go_sem]) rfl ?_
    exact ⟨rfl, _, ⟨_, rfl, HX.out.1⟩, HX.out.2.1, HX.out.2.2.2⟩
  | empty =>
    simp only [lnK]
    clear hq5
    go_wp2_with fail
    refine bodyPost_end (v := .tuple #[]) (by simp [results, Tryz.results12, go_sem]) rfl ?_
    exact ⟨rfl, _, ⟨_, rfl, HX.out.1⟩, HX.out.2.1, HX.out.2.2.2⟩
  | attr x =>
    simp only [lnK]
    have hC := addC_any _ _ HX.out.1 HX.out.2.1 HX.out.2.2.1 (Nat.le_trans HH.out.2.2.2.1 (by omega)) (Nat.le_trans (HH.out.2.2.2.2 c (by simp)) (by omega)) (Nat.le_trans HH.out.2.1 HX.out.2.2.2.1.size)
    have hq5c0 := hq5.cell 0 _ rfl
    have hq5f0 := hq5.frozen 0
    have hq5c1 := hq5.cell 1 _ rfl
    have hq5f1 := hq5.frozen 1
    have hq5c2 := hq5.cell 2 _ rfl
    have hq5f2 := hq5.frozen 2
    have hq5c3 := hq5.cell 3 _ rfl
    have hq5f3 := hq5.frozen 3
    have hq5c4 := hq5.cell 4 _ rfl
    have hq5f4 := hq5.frozen 4
    have hq5c5 := hq5.cell 5 _ rfl
    have hq5f5 := hq5.frozen 5
    have hq5c6 := hq5.cell 6 _ rfl
    have hq5f6 := hq5.frozen 6
    clear hq5
    go_wp2_with fail
    refine hC.mono ?_
    clear hC
    rintro _ w6 ⟨rfl, c2, e2, s2, p2, k2⟩
    have H6 := Lib.hid (And.intro e2 (And.intro s2 (And.intro p2 k2)))
    clear e2 s2 p2 k2 hq5c0 hq5c1 hq5c2 hq5c3 hq5c4 hq5c5 hq5c6 hq5f0 hq5f1 hq5f2 hq5f3 hq5f4 hq5f5 hq5f6
    go_wp2_with fail
    refine bodyPost_end (v := .tuple #[]) (by simp [results, Tryz.results12, go_sem]) rfl ?_
    refine ⟨rfl, _, ⟨C ++ [c2], ?_, H6.out.2.1⟩, H6.out.2.2.1, HX.out.2.2.2.trans HH.out.2.1 H6.out.2.2.2⟩
    simp only [readR, List.map_append, List.map_cons, List.map_nil, H6.out.1]
    exact addTop_snoc _ _ _
  | begins x =>
    simp only [lnK]
    have hq5c0 := hq5.cell 0 _ rfl
    have hq5f0 := hq5.frozen 0
    have hq5c1 := hq5.cell 1 _ rfl
    have hq5f1 := hq5.frozen 1
    have hq5c2 := hq5.cell 2 _ rfl
    have hq5f2 := hq5.frozen 2
    have hq5c3 := hq5.cell 3 _ rfl
    have hq5f3 := hq5.frozen 3
    have hq5c4 := hq5.cell 4 _ rfl
    have hq5f4 := hq5.frozen 4
    have hq5c5 := hq5.cell 5 _ rfl
    have hq5f5 := hq5.frozen 5
    have hq5c6 := hq5.cell 6 _ rfl
    have hq5f6 := hq5.frozen 6
    clear hq5
    obtain ⟨i0, hi0, hi1⟩ := Option.map_eq_some_iff.1 Tryz.infoItm
    simp only [Prod.mk.injEq] at hi1
    obtain ⟨hz0, hz1, hz2⟩ := hi1
    obtain ⟨n, os, v, HV, hn9, HL, HQ2, hpc, hvg⟩ : ∃ (n : Nat) (os : List Value) (v : Value), Hid (n = C.length + 1 ∧ os = (C ++ [c]).flatMap (·.cs) ∧ v = .slice (some ⟨ob, 0, none⟩) n oc) ∧ n ≤ 1000000 ∧ Hid (os.length = n * 7) ∧
        Hid (((w5.alloc (.cells zeroIC.toArray 37)).drew.ownsRow B 37 7 (.slice (some ⟨ob, 0, none⟩) n oc) n os) ∧ (Cells (w5.alloc (.cells zeroIC.toArray 37)).drew g #[.slice (some ⟨ob, 0, none⟩) n oc, .int .i64 0, .int .i64 0] 43) ∧
        (∀ (j : Nat) (u : Value), zeroIC[j]? = some u → (w5.alloc (.cells zeroIC.toArray 37)).drew.cell? ⟨w5.heap.size, j, none⟩ = some u) ∧ B ≤ (w5.alloc (.cells zeroIC.toArray 37)).drew.heap.size ∧ (w5.alloc (.cells zeroIC.toArray 37)).drew.heap.size = w5.heap.size + 1 ∧ Below w5.heap.size w5 (w5.alloc (.cells zeroIC.toArray 37)).drew) ∧
        w5.cell? ⟨g, 0, none⟩ = some (.slice (some ⟨ob, 0, none⟩) n oc) ∧ ¬ ob = g := by
      have hr := HX.out.1.row
      rw [show (C ++ [c]).length = C.length + 1 by simp] at hr
      exact ⟨_, _, _, Lib.hid ⟨rfl, rfl, rfl⟩, by have := HH.out.2.2.2.1; omega, Lib.hid hr.1, Lib.hid (push_at (Nat.le_trans HH.out.2.1 HX.out.2.2.2.1.size) hr HX.out.2.1), HX.out.2.1.cell 0 _ rfl, fun q => HX.out.1.apart.vg (by rw [q]; rfl)⟩
    have hg5 := HX.out.1.gl
    have hkk : (n : Int) < (n : Int) + 1 := by omega
    go_wp2_with fail
    go_region_law (first
      | (refine step_append_lies _ rfl _ _ 23 rfl B 37 i0 _ 7 128 Tryz.underlying23 hi0 hz0 hz1 hz2 rfl (by decide) (.slice (some ⟨ob, 0, none⟩) n oc) n os (by rfl) (by exact HQ2.out.1) ⟨w5.heap.size, 0, none⟩ 1 1 zeroIC (by rfl) rfl (by intro j u hu; rw [Addr.add_lit, Nat.zero_add]; exact HQ2.out.2.2.1 j u hu) zeroIC_one (by omega) (by unfold maxLen; omega) (by omega) (by exact HQ2.out.2.2.2.1) _ rfl ?_; intro g3 cap3 w3 hown3 hgrow3 hat3 hlt3; have hgp := HQ2.out.2.1.kept hgrow3 (fun q => hvg (Option.some.inj q).symm); have o7c := hgp.cell 0 _ rfl; have o7f := hgp.frozen 0; have m0 := new_at0 hown3 HL.out; have m0f := hown3.frozenAt (n * 7); have m1 := new_at hown3 HL.out 1 _ rfl; have m1f := hown3.frozenAt (n * 7 + 1); have m2 := new_at hown3 HL.out 2 _ rfl; have m2f := hown3.frozenAt (n * 7 + 2); have m3 := new_at hown3 HL.out 3 _ rfl; have m3f := hown3.frozenAt (n * 7 + 3); have m4 := new_at hown3 HL.out 4 _ rfl; have m4f := hown3.frozenAt (n * 7 + 4); have m5 := new_at hown3 HL.out 5 _ rfl; have m5f := hown3.frozenAt (n * 7 + 5); have m6 := new_at hown3 HL.out 6 _ rfl; have m6f := hown3.frozenAt (n * 7 + 6); have hg3 := push_far hat3 HQ2.out.2.2.2.2.1 (fun q => hvg (Option.some.inj q)) hg5; have hg3' : ¬ g = g3 := fun e => hg3 e.symm; have HG := Lib.hid (And.intro hown3 (And.intro hgrow3 (And.intro hat3 hgp))); clear hown3 hgrow3 hat3 hgp))
    all_goals
      go_wp2_with fail
    all_goals
      refine bodyPost_end (v := .tuple #[]) (by simp [results, Tryz.results12, go_sem]) rfl ?_
    all_goals
      obtain ⟨q1, q2, q3, q4⟩ := HG.out
      refine begin_done (g3 := g3) (cap3 := cap3) (xs := [.bool xb, .string xn, .string xo, .string xt, .slice va vn vc, .slice xla ln xlc, .slice none 0 0]) HX.out HH.out.2.2.1 rfl HV.out.1 HV.out.2.1 HH.out.2.1 HQ2.out.2.2.2.2.2 HQ2.out.2.2.2.2.1 ?_
      first
        | with_reducible exact push_c1 HL.out hg3 q1 q2 q3 q4
        | with_reducible exact push_c2 HL.out hg3 q1 q2 q3 q4
  | bare x =>
    simp only [lnK]
    have hq5c0 := hq5.cell 0 _ rfl
    have hq5f0 := hq5.frozen 0
    have hq5c1 := hq5.cell 1 _ rfl
    have hq5f1 := hq5.frozen 1
    have hq5c2 := hq5.cell 2 _ rfl
    have hq5f2 := hq5.frozen 2
    have hq5c3 := hq5.cell 3 _ rfl
    have hq5f3 := hq5.frozen 3
    have hq5c4 := hq5.cell 4 _ rfl
    have hq5f4 := hq5.frozen 4
    have hq5c5 := hq5.cell 5 _ rfl
    have hq5f5 := hq5.frozen 5
    have hq5c6 := hq5.cell 6 _ rfl
    have hq5f6 := hq5.frozen 6
    clear hq5
    obtain ⟨i0, hi0, hi1⟩ := Option.map_eq_some_iff.1 Tryz.infoItm
    simp only [Prod.mk.injEq] at hi1
    obtain ⟨hz0, hz1, hz2⟩ := hi1
    obtain ⟨n, os, v, HV, hn9, HL, HQ2, hpc, hvg⟩ : ∃ (n : Nat) (os : List Value) (v : Value), Hid (n = C.length + 1 ∧ os = (C ++ [c]).flatMap (·.cs) ∧ v = .slice (some ⟨ob, 0, none⟩) n oc) ∧ n ≤ 1000000 ∧ Hid (os.length = n * 7) ∧
        Hid (((w5.alloc (.cells zeroIC.toArray 37)).drew.ownsRow B 37 7 (.slice (some ⟨ob, 0, none⟩) n oc) n os) ∧ (Cells (w5.alloc (.cells zeroIC.toArray 37)).drew g #[.slice (some ⟨ob, 0, none⟩) n oc, .int .i64 0, .int .i64 0] 43) ∧
        (∀ (j : Nat) (u : Value), zeroIC[j]? = some u → (w5.alloc (.cells zeroIC.toArray 37)).drew.cell? ⟨w5.heap.size, j, none⟩ = some u) ∧ B ≤ (w5.alloc (.cells zeroIC.toArray 37)).drew.heap.size ∧ (w5.alloc (.cells zeroIC.toArray 37)).drew.heap.size = w5.heap.size + 1 ∧ Below w5.heap.size w5 (w5.alloc (.cells zeroIC.toArray 37)).drew) ∧
        w5.cell? ⟨g, 0, none⟩ = some (.slice (some ⟨ob, 0, none⟩) n oc) ∧ ¬ ob = g := by
      have hr := HX.out.1.row
      rw [show (C ++ [c]).length = C.length + 1 by simp] at hr
      exact ⟨_, _, _, Lib.hid ⟨rfl, rfl, rfl⟩, by have := HH.out.2.2.2.1; omega, Lib.hid hr.1, Lib.hid (push_at (Nat.le_trans HH.out.2.1 HX.out.2.2.2.1.size) hr HX.out.2.1), HX.out.2.1.cell 0 _ rfl, fun q => HX.out.1.apart.vg (by rw [q]; rfl)⟩
    have hg5 := HX.out.1.gl
    have hkk : (n : Int) < (n : Int) + 1 := by omega
    go_wp2_with fail
    go_region_law (first
      | (refine step_append_lies _ rfl _ _ 23 rfl B 37 i0 _ 7 128 Tryz.underlying23 hi0 hz0 hz1 hz2 rfl (by decide) (.slice (some ⟨ob, 0, none⟩) n oc) n os (by rfl) (by exact HQ2.out.1) ⟨w5.heap.size, 0, none⟩ 1 1 zeroIC (by rfl) rfl (by intro j u hu; rw [Addr.add_lit, Nat.zero_add]; exact HQ2.out.2.2.1 j u hu) zeroIC_one (by omega) (by unfold maxLen; omega) (by omega) (by exact HQ2.out.2.2.2.1) _ rfl ?_; intro g3 cap3 w3 hown3 hgrow3 hat3 hlt3; have hgp := HQ2.out.2.1.kept hgrow3 (fun q => hvg (Option.some.inj q).symm); have o7c := hgp.cell 0 _ rfl; have o7f := hgp.frozen 0; have m0 := new_at0 hown3 HL.out; have m0f := hown3.frozenAt (n * 7); have m1 := new_at hown3 HL.out 1 _ rfl; have m1f := hown3.frozenAt (n * 7 + 1); have m2 := new_at hown3 HL.out 2 _ rfl; have m2f := hown3.frozenAt (n * 7 + 2); have m3 := new_at hown3 HL.out 3 _ rfl; have m3f := hown3.frozenAt (n * 7 + 3); have m4 := new_at hown3 HL.out 4 _ rfl; have m4f := hown3.frozenAt (n * 7 + 4); have m5 := new_at hown3 HL.out 5 _ rfl; have m5f := hown3.frozenAt (n * 7 + 5); have m6 := new_at hown3 HL.out 6 _ rfl; have m6f := hown3.frozenAt (n * 7 + 6); have hg3 := push_far hat3 HQ2.out.2.2.2.2.1 (fun q => hvg (Option.some.inj q)) hg5; have hg3' : ¬ g = g3 := fun e => hg3 e.symm; have HG := Lib.hid (And.intro hown3 (And.intro hgrow3 (And.intro hat3 hgp))); clear hown3 hgrow3 hat3 hgp))
    all_goals go_upto_region 10 with fail
    all_goals
      obtain ⟨q1, q2, q3, q4⟩ := HG.out
      refine wp_letter (Pr := PushE B g n g3 cap3 0 0 os [.bool xb, .string xn, .string xo, .string xt, .slice va vn vc, .slice xla ln xlc, .slice none 0 0] (.slice (some ⟨ob, 0, none⟩) n oc) (w5.alloc (.cells zeroIC.toArray 37)).drew) (by
        first
          | with_reducible exact push_c1 HL.out hg3 q1 q2 q3 q4
          | with_reducible exact push_c2 HL.out hg3 q1 q2 q3 q4) (fun wc hE => ?_)
      clear q1 q2 q3 q4 HG m0 m1 m2 m3 m4 m5 m6 m0f m1f m2f m3f m4f m5f m6f o7c o7f
      obtain ⟨p1, p2, p3⟩ := push_done HX.out HH.out.2.2.1 rfl HV.out.1 HV.out.2.1 HH.out.2.1 HQ2.out.2.2.2.2.2 HQ2.out.2.2.2.2.1 hE
      have hx9 : (Opn.mk (lnX (LnR.bare x)) [.bool xb, .string xn, .string xo, .string xt, .slice va vn vc, .slice xla ln xlc, .slice none 0 0] (.slice none 0 0)).x = x := rfl
      generalize (Opn.mk (lnX (LnR.bare x)) [.bool xb, .string xn, .string xo, .string xt, .slice va vn vc, .slice xla ln xlc, .slice none 0 0] (.slice none 0 0)) = c9 at *
      have HX9 := Lib.hid hx9
      clear hx9
      have hlC : (C ++ [c]).length = C.length + 1 := by simp
      rw [← hlC] at p1 p2
      have HX5 := Lib.hid (And.intro p1 (And.intro p2 (And.intro trivial p3)))
      have HLC := Lib.hid hlC
      clear p1 p2 p3 hE hlC hpc hvg hg5 hkk
      clear hq5c0 hq5c1 hq5c2 hq5c3 hq5c4 hq5c5 hq5c6 hq5f0 hq5f1 hq5f2 hq5f3 hq5f4 hq5f5 hq5f6
      have HX := HX5
      clear HX5
      obtain ⟨tb, tn, tO, tt, ta, t1, t2, tla, t3, t4, tia, t5, t6, hcs⟩ := (HX.out.1.all c9 (by simp)).shape
      obtain ⟨n2, m, HV, hm9, hnm, hmn, hpc, f0, f1, f2, f3, f4, f5, f6⟩ : ∃ (n2 m : Nat), Hid (n2 = (C ++ [c]).length + 1 ∧ m = (C ++ [c]).length) ∧ m ≤ 1000000 ∧ (n2 : Int) - 1 = (m : Int) ∧ m < n2 ∧ wc.cell? ⟨g, 0, none⟩ = some (.slice (some ⟨g3, 0, none⟩) n2 cap3) ∧ wc.cell? ⟨g3, m * 7, none⟩ = some (.bool tb) ∧ wc.cell? ⟨g3, m * 7 + 1, none⟩ = some (.string tn) ∧ wc.cell? ⟨g3, m * 7 + 2, none⟩ = some (.string tO) ∧
          wc.cell? ⟨g3, m * 7 + 3, none⟩ = some (.string tt) ∧ wc.cell? ⟨g3, m * 7 + 4, none⟩ = some (.slice ta t1 t2) ∧ wc.cell? ⟨g3, m * 7 + 5, none⟩ = some (.slice tla t3 t4) ∧ wc.cell? ⟨g3, m * 7 + 6, none⟩ = some (.slice tia t5 t6) := by
        have ht := top_at HX.out.1
        rw [hcs] at ht
        exact ⟨_, _, Lib.hid ⟨rfl, rfl⟩, by have := HH.out.2.2.2.1; rw [HLC.out]; omega, by omega, by omega, HX.out.2.1.cell 0 _ rfl, ht 0 _ rfl, ht 1 _ rfl, ht 2 _ rfl, ht 3 _ rfl, ht 4 _ rfl, ht 5 _ rfl, ht 6 _ rfl⟩
      have hg5 := HX.out.1.gl
      have HCS := Lib.hid (And.intro hcs trivial)
      have hob5 : g3 < wc.heap.size := (HX.out.1.lt (.inl rfl)).2
      clear hcs
      go_cut [6] (fun x wk => ∃ p6 : Nat, x = .pointer (some ⟨p6, 0, none⟩) ∧ Cells wk p6 #[.bool tb, .string tn, .string tO, .string tt, .slice ta t1 t2, .slice tla t3 t4, .slice tia t5 t6] 37 ∧ ¬ p6 = g ∧ Below wc.heap.size wc wk)
      case first =>
        go_region
        all_goals go_wp2_with fail
        all_goals go_meet
        all_goals exact ⟨_, rfl, (Cells.new _ _ _).drew, by omega, ((Below.refl _ _).alloc (Nat.le_refl _) _).drew⟩
      case rest =>
        obtain ⟨p6, rfl, k6, hp6, hb6⟩ := hcut
        have HX6 := Lib.hid (read_nextT ⟨HX.out.1, HX.out.2.1, trivial, HX.out.2.2.2⟩ hb6 HH.out.2.1)
        have hpc6 := HX6.out.2.1.cell 0 _ rfl
        have hpf6 := HX6.out.2.1.frozen 0
        have hg6 := HX6.out.1.gl
        have hmo : m ≤ cap3 := by
          have hr := HX6.out.1.row
          rcases hr.2 with ⟨q, -⟩ | ⟨_, _, _, q, -, -, q3, -⟩
          · cases q
          · injection q with _ q1 q2
            have := HV.out
            omega
        have h6l := k6.lt
        rw [← HV.out.1] at hpc6
        have HK6 := Lib.hid k6
        have hp6' : ¬ g = p6 := fun e => hp6 e.symm
        clear hpc f0 f1 f2 f3 f4 f5 f6 hb6
        have k6c0 := k6.cell 0 _ rfl
        have k6f0 := k6.frozen 0
        have k6c1 := k6.cell 1 _ rfl
        have k6f1 := k6.frozen 1
        have k6c2 := k6.cell 2 _ rfl
        have k6f2 := k6.frozen 2
        have k6c3 := k6.cell 3 _ rfl
        have k6f3 := k6.frozen 3
        have k6c4 := k6.cell 4 _ rfl
        have k6f4 := k6.frozen 4
        have k6c5 := k6.cell 5 _ rfl
        have k6f5 := k6.frozen 5
        have k6c6 := k6.cell 6 _ rfl
        have k6f6 := k6.frozen 6
        clear k6
        go_wp2_with fail
        go_region
        all_goals go_wp2_with fail
        all_goals
          have hA := fin_call (xs := [.bool tb, .string tn, .string tO, .string tt, .slice ta t1 t2, .slice tla t3 t4, .slice tia t5 t6]) ⟨HX6.out.1, HX6.out.2.1, HX6.out.2.2.1, HX6.out.2.2.2⟩ (by simp) HCS.out.1 (by have := HH.out.2.2.2.1; rw [HLC.out]; omega) HH.out.2.2.2.2 HH.out.2.1 HH.out.2.2.1 HV.out.2
          refine hA.mono ?_
          clear hA
          rintro _ w9 ⟨rfl, hR9⟩
          have HR9 := Lib.hid hR9
          clear hR9
          go_wp2_with fail
          refine bodyPost_end (v := .tuple #[]) (by simp [results, Tryz.results12, go_sem]) rfl ?_
          have hR9 := HR9.out
          rw [List.map_append (l₁ := C ++ [c]), List.map_cons, List.map_nil, readR_bare, HX9.out] at hR9
          exact hR9
  | fin =>
    simp only [lnK]
    have hC0 := HF.out rfl
    obtain ⟨tb, tn, tO, tt, ta, t1, t2, tla, t3, t4, tia, t5, t6, hcs⟩ := (HX.out.1.all c (by simp)).shape
    obtain ⟨n, m, HV, hm9, hnm, hmn, hpc, f0, f1, f2, f3, f4, f5, f6⟩ : ∃ (n m : Nat), Hid (n = C.length + 1 ∧ m = C.length) ∧ m ≤ 1000000 ∧ (n : Int) - 1 = (m : Int) ∧ m < n ∧ w5.cell? ⟨g, 0, none⟩ = some (.slice (some ⟨ob, 0, none⟩) n oc) ∧ w5.cell? ⟨ob, m * 7, none⟩ = some (.bool tb) ∧ w5.cell? ⟨ob, m * 7 + 1, none⟩ = some (.string tn) ∧ w5.cell? ⟨ob, m * 7 + 2, none⟩ = some (.string tO) ∧
        w5.cell? ⟨ob, m * 7 + 3, none⟩ = some (.string tt) ∧ w5.cell? ⟨ob, m * 7 + 4, none⟩ = some (.slice ta t1 t2) ∧ w5.cell? ⟨ob, m * 7 + 5, none⟩ = some (.slice tla t3 t4) ∧ w5.cell? ⟨ob, m * 7 + 6, none⟩ = some (.slice tia t5 t6) := by
      have ht := top_at HX.out.1
      rw [hcs] at ht
      exact ⟨_, _, Lib.hid ⟨rfl, rfl⟩, by have := HH.out.2.2.2.1; omega, by omega, by omega, HX.out.2.1.cell 0 _ rfl, ht 0 _ rfl, ht 1 _ rfl, ht 2 _ rfl, ht 3 _ rfl, ht 4 _ rfl, ht 5 _ rfl, ht 6 _ rfl⟩
    have hg5 := HX.out.1.gl
    have HCS := Lib.hid (And.intro hcs hC0)
    have hob5 : ob < w5.heap.size := (HX.out.1.lt (.inl rfl)).2
    clear hq5 hcs hC0
    go_upto_region 10 with fail
    go_cut [6] (fun x wc => ∃ p6 : Nat, x = .pointer (some ⟨p6, 0, none⟩) ∧ Cells wc p6 #[.bool tb, .string tn, .string tO, .string tt, .slice ta t1 t2, .slice tla t3 t4, .slice tia t5 t6] 37 ∧ ¬ p6 = g ∧ Below w5.heap.size w5 wc)
    case first =>
      go_region
      all_goals go_wp2_with fail
      all_goals go_meet
      all_goals exact ⟨_, rfl, (Cells.new _ _ _).drew, by omega, ((Below.refl _ _).alloc (Nat.le_refl _) _).drew⟩
    case rest =>
      obtain ⟨p6, rfl, k6, hp6, hb6⟩ := hcut
      have HX6 := Lib.hid (read_next (p := True) ⟨HX.out.1, HX.out.2.1, HX.out.2.2.1, HX.out.2.2.2, trivial⟩ hb6 HH.out.2.1)
      have hpc6 := HX6.out.2.1.cell 0 _ rfl
      have hpf6 := HX6.out.2.1.frozen 0
      have hg6 := HX6.out.1.gl
      have hmo : m ≤ oc := by
        have hr := HX6.out.1.row
        rcases hr.2 with ⟨q, -⟩ | ⟨_, _, _, q, -, -, q3, -⟩
        · cases q
        · injection q with _ q1 q2
          have := HV.out
          omega
      have h6l := k6.lt
      rw [← HV.out.1] at hpc6
      have HK6 := Lib.hid k6
      have hp6' : ¬ g = p6 := fun e => hp6 e.symm
      clear hpc f0 f1 f2 f3 f4 f5 f6 hb6
      have k6c0 := k6.cell 0 _ rfl
      have k6f0 := k6.frozen 0
      have k6c1 := k6.cell 1 _ rfl
      have k6f1 := k6.frozen 1
      have k6c2 := k6.cell 2 _ rfl
      have k6f2 := k6.frozen 2
      have k6c3 := k6.cell 3 _ rfl
      have k6f3 := k6.frozen 3
      have k6c4 := k6.cell 4 _ rfl
      have k6f4 := k6.frozen 4
      have k6c5 := k6.cell 5 _ rfl
      have k6f5 := k6.frozen 5
      have k6c6 := k6.cell 6 _ rfl
      have k6f6 := k6.frozen 6
      clear k6
      go_wp2_with fail
      go_region
      all_goals go_wp2_with fail
      all_goals
        have hA := fin_call (xs := [.bool tb, .string tn, .string tO, .string tt, .slice ta t1 t2, .slice tla t3 t4, .slice tia t5 t6]) ⟨HX6.out.1, HX6.out.2.1, HX6.out.2.2.1, HX6.out.2.2.2⟩ HCS.out.2 HCS.out.1 (Nat.le_succ_of_le HH.out.2.2.2.1) (fun d hd => HH.out.2.2.2.2 d (by simp [hd])) HH.out.2.1 HH.out.2.2.1 HV.out.2
        refine hA.mono ?_
        clear hA
        rintro _ w9 ⟨rfl, hR9⟩
        have HR9 := Lib.hid hR9
        clear hR9
        go_wp2_with fail
        refine bodyPost_end (v := .tuple #[]) (by simp [results, Tryz.results12, go_sem]) rfl ?_
        exact HR9.out
end Go.Proofs.YthmmgpbojbjihaaGreatDoor

/- Plain law of layer 11: a token is told as it was, whatever stands behind it, if that can't go on with it. -/
namespace Go.Proofs.YthmmgpbojbjihaaGreatDoor

theorem digs_stop {s : Bs} (h : digs s = 0) : ∀ l : Bs, digs (l ++ s) = digs l
  | [] => h
  | c :: l => by simp only [List.cons_append, digs, digs_stop h l]
theorem idN_stop {s : Bs} (h : idN s = 0) : ∀ l : Bs, idN (l ++ s) = idN l
  | [] => h
  | c :: l => by simp only [List.cons_append, idN, idN_stop h l]
/-- What is behind a number goes on with it nowhere. -/
structure NumStop (s : Bs) : Prop where
  d : digs s = 0
  f : fracS s = 0
  p : powS s = 0
  g : sgS s = 0
theorem fracS_stop {s : Bs} (h : NumStop s) : ∀ l : Bs, fracS (l ++ s) = fracS l
  | [] => h.f
  | c :: l => by simp only [List.cons_append, fracS, digs_stop h.d l]
theorem sgS_stop {s : Bs} (h : NumStop s) : ∀ l : Bs, sgS (l ++ s) = sgS l
  | [] => h.g
  | c :: l => by simp only [List.cons_append, sgS]
theorem sgS_le : ∀ l : Bs, sgS l ≤ l.length
  | [] => Nat.le_refl _
  | c :: l => by rw [sgS]; split <;> simp
theorem powS_stop {s : Bs} (h : NumStop s) : ∀ l : Bs, powS (l ++ s) = powS l
  | [] => h.p
  | c :: l => by
    simp only [List.cons_append, powS, sgS_stop h l]
    rw [List.drop_append_of_le_length (sgS_le l), digs_stop h.d]
theorem intS_stop {s : Bs} (h : NumStop s) : ∀ l : Bs, intS (l ++ s) = intS l
  | [] => by
    simp only [List.nil_append]
    cases s with
    | nil => rfl
    | cons c s =>
      have := h.d
      show intS (c :: s) = 0
      simp only [intS]
      split
      · next hc => subst hc; rw [digs, if_pos (by decide)] at this; omega
      · exact this
  | c :: l => by
    simp only [List.cons_append, intS]
    rw [← List.cons_append, digs_stop h.d]
theorem fracS_le : ∀ l : Bs, fracS l ≤ l.length
  | [] => Nat.le_refl _
  | c :: l => by rw [fracS]; have := digs_le l; split <;> simp; omega
theorem intS_le : ∀ l : Bs, intS l ≤ l.length
  | [] => Nat.le_refl _
  | c :: l => by
    rw [intS]
    split
    · simp
    · exact digs_le _
theorem tailS_stop {s : Bs} (h : NumStop s) (l : Bs) : tailS (l ++ s) = tailS l := by
  unfold tailS
  rw [fracS_stop h, List.drop_append_of_le_length (fracS_le l), powS_stop h]
theorem mnS_le : ∀ l : Bs, mnS l ≤ l.length
  | [] => Nat.le_refl _
  | c :: l => by rw [mnS]; split <;> simp
theorem scanN_stop {s : Bs} (h : NumStop s) {l : Bs} (hl : l ≠ []) : scanN (l ++ s) = scanN l := by
  have hm : mnS (l ++ s) = mnS l := by cases l with | nil => exact absurd rfl hl | cons c l => rfl
  unfold scanN
  have hi := intS_le (l.drop (mnS l))
  rw [List.length_drop] at hi
  have hml := mnS_le l
  rw [hm, List.drop_append_of_le_length hml, intS_stop h, List.drop_append_of_le_length (by omega), tailS_stop h]
theorem endN_app : ∀ (l s : Bs) (n : Nat), endN l = some n → endN (l ++ s) = some n
  | [], _, _, h => by cases h
  | c :: l, s, n, h => by
    cases l with
    | nil =>
      rw [endN] at h
      simp [endN] at h
    | cons d l =>
      rw [List.cons_append, endN]
      rw [endN] at h
      have hh : ((d :: l) ++ s).head? = (d :: l).head? := rfl
      rw [hh]
      split at h
      · next hc => rw [if_pos hc]; exact h
      · next hc =>
        rw [if_neg hc]
        obtain ⟨m, hm, rfl⟩ := Option.map_eq_some_iff.1 h
        rw [endN_app (d :: l) s m hm]
        rfl
theorem sgN_app {c : UInt8} {r s : Bs} (h : r ≠ [] ∨ (s.head? ≠ some 61 ∧ s.head? ≠ some 38 ∧ s.head? ≠ some 124)) : sgN (c :: (r ++ s)) = sgN (c :: r) := by
  have hany : dbls.any (fun d => d.isPrefixOf (c :: (r ++ s))) = dbls.any (fun d => d.isPrefixOf (c :: r)) := by
    simp only [dbls, List.any_cons, List.any_nil, pfx2]
    cases r with
    | cons d r => rfl
    | nil =>
      rcases h with h | ⟨h1, h2, h3⟩
      · exact absurd rfl h
      · simp [h1, h2, h3]
  simp only [sgN, hany]
theorem nb_app (a b : Bs) : nb (a ++ b) = nb a ++ nb b := by unfold nb; rw [List.map_append]
theorem quo1_app {l s : Bs} {k n : Nat} (h : quo1 l = .tok k n) : quo1 (l ++ s) = .tok k n := by
  unfold quo1 at h ⊢
  split at h
  · next hz =>
    have hsz := scanQ_size (nb_byt l) hz
    have hm := scanQ_more (l := nb l) (m := (nb l).drop (scanQ (nb l)).2.1 ++ nb s) (nb_byt l) (fun x hx => by
      rcases List.mem_append.1 hx with hx | hx
      · exact nb_byt l x (List.mem_of_mem_drop hx)
      · exact nb_byt s x hx) hz
    rw [← List.append_assoc, List.take_append_drop, ← nb_app] at hm
    rw [hm, if_pos hz]
    exact h
  · cases h
theorem num1_app {l s : Bs} {k n : Nat} (h : num1 l = .tok k n) (hl : l ≠ []) (hs : NumStop s) : num1 (l ++ s) = .tok k n := by
  unfold num1 at h ⊢
  rw [scanN_stop hs hl, List.take_append_of_le_length (scanN_le l)]
  exact h
theorem lineN_nl (b : Bs) : ∀ l : Bs, lineN (l ++ 10 :: b) = lineN l
  | [] => by simp [lineN]
  | c :: l => by simp only [List.cons_append, lineN, lineN_nl b l]
theorem remS_nl (l b : Bs) : remS (l ++ 10 :: b) = remS l := by
  unfold remS
  rw [lineN_nl, List.take_append_of_le_length (lineN_le l)]
theorem aside1_app {l s : Bs} {k n : Nat} (h : aside1 l = .tok k n) (h2 : 2 ≤ l.length) : aside1 (l ++ s) = .tok k n := by
  unfold aside1 at h ⊢
  rw [List.drop_append_of_le_length h2]
  cases he : endN (l.drop 2) with
  | none => rw [he] at h; cases h
  | some m =>
    rw [he] at h
    have hle := endN_le _ _ he
    rw [List.length_drop] at hle
    rw [endN_app _ s m he]
    simp only at h ⊢
    rw [List.take_append_of_le_length (by omega), List.take_append_of_le_length (by omega)]
    exact h
theorem stop_nl (b : Bs) : NumStop (10 :: b) := ⟨by simp [digs, show dg 10 = false from rfl], by simp [fracS], by simp [powS], by simp [sgS]⟩
/-- A token is told as it was, with the line's end behind. -/
theorem one1_nl {l : Bs} {k n : Nat} (h : one1 l = .tok k n) (b : Bs) : one1 (l ++ 10 :: b) = .tok k n := by
  cases l with
  | nil => cases h
  | cons c r =>
    rw [List.cons_append]
    rw [one1] at h ⊢
    split at h
    · next hc => rw [if_pos hc, idN_stop (by simp [idN, show idB 10 = false from rfl])]; exact h
    next hc =>
    rw [if_neg hc]
    split at h
    · next hg => rw [if_pos hg, ← List.cons_append]; exact num1_app h (by simp) (stop_nl b)
    next hg =>
    rw [if_neg hg]
    split at h
    · next hq => rw [if_pos hq, ← List.cons_append]; exact quo1_app h
    next hq =>
    rw [if_neg hq]
    split at h
    · next h10 => rw [if_pos h10]; exact h
    next h10 =>
    rw [if_neg h10]
    have hh : ∀ x : UInt8, x ≠ 10 → (((r ++ 10 :: b).head? = some x) ↔ (r.head? = some x)) := fun x hx => by
      cases r with
      | nil => simp; exact fun e => hx e.symm
      | cons d r => simp
    simp only [hh 47 (by decide), hh 42 (by decide)]
    split at h
    · next hr => rw [if_pos hr, ← List.cons_append, remS_nl]; exact h
    next hr =>
    rw [if_neg hr]
    split at h
    · next ha =>
      rw [if_pos ha, ← List.cons_append]
      exact aside1_app h (by cases r with | nil => simp at ha | cons d r => simp)
    next ha =>
    rw [if_neg ha, sgN_app (.inr (by simp))]
    exact h
/-- The tokens of two texts with the line's end between. -/
theorem lex_nl : ∀ (k : Nat) (a : Bs) (p : Nat) (b : Bs), a.length ≤ k → (lexL a p).2.2 = 0 →
    lexL (a ++ 10 :: b) p = ((lexL a p).1 ++ ⟨5, strL [10], ((p + a.length : Nat) : Int)⟩ :: (lexL b (p + a.length + 1)).1, (lexL b (p + a.length + 1)).2)
  | k, [], p, b, _, _ => by
    have ho : one1 (10 :: b) = .tok 5 1 := by simp [one1, show letB 10 = false from rfl, show dg 10 = false from rfl]
    rw [List.nil_append, lexL_tok rfl ho, lexL_nil]
    simp
  | 0, c :: r, p, b, hk, _ => by simp at hk
  | k + 1, c :: r, p, b, hk, h => by
    simp only [List.length_cons] at hk
    rw [List.cons_append]
    cases hb : blankB c with
    | true =>
      rw [lexL_blank hb] at h ⊢
      rw [lexL_blank hb, lex_nl k r (p + 1) b (by omega) h]
      simp only [List.length_cons]
      rw [show p + 1 + r.length = p + (r.length + 1) by omega]
    | false =>
      cases ho : one1 (c :: r) with
      | bad o e => rw [lexL_bad hb ho] at h; exact absurd h (one1_err ho)
      | tok kd sz =>
        have hs := one1_size ho
        rw [List.length_cons] at hs
        rw [lexL_tok hb ho] at h ⊢
        have ho2 := one1_nl ho b
        rw [List.cons_append] at ho2
        rw [lexL_tok hb ho2, ← List.cons_append, List.take_append_of_le_length (by simp; omega), List.drop_append_of_le_length (by simp; omega)]
        have ih := lex_nl k ((c :: r).drop sz) (p + sz) b (by rw [List.length_drop, List.length_cons]; omega) h
        rw [ih, List.length_drop, List.length_cons]
        simp only [List.cons_append]
        rw [show p + sz + (r.length + 1 - sz) = p + (r.length + 1) by omega]
end Go.Proofs.YthmmgpbojbjihaaGreatDoor
