/- Texts of this claim, one behind the other: BoC, BoD, BoE, BoEa, BoEb, BoF, BoG, BoH, BoJ, BoL, BoMa, BoM, BoV, BoNp, BoNq. -/
import Derived.Test.YtbcdaaobbebooaaGreatDoorLgd
import Derived.Test.YtbcdaaobbebooaaGreatDoorLge
import Derived.Deep.AppendLies
import Derived.Deep.MidRow
set_option linter.unusedSimpArgs false
set_option linter.unusedVariables false
namespace Go.Proofs.YtbcdaaobbebooaaGreatDoor
set_option maxRecDepth 100000
set_option maxHeartbeats 20000000
open Go.RowKit Go.Tab
theorem ToksAt.drop {w : World} {a : Option Addr} {n cap : Nat} {l : List Tok} (h : ToksAt w (.slice a n cap) l) {L : Nat} (h2 : L <= l.length) :
  ToksAt w (sliced a L l.length cap 3) (l.drop L) /\ (sliced a L l.length cap 3).ownBlock = (Value.slice a n cap).ownBlock := by
 obtain ⟨a', cap', he, h3, h4, h5, h6⟩ := h; cases he
 have hlen : (l.drop L).length = l.length - L := List.length_drop; unfold sliced; refine ⟨⟨_, _, by rw [hlen], by omega, by omega, fun hn => ?_, fun x hx hne => ?_⟩, ?_⟩
 ·cases a with
  | none => have := h5 rfl; omega
  | some x => split at hn <;> simp at hn
 ·cases a with
  | none => split at hx <;> simp at hx
  | some y =>
   have hl0 : l ≠ [] := by intro h0; subst h0; simp at hne
   obtain ⟨g1, g2, g3⟩ := h6 y rfl hl0; split at hx
   ·cases hx
    refine ⟨g1, g2, fun j hj => ?_⟩; rw [List.length_drop] at hj; omega
   ·simp at hx
    obtain ⟨b, off, sp⟩ := y; simp only at g1; subst g1; rw [Addr.add_lit] at hx; subst hx; refine ⟨rfl, g2, fun j hj => ?_⟩; rw [List.length_drop] at hj; have := g3 (L + j) (by omega); simp only [Nat.add_mul, <- Nat.add_assoc] at this; simp only [List.getElem_drop]; exact this
 ·cases a with
  | none => simp [Value.ownBlock]
  | some y => split <;> simp [Value.ownBlock, block_add]
section
variable {P : Program} {w : World} {ops : Array Oper} {rest : List Oper} {o : Oper} {a : Act} {Q : Exit -> Act -> World -> Prop}
theorem run_sizeOf_n {e : TypeId} {n : Nat} (h : (P.info? e).map (fun i => i.size) = some n) (w : World) : (sizeOf e).run P w = .ok n w := by
 obtain ⟨i, hi, hs⟩ := Option.map_eq_some_iff.1 h; simp [sizeOf, typeInfo, hi, hs]
theorem wpList_slice_tok (hgd : Region.wanted o (yielded ops a.tmps) = true) (x lo : Operand) (t : TypeId) (ho : o.op = .slice t x (some lo) none none)
  (ht : P.underlying t = some (.slice (P.elem t))) (hs : (P.info? (P.elem t)).map (fun i => i.size) = some 3)
  (l : List Tok) (hrow : ToksAt w (a.eval x) l) (k : IntKind) (n : Int) (L : Nat) (eL : a.eval lo = .int k n) (hL : n = L) (h2 : L <= l.length)
  (hK : ∀ v', ToksAt w v' (l.drop L) -> v'.ownBlock = (a.eval x).ownBlock -> wpList P ops Q rest (a.put o.dst v') w) : wpList P ops Q (o :: rest) a w := by
 obtain ⟨ao, cap, hv, h3, h4, h5⟩ := hrow.len; rw [hv] at hrow; obtain ⟨r1, r2⟩ := hrow.drop h2; refine wpList_want hgd fun K hK' => ?_; subst hL; have hrun := run_slice_l (P := P) w t ao l.length cap ht k (L : Int) (by omega) (by omega); unfold Oper.wp; simp only [execOp, ho, hv, eL, Option.map_some, Option.map_none, Sem.run_bind, run_sliceAt_slice (P := P) w t _ _ _ _ ht, hrun, run_sizeOf_n hs, Result.andThen, Sem.run_pure, Oper.upon_value, Int.toNat_natCast]; exact hK' _ _ (hK _ r1 (by rw [hv]; exact r2))
end
def KindP (g : Nat) (v : Value) (r : LnR) (w : World) (e : Ending) (w' : World) : Prop := Save g w w' /\ PBox w' g v (lnE r).1 (lnE r).2 /\ ∃ cs, e = .returned (.tuple #[.int .i64 (lnK r), .agg cs.toArray]) /\ ItmIn (fun b => w.heap.size <= b) w' (lnX r) cs /\ cs[6]? = some (.slice none 0 0)
abbrev zeroIC : List Value := [.bool false, .string ⟨#[]⟩, .string ⟨#[]⟩, .string ⟨#[]⟩, .slice none 0 0, .slice none 0 0, .slice none 0 0]
theorem ItmIn.zero (P : Nat -> Prop) (w : World) : ItmIn P w zeroI zeroIC := ItmIn.leaf (ExpIn.leaf _ _ _ _) RowIn.nil
theorem exp_shape {P : Nat -> Prop} {w : World} {t : Exp} {o s : ByteArray} {v : Value} (h : ExpIn P w t [.string o, .string s, v]) : ∃ a n c, v = .slice a n c := by
 obtain ⟨o2, s2, a, n, c, he⟩ := h.shape; simp only [List.cons.injEq, and_true] at he; exact ⟨a, n, c, he.2.2⟩
theorem exp_put {w3 : World} {B n q : Nat} {x : Exp} {cs vals : List Value} (hq : q < B) (hn : n <= B) (hx : ExpIn (fun b => B <= b) w3 x cs) : ExpIn (fun b => n <= b) (setAll w3 q 0 vals).drew x cs :=
 ExpIn.move (P := fun b => B <= b) (Q := fun b => n <= b) (w := w3) (w' := (setAll w3 q 0 vals).drew) (Nat.le_of_eq (setAll_size q vals 0 w3).symm) (fun b (hb : B <= b) _ => setAll_other q vals 0 w3 b (by omega)) (fun b (hb : B <= b) _ => Nat.le_trans hn hb) x cs hx
theorem lack_zero (row : List Tok) (stop : Int) (last : Bool) (i : Nat) : lnK (lackR row stop last i) = 0 /\ lnX (lackR row stop last i) = zeroI := by
 unfold lackR; split
 ·exact ⟨rfl, rfl⟩
 ·split <;> exact ⟨rfl, rfl⟩
theorem attribute_any (g : Nat) (v : Value) (t t2 : Tok) (row : List Tok) (lv : Value) (stop : Int) (last : Bool) (w : World) (h : PBox w g v 0 0) (hr : ToksAt w lv (t :: t2 :: row)) (ho : ∀ b, lv.ownBlock = some b -> b < w.heap.size) (hT : LexT w) (hn : row.length <= 900000) (hsh : ∀ t ∈ row, t.text.size <= 1048576) :
  Calls Tryz.prog 133 #[.pointer (some ⟨g, 0, none⟩), lineV lv stop last] w (KindP g v (attrK (t :: t2 :: row) stop last t.text) w) := by
 obtain ⟨ra, rc, rfl, hl1, hl2, -⟩ := hr.len; obtain ⟨N, hN⟩ : ∃ N, N = (t :: t2 :: row).length := ⟨_, rfl⟩; have hN2 : N = row.length + 2 := by rw [hN]; simp
 rw [<- hN] at hr hl1 ho ⊢; unfold maxLen at hl2; have hNle : N <= row.length + 2 /\ row.length + 2 <= N := by omega
 have HN := Lib.hid hN; clear hN hN2; obtain ⟨R, hR⟩ : ∃ R, R = attrK (t :: t2 :: row) stop last t.text := ⟨_, rfl⟩; have HR := Lib.hid hR; rw [<- hR]; clear hR; have hb1 : Below w.heap.size w ((w.alloc (.cells (lineC (.slice ra N rc) stop last) 86)).alloc (.cells zeroIC.toArray 54)) := ((Below.refl _ w).alloc (Nat.le_refl _) _).alloc (by simp) _; have k0 := (Cells.new w (lineC (.slice ra N rc) stop last) 86).alloc (.cells zeroIC.toArray 54); have k1 := Cells.new (w.alloc (.cells (lineC (.slice ra N rc) stop last) 86)) zeroIC.toArray 54; simp only [World.size_alloc] at k1; have hP1 := h.below hb1 h.lt; have hr1 := hr.below hb1 (Nat.le_refl _); have hT1 := hT.below hb1; have hgw := h.lt; have hz1 : ((w.alloc (.cells (lineC (.slice ra N rc) stop last) 86)).alloc (.cells zeroIC.toArray 54)).heap.size = w.heap.size + 2 := by simp
 have HB := Lib.hid hb1; have HK := Lib.hid (And.intro k0 (And.intro k1 (And.intro hP1 (And.intro hr1 hT1)))); clear h hr hT hb1 k0 k1 hP1 hr1 hT1; go_enter Tryz.func133, Tryz.ntmps133; go_wp2_with (with_reducible first | refine stop_slice ?_)
 refine Stop.out ?_; obtain ⟨k0, k1, hP1, hr1, hT1⟩ := HK.out; generalize (w.alloc (.cells (lineC (.slice ra N rc) stop last) 86)).alloc (.cells zeroIC.toArray 54) = w1 at *; refine wpList_slice_tok rfl _ _ _ rfl Tryz.underlying22 (by kernel_rfl) (t :: t2 :: row) (by exact hr1) .i64 2 2 rfl rfl (by simp) ?_; intro v' hv' hvb; simp only [List.drop_succ_cons, List.drop_zero] at hv'; obtain ⟨va, vc, rfl, -⟩ := hv'.len; have hE := exprParse_any w1 _ row hv' (fun b hb => by rw [hvb] at hb; exact Nat.lt_of_lt_of_le (ho b hb) HB.out.size) hT1.utf hT1.utf.pos (by omega) hsh; clear hv' hvb; have HZ := Lib.hid hz1; clear hz1; go_wp2_with fail; refine hE.mono ?_; clear hE; rintro _ w2 ⟨hb2, o, tt, a, n, c, rfl, hX⟩; have hat := parE_at row; have hle := parE_le2 row; obtain ⟨⟨x, k, e⟩, hg⟩ : ∃ q, parE row = q := ⟨_, rfl⟩; have hRR := HR.out; unfold attrK at hRR; simp only [List.drop_succ_cons, List.drop_zero] at hRR; rw [hg] at hX hat hle hRR ⊢; simp only at hX hat hle hRR ⊢; rw [<- HN.out] at hRR; clear HR hg; have hal : Below w2.heap.size w2 (w2.alloc (.cells #[.string o, .string tt, .slice a n c] 52)) := (Below.refl _ _).alloc (Nat.le_refl _) _; have hb3 := hb2.trans (hal.mono hb2.size); have k3 := k0.below hb3 k0.lt; have q3 := k1.below hb3 k1.lt; have p3 := hP1.below hb3 hP1.lt; have r3 := hr1.below hb3 (Nat.le_refl _); have e3 := Cells.new w2 #[.string o, .string tt, .slice a n c] 52; have hs3 : Save g w (w2.alloc (.cells #[.string o, .string tt, .slice a n c] 52)) := (Save.of HB.out).trans (Save.of hb3)
 have hX3 : ExpIn (fun b => w.heap.size + 2 <= b) (w2.alloc (.cells #[.string o, .string tt, .slice a n c] 52)) x [.string o, .string tt, .slice a n c] := ExpIn.below hal _ _ (ExpIn.move (Nat.le_refl _) (fun _ _ _ => rfl) (fun b hb _ => by rw [<- HZ.out]; exact hb) _ _ hX); have hz3 : w.heap.size + 2 <= w2.heap.size := by rw [<- HZ.out]; exact hb2.size
 have HX3 := Lib.hid (And.intro hX3 hs3); have hHK := Lib.hid (And.intro k3 (And.intro q3 (And.intro p3 (And.intro r3 e3)))); have hk3l := k3.lt; have hq3l := q3.lt; have he3l := e3.lt; clear HK k0 k1 hP1 hr1 hT1 hb2 hb3 hal hX hX3 hs3 HB
 by_cases hc1 : e = 2 \/ (e = 0 /\ 2 + k < N)
 ·rw [if_pos hc1] at hRR
  have hL := lacks_any g v (t :: t2 :: row) (.slice ra N rc) stop last (2 + k) _ p3 r3 (by simp; omega); rw [show ((2 + k : Nat) : Int) = 2 + (k : Int) by omega, <- hRR] at hL; have HRR := Lib.hid hRR; have h0 : lnK R = 0 /\ lnX R = zeroI := by rw [hRR]; exact lack_zero _ _ _ _
  have H0 := Lib.hid h0; clear hRR h0 r3 p3 hat; have k3c0 := k3.cell 0 _ rfl; have k3f0 := k3.frozen 0; have k3c1 := k3.cell 1 _ rfl; have k3f1 := k3.frozen 1; have k3c2 := k3.cell 2 _ rfl; have k3f2 := k3.frozen 2; have e3c0 := e3.cell 0 _ rfl; have e3f0 := e3.frozen 0; have e3c1 := e3.cell 1 _ rfl; have e3f1 := e3.frozen 1; have e3c2 := e3.cell 2 _ rfl; have e3f2 := e3.frozen 2; clear k3 q3 e3; simp only [lineV] at hL; rcases hc1 with rfl | ⟨rfl, hlt⟩
  ·go_wp2_with fail
   refine hL.mono ?_; clear hL k3c0 k3c1 k3c2 k3f0 k3f1 k3f2 e3c0 e3c1 e3c2 e3f0 e3f1 e3f2; rintro _ w4 ⟨rfl, hs4, p4⟩; have q4 := hs4.cells hHK.out.2.1 (by omega); have hl4 := q4.lt; have HP4 := Lib.hid (And.intro p4 (HX3.out.2.trans hs4)); have HQ4 := Lib.hid q4; have q4c0 := q4.cell 0 _ rfl; have q4f0 := q4.frozen 0; have q4c1 := q4.cell 1 _ rfl; have q4f1 := q4.frozen 1; have q4c2 := q4.cell 2 _ rfl; have q4f2 := q4.frozen 2; have q4c3 := q4.cell 3 _ rfl; have q4f3 := q4.frozen 3; have q4c4 := q4.cell 4 _ rfl; have q4f4 := q4.frozen 4; have q4c5 := q4.cell 5 _ rfl; have q4f5 := q4.frozen 5; have q4c6 := q4.cell 6 _ rfl; have q4f6 := q4.frozen 6; clear q4 p4 hs4; go_wp2_with fail; have hqq := HQ4.out.put zeroIC 0; have y0 := hqq.cell 0 (.bool false) rfl; have y1 := hqq.cell 1 (.string ⟨#[]⟩) rfl; have y2 := hqq.cell 2 (.string ⟨#[]⟩) rfl; have y3 := hqq.cell 3 (.string ⟨#[]⟩) rfl; have y4 := hqq.cell 4 (.slice none 0 0) rfl; have y5 := hqq.cell 5 (.slice none 0 0) rfl; have y6 := hqq.cell 6 (.slice none 0 0) rfl; simp only [setAll] at y0 y1 y2 y3 y4 y5 y6; refine bodyPost_ret (v := .tuple #[.int .i64 0, .agg #[.bool false, .string ⟨#[]⟩, .string ⟨#[]⟩, .string ⟨#[]⟩, .slice none 0 0, .slice none 0 0, .slice none 0 0]]) (by simp [results, Tryz.results133, go_sem, y0, y1, y2, y3, y4, y5, y6]) rfl ?_; show KindP g v R w _ (setAll w4 (w.heap.size + 1) 0 zeroIC); exact ⟨HP4.out.2.setAllNew (by omega) _, HP4.out.1.setAllOther (by omega), zeroIC, by rw [H0.out.1], (by rw [H0.out.2]; exact ItmIn.zero _ _), rfl⟩
  ·have hd : decide ((2 : Int) + (k : Int) < (N : Int)) = true := by rw [decide_eq_true_iff]; omega
   go_wp2_with fail; refine hL.mono ?_; clear hL k3c0 k3c1 k3c2 k3f0 k3f1 k3f2 e3c0 e3c1 e3c2 e3f0 e3f1 e3f2; rintro _ w4 ⟨rfl, hs4, p4⟩; have q4 := hs4.cells hHK.out.2.1 (by omega); have hl4 := q4.lt; have HP4 := Lib.hid (And.intro p4 (HX3.out.2.trans hs4)); have HQ4 := Lib.hid q4; have q4c0 := q4.cell 0 _ rfl; have q4f0 := q4.frozen 0; have q4c1 := q4.cell 1 _ rfl; have q4f1 := q4.frozen 1; have q4c2 := q4.cell 2 _ rfl; have q4f2 := q4.frozen 2; have q4c3 := q4.cell 3 _ rfl; have q4f3 := q4.frozen 3; have q4c4 := q4.cell 4 _ rfl; have q4f4 := q4.frozen 4; have q4c5 := q4.cell 5 _ rfl; have q4f5 := q4.frozen 5; have q4c6 := q4.cell 6 _ rfl; have q4f6 := q4.frozen 6; clear q4 p4 hs4; go_wp2_with fail; have hqq := HQ4.out.put zeroIC 0; have y0 := hqq.cell 0 (.bool false) rfl; have y1 := hqq.cell 1 (.string ⟨#[]⟩) rfl; have y2 := hqq.cell 2 (.string ⟨#[]⟩) rfl; have y3 := hqq.cell 3 (.string ⟨#[]⟩) rfl; have y4 := hqq.cell 4 (.slice none 0 0) rfl; have y5 := hqq.cell 5 (.slice none 0 0) rfl; have y6 := hqq.cell 6 (.slice none 0 0) rfl; simp only [setAll] at y0 y1 y2 y3 y4 y5 y6; refine bodyPost_ret (v := .tuple #[.int .i64 0, .agg #[.bool false, .string ⟨#[]⟩, .string ⟨#[]⟩, .string ⟨#[]⟩, .slice none 0 0, .slice none 0 0, .slice none 0 0]]) (by simp [results, Tryz.results133, go_sem, y0, y1, y2, y3, y4, y5, y6]) rfl ?_; show KindP g v R w _ (setAll w4 (w.heap.size + 1) 0 zeroIC); exact ⟨HP4.out.2.setAllNew (by omega) _, HP4.out.1.setAllOther (by omega), zeroIC, by rw [H0.out.1], (by rw [H0.out.2]; exact ItmIn.zero _ _), rfl⟩
 ·rw [if_neg hc1] at hRR
  have hx2 : e ≠ 2 := fun h => hc1 (.inl h)
  by_cases he : e = 0
  ·subst he
   have hk : k = row.length := by
    have : ¬ 2 + k < N := fun h => hc1 (.inr ⟨rfl, h⟩); omega
   rw [if_pos rfl] at hRR; have hd : decide ((2 : Int) + (k : Int) < (N : Int)) = false := by rw [decide_eq_false_iff_not]; omega
   obtain ⟨b, off, rfl, hlt, c0, c1, c2⟩ := r3.get (j := 0) (by simp); simp only [Nat.zero_mul, Nat.add_zero, List.getElem_cons_zero] at c0 c1 c2; have HRR := Lib.hid hRR; have HQ3 := Lib.hid q3; have HP3 := Lib.hid p3; clear hRR hk hc1 r3 p3 hat hx2; have k3c0 := k3.cell 0 _ rfl; have k3f0 := k3.frozen 0; have k3c1 := k3.cell 1 _ rfl; have k3f1 := k3.frozen 1; have k3c2 := k3.cell 2 _ rfl; have k3f2 := k3.frozen 2; have e3c0 := e3.cell 0 _ rfl; have e3f0 := e3.frozen 0; have e3c1 := e3.cell 1 _ rfl; have e3f1 := e3.frozen 1; have e3c2 := e3.cell 2 _ rfl; have e3f2 := e3.frozen 2; have q3c0 := q3.cell 0 _ rfl; have q3f0 := q3.frozen 0; have q3c1 := q3.cell 1 _ rfl; have q3f1 := q3.frozen 1; have q3c2 := q3.cell 2 _ rfl; have q3f2 := q3.frozen 2; have q3c3 := q3.cell 3 _ rfl; have q3f3 := q3.frozen 3; have q3c4 := q3.cell 4 _ rfl; have q3f4 := q3.frozen 4; have q3c5 := q3.cell 5 _ rfl; have q3f5 := q3.frozen 5; have q3c6 := q3.cell 6 _ rfl; have q3f6 := q3.frozen 6; clear k3 q3 e3; go_wp2_with fail; go_region
   all_goals
    go_wp2_with fail; have hqq := (HQ3.out.put [.bool false, .string t.text, .string o, .string tt, .slice a n c, .slice none 0 0, .slice none 0 0] 0).drew; have y0 := hqq.cell 0 (.bool false) rfl; have y1 := hqq.cell 1 (.string t.text) rfl; have y2 := hqq.cell 2 (.string o) rfl; have y3 := hqq.cell 3 (.string tt) rfl; have y4 := hqq.cell 4 (.slice a n c) rfl; have y5 := hqq.cell 5 (.slice none 0 0) rfl; have y6 := hqq.cell 6 (.slice none 0 0) rfl; simp only [setAll] at y0 y1 y2 y3 y4 y5 y6; refine bodyPost_ret (v := .tuple #[.int .i64 2, .agg #[.bool false, .string t.text, .string o, .string tt, .slice a n c, .slice none 0 0, .slice none 0 0]]) (by simp [results, Tryz.results133, go_sem, y0, y1, y2, y3, y4, y5, y6]) rfl ?_; show KindP g v R w _ (setAll (w2.alloc (.cells #[.string o, .string tt, .slice a n c] 52)) (w.heap.size + 1) 0 [.bool false, .string t.text, .string o, .string tt, .slice a n c, .slice none 0 0, .slice none 0 0]).drew; rw [HRR.out]; refine ⟨(HX3.out.2.setAllNew (by omega) _).drew, (HP3.out.setAllOther (by omega)).drew, [.bool false, .string t.text, .string o, .string tt, .slice a n c, .slice none 0 0, .slice none 0 0], rfl, ?_⟩; refine ⟨ItmIn.leaf ?_ RowIn.nil, rfl⟩; exact exp_put (q := w.heap.size + 1) (B := w.heap.size + 2) (by omega) (by omega) HX3.out.1
  ·rw [if_neg he] at hRR
   have hkl := hat he hx2; have hlt : 2 + k < (t :: t2 :: row).length := by simp; omega
   rw [List.getElem?_eq_getElem hlt] at hRR; obtain ⟨b, off, rfl, hlt2, c0, c1, c2⟩ := r3.get (j := 2 + k) hlt; simp only at hRR; generalize (t :: t2 :: row)[2 + k] = tk at *; have hF := bfail_any g v 0 0 tk.pos e _ p3; have hqe : (e == 0) = false := by simpa using he
   have hqn : (e != 0) = true := by simpa using he
   have hq2 : (e == 2) = false := by simpa using hx2
   have HRR := Lib.hid hRR; clear hRR r3 p3 hat hc1 he hx2 hlt; have k3c0 := k3.cell 0 _ rfl; have k3f0 := k3.frozen 0; have k3c1 := k3.cell 1 _ rfl; have k3f1 := k3.frozen 1; have k3c2 := k3.cell 2 _ rfl; have k3f2 := k3.frozen 2; have e3c0 := e3.cell 0 _ rfl; have e3f0 := e3.frozen 0; have e3c1 := e3.cell 1 _ rfl; have e3f1 := e3.frozen 1; have e3c2 := e3.cell 2 _ rfl; have e3f2 := e3.frozen 2; clear k3 q3 e3; have hd1 : (2 : Int) + (k : Int) < (N : Int) := by omega
   have ha2 : off + (2 + k) * 3 = off + (2 + k) * 3 := rfl; go_wp2_with fail; refine hF.mono ?_; clear hF k3c0 k3c1 k3c2 k3f0 k3f1 k3f2 e3c0 e3c1 e3c2 e3f0 e3f1 e3f2 c0 c1 c2; rintro _ w4 ⟨rfl, p4, hw4⟩; have hs4 : Save g (w2.alloc (.cells #[.string o, .string tt, .slice a n c] 52)) w4 := by rw [hw4]; exact ((Save.refl _ _).set _ _).set _ _
   clear hw4; have H0 : Hid (lnK R = 0 /\ lnX R = zeroI) := Lib.hid (by rw [HRR.out]; exact ⟨rfl, rfl⟩); have p4 : PBox w4 g v (lnE R).1 (lnE R).2 := by rw [HRR.out]; exact p4
   have q4 := hs4.cells hHK.out.2.1 (by omega); have hl4 := q4.lt; have HP4 := Lib.hid (And.intro p4 (HX3.out.2.trans hs4)); have HQ4 := Lib.hid q4; have q4c0 := q4.cell 0 _ rfl; have q4f0 := q4.frozen 0; have q4c1 := q4.cell 1 _ rfl; have q4f1 := q4.frozen 1; have q4c2 := q4.cell 2 _ rfl; have q4f2 := q4.frozen 2; have q4c3 := q4.cell 3 _ rfl; have q4f3 := q4.frozen 3; have q4c4 := q4.cell 4 _ rfl; have q4f4 := q4.frozen 4; have q4c5 := q4.cell 5 _ rfl; have q4f5 := q4.frozen 5; have q4c6 := q4.cell 6 _ rfl; have q4f6 := q4.frozen 6; clear q4 p4 hs4; go_wp2_with fail; have hqq := HQ4.out.put zeroIC 0; have y0 := hqq.cell 0 (.bool false) rfl; have y1 := hqq.cell 1 (.string ⟨#[]⟩) rfl; have y2 := hqq.cell 2 (.string ⟨#[]⟩) rfl; have y3 := hqq.cell 3 (.string ⟨#[]⟩) rfl; have y4 := hqq.cell 4 (.slice none 0 0) rfl; have y5 := hqq.cell 5 (.slice none 0 0) rfl; have y6 := hqq.cell 6 (.slice none 0 0) rfl; simp only [setAll] at y0 y1 y2 y3 y4 y5 y6; refine bodyPost_ret (v := .tuple #[.int .i64 0, .agg #[.bool false, .string ⟨#[]⟩, .string ⟨#[]⟩, .string ⟨#[]⟩, .slice none 0 0, .slice none 0 0, .slice none 0 0]]) (by simp [results, Tryz.results133, go_sem, y0, y1, y2, y3, y4, y5, y6]) rfl ?_; show KindP g v R w _ (setAll w4 (w.heap.size + 1) 0 zeroIC); exact ⟨HP4.out.2.setAllNew (by omega) _, HP4.out.1.setAllOther (by omega), zeroIC, by rw [H0.out.1], (by rw [H0.out.2]; exact ItmIn.zero _ _), rfl⟩
def LsAt (row : List Tok) (m : Nat) (pre : List ByteArray) : Prop := pre.length = m /\ labs row = pre ++ labs (row.drop m)
theorem LsAt.zero (row : List Tok) : LsAt row 0 [] := ⟨rfl, rfl⟩
theorem LsAt.step {row : List Tok} {m : Nat} {pre : List ByteArray} (h : LsAt row m pre) (hm : m < row.length) (h3 : row[m].kind = 3) {x : ByteArray} (hx : quoX row[m].text = some x) : LsAt row (m + 1) (pre ++ [x]) := by
 refine ⟨by simp [h.1], ?_⟩; rw [h.2, List.drop_eq_getElem_cons hm, labs, if_pos h3, hx]; simp
theorem LsAt.stop {row : List Tok} {m : Nat} {pre : List ByteArray} (h : LsAt row m pre) (hm : m < row.length) (h3 : row[m].kind ≠ 3) : labs row = pre /\ pre.length = m := by
 refine ⟨?_, h.1⟩; rw [h.2, List.drop_eq_getElem_cons hm, labs, if_neg h3, List.append_nil]
theorem LsAt.done {row : List Tok} {m : Nat} {pre : List ByteArray} (h : LsAt row m pre) (hm : row.length <= m) : labs row = pre /\ pre.length = m := by
 refine ⟨?_, h.1⟩; rw [h.2, List.drop_eq_nil_of_le hm, labs, List.append_nil]
theorem Tryz.infoStr : (Tryz.prog.info? 9).map (fun i => (i.zero, i.size, i.bytes)) = some (some (.string ⟨#[]⟩), 1, 16) := by kernel_rfl
def BlkS (w W : World) (line xc : Array Value) (v : Value) (pre : List ByteArray) : Prop := Below w.heap.size w W /\ Cells W w.heap.size line 86 /\ Cells W (w.heap.size + 1) zeroIC.toArray 54 /\ Cells W (w.heap.size + 2) xc 54 /\ OwnOf Value.string 9 (w.heap.size + 3) W v pre /\ w.heap.size + 3 <= W.heap.size
theorem BlkS.step {w W W' : World} {line xc : Array Value} {v : Value} {pre : List ByteArray} (h : BlkS w W line xc v pre) (hb : Below W.heap.size W W') : BlkS w W' line xc v pre :=
 ⟨h.1.trans (hb.mono h.1.size), h.2.1.below hb h.2.1.lt, h.2.2.1.below hb h.2.2.1.lt, h.2.2.2.1.below hb h.2.2.2.1.lt, h.2.2.2.2.1.below hb (Nat.le_refl _), Nat.le_trans h.2.2.2.2.2 hb.size⟩
theorem row_put {w3 : World} {B n q : Nat} {v : Value} {l : List ByteArray} {vals : List Value} (hq : q < B) (hn : n <= B) (hx : OwnOf Value.string 9 B w3 v l) : RowIn (fun b => n <= b) (setAll w3 q 0 vals).drew v l := by
 have ho : OwnOf Value.string 9 B (setAll w3 q 0 vals).drew v l := hx.moved (fun k hk => setAll_other q vals 0 w3 k (by have := (World.ownsRow.lt hx k hk).1; omega)); exact ⟨ho.row, fun k hk => by have h9 := World.ownsRow.lt ho k hk; exact ⟨Nat.le_trans hn h9.1, h9.2⟩⟩
theorem block_any (g : Nat) (oa : Option Addr) (n oc : Nat) (t : Tok) (row : List Tok) (lv : Value) (stop : Int) (last : Bool) (w : World) (h : PBox w g (.slice oa n oc) 0 0) (hr : ToksAt w lv (t :: row)) (hT : Tab w) (hTg : 1 < w.heap.size) (hn : row.length <= 900000) (hsh : ∀ t ∈ row, t.text.size <= 1048576) (hq : ∀ t ∈ row, t.kind = 3 -> quoX t.text ≠ none) :
  Calls Tryz.prog 134 #[.pointer (some ⟨g, 0, none⟩), lineV lv stop last] w (KindP g (.slice oa n oc) (blockK n (t :: row) stop last t.text) w) := by
 obtain ⟨ra, rc, rfl, hl1, hl2, -⟩ := hr.len; obtain ⟨N, hN⟩ : ∃ N, N = (t :: row).length := ⟨_, rfl⟩; have hNle : N <= row.length + 1 /\ row.length + 1 <= N := by rw [hN]; simp
 rw [<- hN] at hr hl1 ⊢; unfold maxLen at hl2; have HN := Lib.hid hN; clear hN; obtain ⟨R, hR⟩ : ∃ R, R = blockK n (t :: row) stop last t.text := ⟨_, rfl⟩; have HR := Lib.hid hR; rw [<- hR]; clear hR; have hgw := h.lt; obtain ⟨b, off, rfl, hlt, c0, c1, c2⟩ := hr.get (j := 0) (by simp); simp only [Nat.zero_mul, Nat.add_zero, List.getElem_cons_zero] at c0 c1 c2; have H0 := Lib.hid (And.intro h (And.intro hr hT)); clear h hr hT; go_enter Tryz.func134, Tryz.ntmps134; go_wp2_with fail
 have hbA : Below w.heap.size w (((w.alloc (.cells (lineC (.slice (some ⟨b, off, none⟩) N rc) stop last) 86)).alloc (.cells zeroIC.toArray 54)).alloc (.cells #[.bool true, .string t.text, .string ⟨#[]⟩, .string ⟨#[]⟩, .slice none 0 0, .slice none 0 0, .slice none 0 0] 54)) :=
  (((Below.refl _ w).alloc (Nat.le_refl _) _).alloc (by simp) _).alloc (by simp only [World.size_alloc]; omega) _
 have kA := ((Cells.new w (lineC (.slice (some ⟨b, off, none⟩) N rc) stop last) 86).alloc (.cells zeroIC.toArray 54)).alloc (.cells #[.bool true, .string t.text, .string ⟨#[]⟩, .string ⟨#[]⟩, .slice none 0 0, .slice none 0 0, .slice none 0 0] 54); have kB := (Cells.new (w.alloc (.cells (lineC (.slice (some ⟨b, off, none⟩) N rc) stop last) 86)) zeroIC.toArray 54).alloc (.cells #[.bool true, .string t.text, .string ⟨#[]⟩, .string ⟨#[]⟩, .slice none 0 0, .slice none 0 0, .slice none 0 0] 54); have kC := Cells.new ((w.alloc (.cells (lineC (.slice (some ⟨b, off, none⟩) N rc) stop last) 86)).alloc (.cells zeroIC.toArray 54)) #[.bool true, .string t.text, .string ⟨#[]⟩, .string ⟨#[]⟩, .slice none 0 0, .slice none 0 0, .slice none 0 0] 54; simp only [World.size_alloc] at kB kC; have hzA : (((w.alloc (.cells (lineC (.slice (some ⟨b, off, none⟩) N rc) stop last) 86)).alloc (.cells zeroIC.toArray 54)).alloc (.cells #[.bool true, .string t.text, .string ⟨#[]⟩, .string ⟨#[]⟩, .slice none 0 0, .slice none 0 0, .slice none 0 0] 54)).heap.size = w.heap.size + 3 := by simp
 generalize ((w.alloc (.cells (lineC (.slice (some ⟨b, off, none⟩) N rc) stop last) 86)).alloc (.cells zeroIC.toArray 54)).alloc (.cells #[.bool true, .string t.text, .string ⟨#[]⟩, .string ⟨#[]⟩, .slice none 0 0, .slice none 0 0, .slice none 0 0] 54) = wA at *; have HA := Lib.hid (And.intro hbA (And.intro kA (And.intro kB (And.intro kC hzA)))); clear hbA kA kB kC hzA
 go_loopw [4, 7, 8, 9] (fun _ iv _ _ wr => ∃ (m : Nat) (pre : List ByteArray) (v : Value), m <= row.length /\ iv = .int .i64 ((1 + m : Nat) : Int) /\ LsAt row m pre /\ Below w.heap.size w wr /\ Cells wr w.heap.size (lineC (.slice (some ⟨b, off, none⟩) N rc) stop last) 86 /\
   Cells wr (w.heap.size + 1) zeroIC.toArray 54 /\ Cells wr (w.heap.size + 2) #[.bool true, .string t.text, .string ⟨#[]⟩, .string ⟨#[]⟩, .slice none 0 0, v, .slice none 0 0] 54 /\ OwnOf Value.string 9 (w.heap.size + 3) wr v pre /\ w.heap.size + 3 <= wr.heap.size) (fun _ iv _ _ _ => N - (intOf iv).toNat)
 case atStart => exact ⟨0, [], _, Nat.zero_le _, rfl, LsAt.zero _, HA.out.1, HA.out.2.1, HA.out.2.2.1, HA.out.2.2.2.1, OwnOf.nil, by rw [HA.out.2.2.2.2]; exact Nat.le_refl _⟩
 case round =>
  clear HA c0 c1 c2 hlt; obtain ⟨m, pre, v, hm, rfl, hls, hbl, k0, k1, k2, hown, hz⟩ := hrel; obtain ⟨hp0, hr0, hT0⟩ := H0.out; have hp := hp0.below hbl hgw; have hr := hr0.below hbl (Nat.le_refl _); have hT1 := hT0.below hbl hTg; have hlen : pre.length <= row.length := by rw [hls.1]; exact hm
  have HLS := Lib.hid hls; obtain ⟨M, hM⟩ : ∃ M, M = 1 + m := ⟨_, rfl⟩; have hMle : M <= 1 + m /\ 1 + m <= M := by omega
  rw [<- hM]; have hk0l := k0.lt; have hk1l := k1.lt; have hk2l := k2.lt
  by_cases hlab : ∃ h : m < row.length, row[m].kind = 3
  ·obtain ⟨hml, h3⟩ := hlab
   have hfl : M < (t :: row).length := by simp; omega
   have hfe : (t :: row)[M] = row[m] := by subst hM; simp [Nat.add_comm 1]
   obtain ⟨bb, ob, he, hlt, c0, c1, c2⟩ := hr.get hfl; cases he
   rw [hfe] at c0 c1 c2; rw [h3] at c0; obtain ⟨x, hx, hpv⟩ := (quo_parse row[m].text).resolve_left (fun h => hq _ (List.getElem_mem _) h3 h.1); have hQ := Parse_any row[m].text wr (by have := hsh _ (List.getElem_mem hml); omega) hT1; rw [hpv] at hQ; have HST := Lib.hid (HLS.out.step hml h3 hx); have hdec : decide ((M : Int) < (N : Int)) = true := by rw [decide_eq_true_iff]; omega
   obtain ⟨va, vc, rfl, -⟩ := hown.row.len; generalize row[m] = tk at *; have HK := Lib.hid (And.intro k0 (And.intro k1 (And.intro k2 (And.intro hown hbl)))); have k0c0 := k0.cell 0 _ rfl; have k0f0 := k0.frozen 0; have k0c1 := k0.cell 1 _ rfl; have k0f1 := k0.frozen 1; have k0c2 := k0.cell 2 _ rfl; have k0f2 := k0.frozen 2; have k2c0 := k2.cell 0 _ rfl; have k2f0 := k2.frozen 0; have k2c1 := k2.cell 1 _ rfl; have k2f1 := k2.frozen 1; have k2c2 := k2.cell 2 _ rfl; have k2f2 := k2.frozen 2; have k2c3 := k2.cell 3 _ rfl; have k2f3 := k2.frozen 3; have k2c4 := k2.cell 4 _ rfl; have k2f4 := k2.frozen 4; have k2c5 := k2.cell 5 _ rfl; have k2f5 := k2.frozen 5; have k2c6 := k2.cell 6 _ rfl; have k2f6 := k2.frozen 6; clear k0 k1 k2 hown hbl hls hp0 hr0 hT0 hp hr hT1 hfe hpv hM; go_wp2_with fail; refine hQ.mono ?_; clear hQ k0c0 k0c1 k0c2 k0f0 k0f1 k0f2 k2c0 k2c1 k2c2 k2c3 k2c4 k2c5 k2c6 k2f0 k2f1 k2f2 k2f3 k2f4 k2f5 k2f6 c0 c1 c2; rintro _ w2 ⟨rfl, hb2⟩; obtain ⟨k0, k1, k2, hown, hbl⟩ := HK.out; have k22 := k2.below hb2 k2.lt; have own2 := hown.below hb2 (Nat.le_refl _); have hz2 := hb2.size; have hl22 := k22.lt; have HK2 := Lib.hid (And.intro (k0.below hb2 k0.lt) (And.intro (k1.below hb2 k1.lt) (And.intro k22 (hbl.trans (hb2.mono hbl.size))))); clear k0 k1 k2 hown hbl hb2; have k22c0 := k22.cell 0 _ rfl; have k22f0 := k22.frozen 0; have k22c1 := k22.cell 1 _ rfl; have k22f1 := k22.frozen 1; have k22c2 := k22.cell 2 _ rfl; have k22f2 := k22.frozen 2; have k22c3 := k22.cell 3 _ rfl
   have k22f3 := k22.frozen 3; have k22c4 := k22.cell 4 _ rfl; have k22f4 := k22.frozen 4; have k22c5 := k22.cell 5 _ rfl; have k22f5 := k22.frozen 5; have k22c6 := k22.cell 6 _ rfl; have k22f6 := k22.frozen 6; go_wp2_with (with_reducible first | refine stop_append ?_)
   refine Stop.out ?_; have hlit := OwnOf.lit (f := Value.string) (E := 9) (base := w2.heap.size) (w := w2) [x] (Nat.le_refl _) (by simp [maxLen]); refine wpList_append_row rfl _ _ _ rfl (w.heap.size + 3) 9 16 (.string ⟨#[]⟩) Tryz.underlying34 Tryz.infoStr rfl (fun _ => rfl) pre [x] (by exact own2.alloc _) hlit.row (by simp; unfold maxLen; omega) (by simp; omega) (by simp; omega) (w2.alloc (.cells #[.string x] 9)) (Below.refl _ _) ?_; intro v3 w3 own3 hb3 hg3; obtain ⟨va3, vc3, rfl, -⟩ := own3.row.len; have hrow : ∀ k, (Value.slice va pre.length vc).ownBlock = some k -> w.heap.size + 3 <= k := fun k hk => (World.ownsRow.lt own2 k hk).1; have q22 := (k22.alloc (.cells #[.string x] 9)).below hb3 (by omega); have hl33 := q22.lt; have HX := Lib.hid (And.intro own3 hb3); clear own3 hg3 k22 k22c0 k22c1 k22c2 k22c3 k22c4 k22c5 k22c6 k22f0 k22f1 k22f2 k22f3 k22f4 k22f5 k22f6 own2 hlit hb3; have HQ22 := Lib.hid q22; have q22c0 := q22.cell 0 _ rfl; have q22f0 := q22.frozen 0; have q22c1 := q22.cell 1 _ rfl; have q22f1 := q22.frozen 1; have q22c2 := q22.cell 2 _ rfl; have q22f2 := q22.frozen 2; have q22c3 := q22.cell 3 _ rfl; have q22f3 := q22.frozen 3; have q22c4 := q22.cell 4 _ rfl; have q22f4 := q22.frozen 4; have q22c5 := q22.cell 5 _ rfl; have q22f5 := q22.frozen 5; have q22c6 := q22.cell 6 _ rfl; have q22f6 := q22.frozen 6; clear q22; go_wp2; go_roundw
   case rel =>
    obtain ⟨own3, hb3⟩ := HX.out; obtain ⟨k0, k1, k2, hbl⟩ := HK2.out; have hs3 := hb3.size; simp only [World.size_alloc] at hs3; have hbx : Below w.heap.size w w3 := (hbl.alloc (by omega) (.cells #[.string x] 9)).trans (hb3.mono (by omega))
    refine ⟨m + 1, _, _, by omega, by go_num, HST.out, hbx.setCell (by show w.heap.size <= w.heap.size + 2; omega) _,
     ((k0.alloc _).below hb3 (by omega)).setOther _ _ (by show w.heap.size + 2 ≠ _; omega), ((k1.alloc _).below hb3 (by omega)).setOther _ _ (by show w.heap.size + 2 ≠ _; omega), HQ22.out.setI 5 _, ?_, by rw [World.size_setCell]; omega⟩
    have ho := own3.setOther ⟨w.heap.size + 2, 5, none⟩ (.slice va3 (pre ++ [x]).length vc3) (fun h => by have h9 : w.heap.size + 3 <= w.heap.size + 2 := (World.ownsRow.lt own3 _ h).1; omega); simp only [List.length_append, List.length_cons, List.length_nil, Nat.zero_add] at ho; exact ho
   case measure => simp [intOf]; omega
  ·have hend : labs row = pre /\ pre.length = m := by
    by_cases hml : m < row.length
    ·exact hls.stop hml (fun h3 => hlab ⟨hml, h3⟩)
    ·exact hls.done (by omega)
   have hRB := HR.out; unfold blockK at hRB; simp only [List.drop_succ_cons, List.drop_zero, hend.1, hend.2] at hRB; rw [<- hM] at hRB; obtain ⟨va, vc, rfl, -⟩ := hown.row.len; have HRB := Lib.hid hRB; have HS := Lib.hid (show BlkS w wr (lineC (.slice (some ⟨b, off, none⟩) N rc) stop last) #[.bool true, .string t.text, .string ⟨#[]⟩, .string ⟨#[]⟩, .slice none 0 0, .slice va pre.length vc, .slice none 0 0] (.slice va pre.length vc) pre from ⟨hbl, k0, k1, k2, hown, hz⟩); clear hend hRB hls HLS HR hbl k0 k1 k2 hown hp0 hr0 hT0 hT1 hp hM
   by_cases hml : m < row.length
   focus
    have hfl : M < (t :: row).length := by simp; omega
    have hfe : (t :: row)[M] = row[m] := by
      have hM : M = 1 + m := by omega
      subst hM; simp [Nat.add_comm 1]
    obtain ⟨bb, ob, he, hlt, c0, c1, c2⟩ := hr.get hfl; cases he
    have h3 : ((t :: row)[M].kind == 3) = false := by
     rw [beq_eq_false_iff_ne, hfe]; exact fun h3 => hlab ⟨hml, h3⟩
    have hdec : decide ((M : Int) < (N : Int)) = true := by rw [decide_eq_true_iff]; omega
    have heq : ((M : Int) == (N : Int)) = false := by rw [beq_eq_false_iff_ne]; omega
    have hg0 : (t :: row)[M]? = some (t :: row)[M] := List.getElem?_eq_getElem hfl; have hdr : (t :: row).drop M = (t :: row)[M] :: (t :: row).drop (M + 1) := List.drop_eq_getElem_cons hfl; generalize (t :: row)[M] = tk at *; have HDR := Lib.hid (And.intro hg0 hdr); have hSg := sign_tok tk sLc wr; clear hfe hlab hg0 hdr; obtain ⟨kk, kt, kp⟩ := tk; simp only [tokV] at hSg; simp only at c0 c1 c2 h3; obtain ⟨hbl, k0, k1, k2, hown, hz9⟩ := HS.out; have k0c0 := k0.cell 0 _ rfl; have k0f0 := k0.frozen 0; have k0c1 := k0.cell 1 _ rfl; have k0f1 := k0.frozen 1; have k0c2 := k0.cell 2 _ rfl; have k0f2 := k0.frozen 2; clear hbl k0 k1 k2 hown hz9 hr; go_wp2_with fail; refine hSg.mono ?_; clear hSg c0 c1 c2 k0c0 k0c1 k0c2 k0f0 k0f1 k0f2; rintro _ w2 ⟨rfl, hb2⟩; have HS2 := Lib.hid (HS.out.step hb2); clear hb2 HS hz hlt hk0l hk1l hk2l; have hRB := HRB.out; rw [HDR.out.1, HDR.out.2, isS_cons] at hRB; clear HRB
    by_cases hsg : signT ⟨kk, kt, kp⟩ sLc = false
    focus
     rw [if_pos hsg] at hRB; rw [hsg]; have HRR := Lib.hid hRB; clear hRB; obtain ⟨hbl, k0, k1, k2, hown, hz9⟩ := HS2.out; have hL := lacks_any g (.slice oa n oc) (t :: row) (.slice (some ⟨b, off, none⟩) N rc) stop last (M) _ (H0.out.1.below hbl hgw) (H0.out.2.1.below hbl (Nat.le_refl _)) (by simp; omega); rw [<- HRR.out, show (((M : Nat)) : Int) = (M : Int) by omega] at hL; have H9 : Hid (lnK R = 0 /\ lnX R = zeroI) := Lib.hid (by rw [HRR.out]; exact lack_zero _ _ _ _); simp only [lineV] at hL; have hl0 := k0.lt; have k0c0 := k0.cell 0 _ rfl; have k0f0 := k0.frozen 0; have k0c1 := k0.cell 1 _ rfl; have k0f1 := k0.frozen 1; have k0c2 := k0.cell 2 _ rfl; have k0f2 := k0.frozen 2; clear hbl k0 k1 k2 hown; go_wp2_with fail; have HSB := HS2
    rotate_left
    focus
     rw [if_neg hsg] at hRB; have hsg2 : signT ⟨kk, kt, kp⟩ sLc = true := by simpa using hsg
     rw [hsg2]; clear hsg hsg2
     by_cases hdp : 64 < n
     focus
      rw [if_pos hdp] at hRB; simp only at hRB; have hdd : decide ((64 : Int) < (n : Int)) = true := by rw [decide_eq_true_iff]; omega
      have HRR := Lib.hid hRB; obtain ⟨hbl, k0, k1, k2, hown, hz9⟩ := HS2.out; have hp2 := H0.out.1.below hbl hgw; obtain ⟨bb, ob, he, hlt, c0, c1, c2⟩ := (H0.out.2.1.below hbl (Nat.le_refl _)).get hfl; cases he
      have hpos : (t :: row)[M].pos = kp := by
       have := HDR.out.1; rw [List.getElem?_eq_getElem hfl] at this; rw [Option.some.inj this]
      rw [hpos] at c2; have hF := bfail_any g (.slice oa n oc) 0 0 kp 5 _ hp2; have hl0 := k0.lt; have hgl := hp2.lt; have hpc := hp2.cell 0 _ rfl; have k0c0 := k0.cell 0 _ rfl; have k0f0 := k0.frozen 0; have k0c1 := k0.cell 1 _ rfl; have k0f1 := k0.frozen 1; have k0c2 := k0.cell 2 _ rfl; have k0f2 := k0.frozen 2; clear hRB hbl k0 k1 k2 hown hp2 c0 c1 hpos hdp; go_wp2_with fail; refine hF.mono ?_; clear hF k0c0 k0c1 k0c2 k0f0 k0f1 k0f2 c2 hpc; rintro _ w4 ⟨rfl, p4, hw4⟩; obtain ⟨hbl, k0, k1, k2, hown, -⟩ := HS2.out; have hs4 : Save g w2 w4 := by rw [hw4]; exact ((Save.refl _ _).set _ _).set _ _
      have q4 := hs4.cells k1 (by omega); have hl4 := q4.lt; have p4 : PBox w4 g (.slice oa n oc) (lnE R).1 (lnE R).2 := by rw [HRR.out]; exact p4
      have HP4 := Lib.hid (And.intro p4 ((Save.of hbl).trans hs4)); have HQ4 := Lib.hid q4; have H9 : Hid (lnK R = 0 /\ lnX R = zeroI) := Lib.hid (by rw [HRR.out]; exact ⟨rfl, rfl⟩); have q4c0 := q4.cell 0 _ rfl; have q4f0 := q4.frozen 0; have q4c1 := q4.cell 1 _ rfl; have q4f1 := q4.frozen 1; have q4c2 := q4.cell 2 _ rfl; have q4f2 := q4.frozen 2; have q4c3 := q4.cell 3 _ rfl; have q4f3 := q4.frozen 3; have q4c4 := q4.cell 4 _ rfl; have q4f4 := q4.frozen 4; have q4c5 := q4.cell 5 _ rfl; have q4f5 := q4.frozen 5; have q4c6 := q4.cell 6 _ rfl; have q4f6 := q4.frozen 6; clear q4 p4 hs4 hbl k0 k1 k2 hown hw4; go_wp2_with fail
     rotate_left
     focus
      rw [if_neg hdp] at hRB; have hdd : decide ((64 : Int) < (n : Int)) = false := by rw [decide_eq_false_iff_not]; omega
      have hpc := (H0.out.1.below HS2.out.1 hgw).cell 0 _ rfl; have hgl := (H0.out.1.below HS2.out.1 hgw).lt; rw [<- HN.out] at hRB
      by_cases hend : N = M + 1
      case pos =>
       rw [if_pos hend] at hRB; have heq2 : ((M : Int) + 1 == (N : Int)) = true := by rw [beq_iff_eq]; omega
       have HRR := Lib.hid hRB; clear hRB hend hdp; obtain ⟨hbl, k0, k1, k2, hown, hz9⟩ := HS2.out; have hl0 := k0.lt; have hl1 := k1.lt; have hl2x := k2.lt; have HK := Lib.hid (And.intro k1 (And.intro hown (And.intro hbl (H0.out.1.below hbl hgw)))); have k0c0 := k0.cell 0 _ rfl; have k0f0 := k0.frozen 0; have k0c1 := k0.cell 1 _ rfl; have k0f1 := k0.frozen 1; have k0c2 := k0.cell 2 _ rfl; have k0f2 := k0.frozen 2; have k1c0 := k1.cell 0 _ rfl; have k1f0 := k1.frozen 0; have k1c1 := k1.cell 1 _ rfl; have k1f1 := k1.frozen 1; have k1c2 := k1.cell 2 _ rfl; have k1f2 := k1.frozen 2; have k1c3 := k1.cell 3 _ rfl; have k1f3 := k1.frozen 3; have k1c4 := k1.cell 4 _ rfl; have k1f4 := k1.frozen 4; have k1c5 := k1.cell 5 _ rfl; have k1f5 := k1.frozen 5; have k1c6 := k1.cell 6 _ rfl; have k1f6 := k1.frozen 6; have k2c0 := k2.cell 0 _ rfl; have k2f0 := k2.frozen 0; have k2c1 := k2.cell 1 _ rfl; have k2f1 := k2.frozen 1; have k2c2 := k2.cell 2 _ rfl; have k2f2 := k2.frozen 2; have k2c3 := k2.cell 3 _ rfl; have k2f3 := k2.frozen 3; have k2c4 := k2.cell 4 _ rfl; have k2f4 := k2.frozen 4; have k2c5 := k2.cell 5 _ rfl; have k2f5 := k2.frozen 5; have k2c6 := k2.cell 6 _ rfl; have k2f6 := k2.frozen 6; clear hbl k0 k1 k2 hown; go_wp2_with fail; go_region
       all_goals
        go_wp2_with fail; obtain ⟨k1, hown, hbl, hpb⟩ := HK.out; have hqq := (k1.put [.bool true, .string t.text, .string ⟨#[]⟩, .string ⟨#[]⟩, .slice none 0 0, .slice va pre.length vc, .slice none 0 0] 0).drew; have y0 := hqq.cell 0 (.bool true) rfl; have y1 := hqq.cell 1 (.string t.text) rfl; have y2 := hqq.cell 2 (.string ⟨#[]⟩) rfl; have y3 := hqq.cell 3 (.string ⟨#[]⟩) rfl; have y4 := hqq.cell 4 (.slice none 0 0) rfl; have y5 := hqq.cell 5 (.slice va pre.length vc) rfl; have y6 := hqq.cell 6 (.slice none 0 0) rfl; simp only [setAll] at y0 y1 y2 y3 y4 y5 y6; refine bodyPost_ret (v := .tuple #[.int .i64 3, .agg #[.bool true, .string t.text, .string ⟨#[]⟩, .string ⟨#[]⟩, .slice none 0 0, .slice va pre.length vc, .slice none 0 0]]) (by simp [results, Tryz.results134, go_sem, y0, y1, y2, y3, y4, y5, y6]) rfl ?_; show KindP g (.slice oa n oc) R w _ (setAll w2 (w.heap.size + 1) 0 [.bool true, .string t.text, .string ⟨#[]⟩, .string ⟨#[]⟩, .slice none 0 0, .slice va pre.length vc, .slice none 0 0]).drew; rw [HRR.out]; refine ⟨((Save.of hbl).setAllNew (by omega) _).drew, (hpb.setAllOther (by omega)).drew, [.bool true, .string t.text, .string ⟨#[]⟩, .string ⟨#[]⟩, .slice none 0 0, .slice va pre.length vc, .slice none 0 0], rfl, ?_⟩; refine ⟨ItmIn.leaf (ExpIn.leaf _ _ _ _) ?_, rfl⟩; exact row_put (q := w.heap.size + 1) (B := w.heap.size + 3) (by omega) (by omega) hown
      focus
       rw [if_neg hend] at hRB; have heq2 : ((M : Int) + 1 == (N : Int)) = false := by rw [beq_eq_false_iff_ne]; omega
       have hfl2 : M + 1 < (t :: row).length := by rw [<- HN.out]; omega
       obtain ⟨bb2, ob2, he2, hlt2, d0, d1, d2⟩ := (H0.out.2.1.below HS2.out.1 (Nat.le_refl _)).get hfl2; cases he2
       have hdr2 : row.drop M = (t :: row)[M + 1] :: row.drop (M + 1) := List.drop_eq_getElem_cons hfl2; rw [hdr2, isS_cons] at hRB; have hSg := sign_tok (t :: row)[M + 1] sRc w2; generalize (t :: row)[M + 1] = tk2 at *; obtain ⟨kk2, kt2, kp2⟩ := tk2; simp only [tokV] at hSg; simp only at d0 d1 d2; obtain ⟨hbl, k0, k1, k2, hown, hz9⟩ := HS2.out; have hl0 := k0.lt; have k0c0 := k0.cell 0 _ rfl; have k0f0 := k0.frozen 0; have k0c1 := k0.cell 1 _ rfl; have k0f1 := k0.frozen 1; have k0c2 := k0.cell 2 _ rfl; have k0f2 := k0.frozen 2; have HRB := Lib.hid hRB; have ha3 : off + (M + 1) * 3 = off + (M + 1) * 3 := rfl; clear hbl k0 k1 k2 hown hRB hdr2 hdp; go_wp2_with fail; refine hSg.mono ?_; clear hSg d0 d1 d2 k0c0 k0c1 k0c2 k0f0 k0f1 k0f2 hpc hgl; rintro _ w5 ⟨rfl, hb5⟩; have HS5 := Lib.hid (HS2.out.step hb5); clear hb5 HS2; have hRB := HRB.out; clear HRB
       by_cases hsg : signT ⟨kk2, kt2, kp2⟩ sRc = false
       focus
        rw [if_pos hsg] at hRB; rw [hsg]; have HRR := Lib.hid hRB; clear hRB hsg; obtain ⟨hbl, k0, k1, k2, hown, hz9⟩ := HS5.out; have hL := lacks_any g (.slice oa n oc) (t :: row) (.slice (some ⟨b, off, none⟩) N rc) stop last ((M + 1)) _ (H0.out.1.below hbl hgw) (H0.out.2.1.below hbl (Nat.le_refl _)) (by simp; omega); rw [<- HRR.out, show ((((M + 1) : Nat)) : Int) = (M : Int) + 1 by omega] at hL; have H9 : Hid (lnK R = 0 /\ lnX R = zeroI) := Lib.hid (by rw [HRR.out]; exact lack_zero _ _ _ _); simp only [lineV] at hL; have hl0 := k0.lt; have k0c0 := k0.cell 0 _ rfl; have k0f0 := k0.frozen 0; have k0c1 := k0.cell 1 _ rfl; have k0f1 := k0.frozen 1; have k0c2 := k0.cell 2 _ rfl; have k0f2 := k0.frozen 2; clear hbl k0 k1 k2 hown; go_wp2_with fail; have HSB := HS5
       rotate_left
       focus
        rw [if_neg hsg] at hRB; have hsg2 : signT ⟨kk2, kt2, kp2⟩ sRc = true := by simpa using hsg
        rw [hsg2]; clear hsg hsg2
        by_cases hmore : M + 2 < N
        focus
         rw [if_pos hmore] at hRB; have HRR := Lib.hid hRB; have hdm : decide ((M : Int) + 1 + 1 < (N : Int)) = true := by rw [decide_eq_true_iff]; omega
         clear hRB; obtain ⟨hbl, k0, k1, k2, hown, hz9⟩ := HS5.out; have hL := lacks_any g (.slice oa n oc) (t :: row) (.slice (some ⟨b, off, none⟩) N rc) stop last ((M + 2)) _ (H0.out.1.below hbl hgw) (H0.out.2.1.below hbl (Nat.le_refl _)) (by simp; omega); rw [<- HRR.out, show ((((M + 2) : Nat)) : Int) = (M : Int) + 1 + 1 by omega] at hL; have H9 : Hid (lnK R = 0 /\ lnX R = zeroI) := Lib.hid (by rw [HRR.out]; exact lack_zero _ _ _ _); simp only [lineV] at hL; have hl0 := k0.lt; have k0c0 := k0.cell 0 _ rfl; have k0f0 := k0.frozen 0; have k0c1 := k0.cell 1 _ rfl; have k0f1 := k0.frozen 1; have k0c2 := k0.cell 2 _ rfl; have k0f2 := k0.frozen 2; clear hbl k0 k1 k2 hown; go_wp2_with fail; have HSB := HS5
        rotate_left
        ·rw [if_neg hmore] at hRB
         have HRR := Lib.hid hRB; have hdm : decide ((M : Int) + 1 + 1 < (N : Int)) = false := by rw [decide_eq_false_iff_not]; omega
         clear hRB; obtain ⟨hbl, k0, k1, k2, hown, hz9⟩ := HS5.out; have hl0 := k0.lt; have hl1 := k1.lt; have hl2x := k2.lt; have HK := Lib.hid (And.intro k1 (And.intro hown (And.intro hbl (H0.out.1.below hbl hgw)))); have k0c0 := k0.cell 0 _ rfl; have k0f0 := k0.frozen 0; have k0c1 := k0.cell 1 _ rfl; have k0f1 := k0.frozen 1; have k0c2 := k0.cell 2 _ rfl; have k0f2 := k0.frozen 2; have k1c0 := k1.cell 0 _ rfl; have k1f0 := k1.frozen 0; have k1c1 := k1.cell 1 _ rfl; have k1f1 := k1.frozen 1; have k1c2 := k1.cell 2 _ rfl; have k1f2 := k1.frozen 2; have k1c3 := k1.cell 3 _ rfl; have k1f3 := k1.frozen 3; have k1c4 := k1.cell 4 _ rfl; have k1f4 := k1.frozen 4; have k1c5 := k1.cell 5 _ rfl; have k1f5 := k1.frozen 5; have k1c6 := k1.cell 6 _ rfl; have k1f6 := k1.frozen 6; have k2c0 := k2.cell 0 _ rfl; have k2f0 := k2.frozen 0; have k2c1 := k2.cell 1 _ rfl; have k2f1 := k2.frozen 1; have k2c2 := k2.cell 2 _ rfl; have k2f2 := k2.frozen 2; have k2c3 := k2.cell 3 _ rfl; have k2f3 := k2.frozen 3; have k2c4 := k2.cell 4 _ rfl; have k2f4 := k2.frozen 4; have k2c5 := k2.cell 5 _ rfl; have k2f5 := k2.frozen 5; have k2c6 := k2.cell 6 _ rfl; have k2f6 := k2.frozen 6; clear hbl k0 k1 k2 hown; go_wp2_with fail; go_region
         all_goals
          go_wp2_with fail; obtain ⟨k1, hown, hbl, hpb⟩ := HK.out; have hqq := (k1.put [.bool true, .string t.text, .string ⟨#[]⟩, .string ⟨#[]⟩, .slice none 0 0, .slice va pre.length vc, .slice none 0 0] 0).drew; have y0 := hqq.cell 0 (.bool true) rfl; have y1 := hqq.cell 1 (.string t.text) rfl; have y2 := hqq.cell 2 (.string ⟨#[]⟩) rfl; have y3 := hqq.cell 3 (.string ⟨#[]⟩) rfl; have y4 := hqq.cell 4 (.slice none 0 0) rfl; have y5 := hqq.cell 5 (.slice va pre.length vc) rfl; have y6 := hqq.cell 6 (.slice none 0 0) rfl; simp only [setAll] at y0 y1 y2 y3 y4 y5 y6; refine bodyPost_ret (v := .tuple #[.int .i64 4, .agg #[.bool true, .string t.text, .string ⟨#[]⟩, .string ⟨#[]⟩, .slice none 0 0, .slice va pre.length vc, .slice none 0 0]]) (by simp [results, Tryz.results134, go_sem, y0, y1, y2, y3, y4, y5, y6]) rfl ?_; show KindP g (.slice oa n oc) R w _ (setAll w5 (w.heap.size + 1) 0 [.bool true, .string t.text, .string ⟨#[]⟩, .string ⟨#[]⟩, .slice none 0 0, .slice va pre.length vc, .slice none 0 0]).drew; rw [HRR.out]; refine ⟨((Save.of hbl).setAllNew (by omega) _).drew, (hpb.setAllOther (by omega)).drew, [.bool true, .string t.text, .string ⟨#[]⟩, .string ⟨#[]⟩, .slice none 0 0, .slice va pre.length vc, .slice none 0 0], rfl, ?_⟩; refine ⟨ItmIn.leaf (ExpIn.leaf _ _ _ _) ?_, rfl⟩; exact row_put (q := w.heap.size + 1) (B := w.heap.size + 3) (by omega) (by omega) hown
   rotate_left 4
   focus
    have hdec : decide ((M : Int) < (N : Int)) = false := by rw [decide_eq_false_iff_not]; omega
    have heq : ((M : Int) == (N : Int)) = true := by rw [beq_iff_eq]; omega
    have hRB := HRB.out; rw [List.drop_eq_nil_of_le (by simp; omega), if_pos (by rfl)] at hRB; have HRR := Lib.hid hRB; clear hRB HRB hlab hr; obtain ⟨hbl, k0, k1, k2, hown, hz9⟩ := HS.out; have hL := lacks_any g (.slice oa n oc) (t :: row) (.slice (some ⟨b, off, none⟩) N rc) stop last (M) _ (H0.out.1.below hbl hgw) (H0.out.2.1.below hbl (Nat.le_refl _)) (by simp; omega); rw [<- HRR.out, show (((M : Nat)) : Int) = (M : Int) by omega] at hL; have H9 : Hid (lnK R = 0 /\ lnX R = zeroI) := Lib.hid (by rw [HRR.out]; exact lack_zero _ _ _ _); simp only [lineV] at hL; have hl0 := k0.lt; have k0c0 := k0.cell 0 _ rfl; have k0f0 := k0.frozen 0; have k0c1 := k0.cell 1 _ rfl; have k0f1 := k0.frozen 1; have k0c2 := k0.cell 2 _ rfl; have k0f2 := k0.frozen 2; clear hbl k0 k1 k2 hown; go_wp2_with fail; have HSB := HS
   all_goals
    try (
     refine hL.mono ?_; clear hL k0c0 k0c1 k0c2 k0f0 k0f1 k0f2; rintro _ w4 ⟨rfl, hs4, p4⟩; obtain ⟨hbl, k0, k1, k2, hown, -⟩ := HSB.out; have q4 := hs4.cells k1 (by omega); have hl4 := q4.lt; have HP4 := Lib.hid (And.intro p4 ((Save.of hbl).trans hs4)); have HQ4 := Lib.hid q4; have q4c0 := q4.cell 0 _ rfl; have q4f0 := q4.frozen 0; have q4c1 := q4.cell 1 _ rfl; have q4f1 := q4.frozen 1; have q4c2 := q4.cell 2 _ rfl; have q4f2 := q4.frozen 2; have q4c3 := q4.cell 3 _ rfl; have q4f3 := q4.frozen 3; have q4c4 := q4.cell 4 _ rfl; have q4f4 := q4.frozen 4; have q4c5 := q4.cell 5 _ rfl; have q4f5 := q4.frozen 5; have q4c6 := q4.cell 6 _ rfl; have q4f6 := q4.frozen 6; clear q4 p4 hs4 hbl k0 k1 k2 hown; go_wp2_with fail
     skip)
    have hqq := HQ4.out.put zeroIC 0; have y0 := hqq.cell 0 (.bool false) rfl; have y1 := hqq.cell 1 (.string ⟨#[]⟩) rfl; have y2 := hqq.cell 2 (.string ⟨#[]⟩) rfl; have y3 := hqq.cell 3 (.string ⟨#[]⟩) rfl; have y4 := hqq.cell 4 (.slice none 0 0) rfl; have y5 := hqq.cell 5 (.slice none 0 0) rfl; have y6 := hqq.cell 6 (.slice none 0 0) rfl; simp only [setAll] at y0 y1 y2 y3 y4 y5 y6; refine bodyPost_ret (v := .tuple #[.int .i64 0, .agg #[.bool false, .string ⟨#[]⟩, .string ⟨#[]⟩, .string ⟨#[]⟩, .slice none 0 0, .slice none 0 0, .slice none 0 0]]) (by simp [results, Tryz.results134, go_sem, y0, y1, y2, y3, y4, y5, y6]) rfl ?_; show KindP g (.slice oa n oc) R w _ (setAll w4 (w.heap.size + 1) 0 zeroIC); exact ⟨HP4.out.2.setAllNew (by omega) _, HP4.out.1.setAllOther (by omega), zeroIC, by rw [H9.out.1], (by rw [H9.out.2]; exact ItmIn.zero _ _), rfl⟩
def KdS (w W : World) (line : Array Value) : Prop := Below w.heap.size w W /\ Cells W w.heap.size line 86 /\ Cells W (w.heap.size + 1) zeroIC.toArray 54 /\ w.heap.size + 2 <= W.heap.size
theorem KdS.step {w W W' : World} {line : Array Value} (h : KdS w W line) (hb : Below W.heap.size W W') : KdS w W' line :=
 ⟨h.1.trans (hb.mono h.1.size), h.2.1.below hb h.2.1.lt, h.2.2.1.below hb h.2.2.1.lt, Nat.le_trans h.2.2.2 hb.size⟩
theorem ItmIn.shape7 {P : Nat -> Prop} {w : World} {t : Itm} {cs : List Value} (h : ItmIn P w t cs) : ∃ n vo vt va vn vc la ln lc ia k cap, cs = [.bool t.block, .string n, .string vo, .string vt, .slice va vn vc, .slice la ln lc, .slice ia k cap] := by
 cases t
 unfold ItmIn at h; obtain ⟨_, _, _, _, _, _, rfl, hv, hl, -⟩ := h.open; obtain ⟨va, vn, vc, rfl⟩ := exp_shape hv; obtain ⟨la, lc, rfl, -⟩ := hl.1.len; exact ⟨_, _, _, _, _, _, _, _, _, _, _, _, rfl⟩
theorem kind_nil (g : Nat) (oa : Option Addr) (n oc : Nat)  (lv : Value) (stop : Int) (last : Bool) (w : World) (h : PBox w g (.slice oa n oc) 0 0) (hr : ToksAt w lv []) (ho : ∀ b, lv.ownBlock = some b -> b < w.heap.size) (hT : LexT w) (hn : ([] : List Tok).length <= 900000) (hsh : ∀ t ∈ ([] : List Tok), t.text.size <= 1048576) (hq : ∀ t ∈ ([] : List Tok), t.kind = 3 -> quoX t.text ≠ none) :
  Calls Tryz.prog 89 #[.pointer (some ⟨g, 0, none⟩), lineV lv stop last] w (KindP g (.slice oa n oc) (lineK n [] stop last) w) := by
 obtain ⟨ra, rc, rfl, hl1, hl2, -⟩ := hr.len; obtain ⟨N, hN⟩ : ∃ N, N = ([] : List Tok).length := ⟨_, rfl⟩; have hNle : N <= ([] : List Tok).length /\ ([] : List Tok).length <= N := by omega
 rw [<- hN] at hr hl1 ho ⊢; unfold maxLen at hl2; have HN := Lib.hid hN; clear hN; obtain ⟨R, hR⟩ : ∃ R, R = lineK n [] stop last := ⟨_, rfl⟩; have HR := Lib.hid hR; rw [<- hR]; clear hR; have hgw := h.lt; have hbA : Below w.heap.size w ((w.alloc (.cells (lineC (.slice ra N rc) stop last) 86)).alloc (.cells zeroIC.toArray 54)) := ((Below.refl _ w).alloc (Nat.le_refl _) _).alloc (by simp) _; have kA := (Cells.new w (lineC (.slice ra N rc) stop last) 86).alloc (.cells zeroIC.toArray 54); have kB := Cells.new (w.alloc (.cells (lineC (.slice ra N rc) stop last) 86)) zeroIC.toArray 54; simp only [World.size_alloc] at kB; have hzA : ((w.alloc (.cells (lineC (.slice ra N rc) stop last) 86)).alloc (.cells zeroIC.toArray 54)).heap.size = w.heap.size + 2 := by simp
 have HS := Lib.hid (show KdS w ((w.alloc (.cells (lineC (.slice ra N rc) stop last) 86)).alloc (.cells zeroIC.toArray 54)) (lineC (.slice ra N rc) stop last) from ⟨hbA, kA, kB, by rw [hzA]; exact Nat.le_refl _⟩); have H0 := Lib.hid (And.intro h (And.intro hr (And.intro ho hT))); clear hbA kA kB hzA h hr ho hT; have hNz : ((N : Int) == 0) = true := by rw [beq_iff_eq]; simp at hNle; omega
 have HRR : Hid (R = .empty) := HR; have H9 : Hid (lnK R = 1 /\ lnX R = zeroI) := Lib.hid (by rw [HRR.out]; exact ⟨rfl, rfl⟩); go_enter Tryz.func89, Tryz.ntmps89; go_wp2_with fail; obtain ⟨hbl, k0, k1, hz9⟩ := HS.out; have HQ4 := Lib.hid k1; have p4 : PBox ((w.alloc (.cells (lineC (.slice ra N rc) stop last) 86)).alloc (.cells zeroIC.toArray 54)) g (.slice oa n oc) (lnE R).1 (lnE R).2 := by rw [HRR.out]; exact H0.out.1.below hbl hgw
 have HP4 := Lib.hid (And.intro p4 (Save.of (g := g) hbl)); have y0 := k1.cell 0 (.bool false) rfl; have y1 := k1.cell 1 (.string ⟨#[]⟩) rfl; have y2 := k1.cell 2 (.string ⟨#[]⟩) rfl; have y3 := k1.cell 3 (.string ⟨#[]⟩) rfl; have y4 := k1.cell 4 (.slice none 0 0) rfl; have y5 := k1.cell 5 (.slice none 0 0) rfl; have y6 := k1.cell 6 (.slice none 0 0) rfl; refine bodyPost_ret (v := .tuple #[.int .i64 1, .agg #[.bool false, .string ⟨#[]⟩, .string ⟨#[]⟩, .string ⟨#[]⟩, .slice none 0 0, .slice none 0 0, .slice none 0 0]]) (by simp [results, Tryz.results89, go_sem, y0, y1, y2, y3, y4, y5, y6]) rfl ?_; exact ⟨HP4.out.2, HP4.out.1, zeroIC, by rw [H9.out.1], (by rw [H9.out.2]; exact ItmIn.zero _ _), rfl⟩
theorem one7 (b : Bool) (n o s : ByteArray) (va : Option Addr) (vn vc : Nat) (la : Option Addr) (ln lc : Nat) (ia : Option Addr) (k c : Nat) : ∀ v ∈ (#[.bool b, .string n, .string o, .string s, .slice va vn vc, .slice la ln lc, .slice ia k c] : Array Value).toList, v.oneCell' = true := by
 intro v hv; simp at hv
 rcases hv with rfl | rfl | rfl | rfl | rfl | rfl | rfl <;> rfl
theorem itm_row {w3 : World} {B n q : Nat} {x : Itm} {cs : List Value} {vals : Array Value} (hq : q < B) (hn : n <= B) (hx : ItmIn (fun b => B <= b) w3 x cs) : ItmIn (fun b => n <= b) (w3.setRow q vals) x cs :=
 ItmIn.move (P := fun b => B <= b) (Q := fun b => n <= b) (w := w3) (w' := (w3.setRow q vals)) (Nat.le_of_eq (setRow_size w3 q vals).symm) (fun b (hb : B <= b) _ => setRow_other w3 q b vals (by omega)) (fun b (hb : B <= b) _ => Nat.le_trans hn hb) x cs hx
theorem Save.setRowNew {w w' : World} {g q : Nat} (h : Save g w w') (hq : w.heap.size <= q) (vals : Array Value) : Save g w (w'.setRow q vals) :=
 ⟨below_setRow h.1 (Nat.zero_le _) _, fun k hk hn => (setRow_other w' q k vals (by omega)).trans (h.2 k hk hn)⟩
theorem kind_tab (g : Nat) (oa : Option Addr) (n oc : Nat) (t : Tok) (r : List Tok) (lv : Value) (stop : Int) (last : Bool) (w : World) (h : PBox w g (.slice oa n oc) 0 0) (hr : ToksAt w lv (t :: r)) (ho : ∀ b, lv.ownBlock = some b -> b < w.heap.size) (hT : LexT w) (hn : (t :: r).length <= 900000) (hsh : ∀ u ∈ (t :: r), u.text.size <= 1048576) (hq : ∀ u ∈ (t :: r), u.kind = 3 -> quoX u.text ≠ none) (hs0 : signT t sRc = false) (hk1 : t.kind = 1) :
  Calls Tryz.prog 89 #[.pointer (some ⟨g, 0, none⟩), lineV lv stop last] w (KindP g (.slice oa n oc) (lineK n (t :: r) stop last) w) := by
 obtain ⟨ra, rc, rfl, hl1, hl2, -⟩ := hr.len; obtain ⟨N, hN⟩ : ∃ N, N = (t :: r).length := ⟨_, rfl⟩; have hNle : N <= (t :: r).length /\ (t :: r).length <= N := by omega
 rw [<- hN] at hr hl1 ho ⊢; unfold maxLen at hl2; have HN := Lib.hid hN; clear hN; obtain ⟨R, hR⟩ : ∃ R, R = lineK n (t :: r) stop last := ⟨_, rfl⟩; have HR := Lib.hid hR; rw [<- hR]; clear hR; have hgw := h.lt; have hbA : Below w.heap.size w ((w.alloc (.cells (lineC (.slice ra N rc) stop last) 86)).alloc (.cells zeroIC.toArray 54)) := ((Below.refl _ w).alloc (Nat.le_refl _) _).alloc (by simp) _; have kA := (Cells.new w (lineC (.slice ra N rc) stop last) 86).alloc (.cells zeroIC.toArray 54); have kB := Cells.new (w.alloc (.cells (lineC (.slice ra N rc) stop last) 86)) zeroIC.toArray 54; simp only [World.size_alloc] at kB; have hzA : ((w.alloc (.cells (lineC (.slice ra N rc) stop last) 86)).alloc (.cells zeroIC.toArray 54)).heap.size = w.heap.size + 2 := by simp
 have HS := Lib.hid (show KdS w ((w.alloc (.cells (lineC (.slice ra N rc) stop last) 86)).alloc (.cells zeroIC.toArray 54)) (lineC (.slice ra N rc) stop last) from ⟨hbA, kA, kB, by rw [hzA]; exact Nat.le_refl _⟩); have H0 := Lib.hid (And.intro h (And.intro hr (And.intro ho hT))); clear hbA kA kB hzA h hr ho hT; simp only [List.length_cons] at hNle hn; have hN1 : 1 <= N := by omega
 have hNz : ((N : Int) == 0) = false := by rw [beq_eq_false_iff_ne]; omega
 obtain ⟨bb, ob, he, hlt, c0, c1, c2⟩ := (H0.out.2.1.below HS.out.1 (Nat.le_refl _)).get (j := 0) (by simp); cases he
 simp only [Nat.zero_mul, Nat.add_zero, List.getElem_cons_zero] at c0 c1 c2; have hSg := sign_tok t sRc ((w.alloc (.cells (lineC (.slice (some ⟨bb, ob, none⟩) N rc) stop last) 86)).alloc (.cells zeroIC.toArray 54)); have hRB := HR.out; simp only [lineK] at hRB; rw [isS_cons] at hRB; have HRB := Lib.hid hRB; clear hRB HR; have HTT := Lib.hid (And.intro hsh hq); have htl := hsh t (by simp); clear hsh hq; simp only [tokV] at hSg; have HA0 := Lib.hid (And.intro hs0 hk1); clear hs0 hk1; go_enter Tryz.func89, Tryz.ntmps89; go_wp2_with fail; refine hSg.mono ?_; generalize (w.alloc (.cells (lineC (.slice (some ⟨bb, ob, none⟩) N rc) stop last) 86)).alloc (.cells zeroIC.toArray 54) = w1 at *; clear hSg c0 c1 c2 hlt; rintro _ w2 ⟨rfl, hb2⟩; have HS2 := Lib.hid (HS.out.step hb2); clear hb2 HS; have hRB := HRB.out; clear HRB; have hs0 := HA0.out.1; have hk1 := HA0.out.2; rw [if_neg (by simp [hs0])] at hRB; have hsg2 : signT t sRc = false := hs0; rw [hsg2]; clear hsg2 hs0; obtain ⟨bb3, ob3, he3, hlt3, c0, c1, c2⟩ := (H0.out.2.1.below HS2.out.1 (Nat.le_refl _)).get (j := 0) (by simp); cases he3
 simp only [Nat.zero_mul, Nat.add_zero, List.getElem_cons_zero] at c0 c1 c2; rw [if_neg (by simpa using hk1)] at hRB; have hkk : (t.kind != 1) = false := by simp [hk1]
 cases r with
 | nil =>
  have hd : decide ((1 : Int) < (N : Int)) = false := by rw [decide_eq_false_iff_not]; simp at hNle; omega
  rw [if_neg (by simp [isS])] at hRB; have hC := block_any g oa n oc t [] (.slice (some ⟨bb, ob, none⟩) N rc) stop last w2 (H0.out.1.below HS2.out.1 hgw) (H0.out.2.1.below HS2.out.1 (Nat.le_refl _)) (H0.out.2.2.2.below HS2.out.1).utf (H0.out.2.2.2.below HS2.out.1).utf.pos (by simp) (fun t ht => by cases ht) (fun t ht => by cases ht); rw [<- hRB] at hC; obtain ⟨hbl, k0, k1, hz9⟩ := HS2.out; have hl0 := k0.lt; have k0c0 := k0.cell 0 _ rfl; have k0f0 := k0.frozen 0; have k0c1 := k0.cell 1 _ rfl; have k0f1 := k0.frozen 1; have k0c2 := k0.cell 2 _ rfl; have k0f2 := k0.frozen 2; clear hbl k0 k1 hRB hk1; simp only [lineV] at hC; go_wp2_with fail; clear k0c0 k0c1 k0c2 k0f0 k0f1 k0f2 c0 c1 c2; refine hC.mono ?_; clear hC; rintro _ w4 ⟨hs4, p4, cs, rfl, hin, hi6⟩; obtain ⟨cn, cvo, cvt, va, vn, vc, la, ln, lc, cia, ck, ccap, rfl⟩ := ItmIn.shape7 hin; obtain ⟨hbl, k0, k1, hz9⟩ := HS2.out; have q4 := hs4.cells k1 (by omega); have hl4 := q4.lt; have HP4 := Lib.hid (And.intro p4 (And.intro ((Save.of hbl).trans hs4) (And.intro hin hi6))); have HQ4 := Lib.hid q4; clear q4 p4 hs4 hbl k0 k1 hin hi6; generalize (lnX R).block = cb at *; go_wp2_with (with_reducible first | refine stop_store ?_)
  refine Stop.out ?_; refine wpList_store_all rfl 54 _ _ rfl rfl _ rfl #[.bool cb, .string cn, .string cvo, .string cvt, .slice va vn vc, .slice la ln lc, .slice cia ck ccap] rfl _ _ HQ4.out rfl (by kernel_rfl) (one7 _ _ _ _ _ _ _ _ _ _ _ _ _) ?_; have hqq : Cells (w4.setRow (w.heap.size + 1) #[.bool cb, .string cn, .string cvo, .string cvt, .slice va vn vc, .slice la ln lc, .slice cia ck ccap]) (w.heap.size + 1) #[.bool cb, .string cn, .string cvo, .string cvt, .slice va vn vc, .slice la ln lc, .slice cia ck ccap] 54 := setRow_heap _ _ _ _ _ _ HQ4.out; have y0 := hqq.cell 0 (.bool cb) rfl; have y1 := hqq.cell 1 (.string cn) rfl; have y2 := hqq.cell 2 (.string cvo) rfl; have y3 := hqq.cell 3 (.string cvt) rfl; have y4 := hqq.cell 4 (.slice va vn vc) rfl; have y5 := hqq.cell 5 (.slice la ln lc) rfl; have y6 := hqq.cell 6 (.slice cia ck ccap) rfl; go_wp2; refine bodyPost_ret (v := .tuple #[.int .i64 (lnK R), .agg #[.bool cb, .string cn, .string cvo, .string cvt, .slice va vn vc, .slice la ln lc, .slice cia ck ccap]]) (by simp [results, Tryz.results89, go_sem, y0, y1, y2, y3, y4, y5, y6]) rfl ?_; exact ⟨HP4.out.2.1.setRowNew (by omega) _, (setRow_other _ _ _ _ (by omega)).trans HP4.out.1, _, rfl, itm_row (B := w2.heap.size) (by omega) (by omega) HP4.out.2.2.1, HP4.out.2.2.2⟩
 | cons t2 r2 =>
  have hN2 : 2 <= N := by simp at hNle; omega
  have hd : decide ((1 : Int) < (N : Int)) = true := by rw [decide_eq_true_iff]; simp at hNle; omega
  obtain ⟨bb4, ob4, he4, hlt4, d0, d1, d2⟩ := (H0.out.2.1.below HS2.out.1 (Nat.le_refl _)).get (j := 1) (by simp); cases he4
  simp only [Nat.one_mul, List.getElem_cons_succ, List.getElem_cons_zero] at d0 d1 d2; have hSg := sign_tok t2 sEq w2; rw [isS_cons] at hRB; have HRB := Lib.hid hRB; obtain ⟨hbl, k0, k1, hz9⟩ := HS2.out; have hl0 := k0.lt; have k0c0 := k0.cell 0 _ rfl; have k0f0 := k0.frozen 0; have k0c1 := k0.cell 1 _ rfl; have k0f1 := k0.frozen 1; have k0c2 := k0.cell 2 _ rfl; have k0f2 := k0.frozen 2; clear hbl k0 k1 hRB hk1; simp only [tokV] at hSg; go_wp2_with fail; refine hSg.mono ?_; clear hSg k0c0 k0c1 k0c2 k0f0 k0f1 k0f2 c0 c1 c2 d0 d1 d2; rintro _ w5 ⟨rfl, hb5⟩; have HS5 := Lib.hid (HS2.out.step hb5); clear hb5 HS2; have hRB := HRB.out; clear HRB; have HS2 := HS5
  by_cases hsq : signT t2 sEq = true
  ·rw [if_pos hsq] at hRB
   rw [hsq]; have hC := attribute_any g (.slice oa n oc) t t2 r2 (.slice (some ⟨bb, ob, none⟩) N rc) stop last w5 (H0.out.1.below HS2.out.1 hgw) (H0.out.2.1.below HS2.out.1 (Nat.le_refl _)) (fun b hb => Nat.lt_of_lt_of_le (H0.out.2.2.1 b hb) HS2.out.1.size) (H0.out.2.2.2.below HS2.out.1) (by simp at hn; omega) (fun t ht => HTT.out.1 t (by simp [ht])); rw [<- hRB] at hC; obtain ⟨hbl, k0, k1, hz9⟩ := HS2.out; have hl0 := k0.lt; have k0c0 := k0.cell 0 _ rfl; have k0f0 := k0.frozen 0; have k0c1 := k0.cell 1 _ rfl; have k0f1 := k0.frozen 1; have k0c2 := k0.cell 2 _ rfl; have k0f2 := k0.frozen 2; clear hbl k0 k1 hRB hsq; simp only [lineV] at hC; go_wp2_with fail; clear k0c0 k0c1 k0c2 k0f0 k0f1 k0f2; refine hC.mono ?_; clear hC; rintro _ w4 ⟨hs4, p4, cs, rfl, hin, hi6⟩; obtain ⟨cn, cvo, cvt, va, vn, vc, la, ln, lc, cia, ck, ccap, rfl⟩ := ItmIn.shape7 hin; obtain ⟨hbl, k0, k1, hz9⟩ := HS2.out; have q4 := hs4.cells k1 (by omega); have hl4 := q4.lt; have HP4 := Lib.hid (And.intro p4 (And.intro ((Save.of hbl).trans hs4) (And.intro hin hi6))); have HQ4 := Lib.hid q4; clear q4 p4 hs4 hbl k0 k1 hin hi6; generalize (lnX R).block = cb at *; go_wp2_with (with_reducible first | refine stop_store ?_)
   refine Stop.out ?_; refine wpList_store_all rfl 54 _ _ rfl rfl _ rfl #[.bool cb, .string cn, .string cvo, .string cvt, .slice va vn vc, .slice la ln lc, .slice cia ck ccap] rfl _ _ HQ4.out rfl (by kernel_rfl) (one7 _ _ _ _ _ _ _ _ _ _ _ _ _) ?_; have hqq : Cells (w4.setRow (w.heap.size + 1) #[.bool cb, .string cn, .string cvo, .string cvt, .slice va vn vc, .slice la ln lc, .slice cia ck ccap]) (w.heap.size + 1) #[.bool cb, .string cn, .string cvo, .string cvt, .slice va vn vc, .slice la ln lc, .slice cia ck ccap] 54 := setRow_heap _ _ _ _ _ _ HQ4.out; have y0 := hqq.cell 0 (.bool cb) rfl; have y1 := hqq.cell 1 (.string cn) rfl; have y2 := hqq.cell 2 (.string cvo) rfl; have y3 := hqq.cell 3 (.string cvt) rfl; have y4 := hqq.cell 4 (.slice va vn vc) rfl; have y5 := hqq.cell 5 (.slice la ln lc) rfl; have y6 := hqq.cell 6 (.slice cia ck ccap) rfl; go_wp2; refine bodyPost_ret (v := .tuple #[.int .i64 (lnK R), .agg #[.bool cb, .string cn, .string cvo, .string cvt, .slice va vn vc, .slice la ln lc, .slice cia ck ccap]]) (by simp [results, Tryz.results89, go_sem, y0, y1, y2, y3, y4, y5, y6]) rfl ?_; exact ⟨HP4.out.2.1.setRowNew (by omega) _, (setRow_other _ _ _ _ (by omega)).trans HP4.out.1, _, rfl, itm_row (B := w5.heap.size) (by omega) (by omega) HP4.out.2.2.1, HP4.out.2.2.2⟩
  ·rw [if_neg hsq] at hRB
   have hsq2 : signT t2 sEq = false := by simpa using hsq
   rw [hsq2]; have hC := block_any g oa n oc t (t2 :: r2) (.slice (some ⟨bb, ob, none⟩) N rc) stop last w5 (H0.out.1.below HS2.out.1 hgw) (H0.out.2.1.below HS2.out.1 (Nat.le_refl _)) (H0.out.2.2.2.below HS2.out.1).utf (H0.out.2.2.2.below HS2.out.1).utf.pos (by simp at hn ⊢; omega) (fun t ht => HTT.out.1 t (List.mem_cons_of_mem _ ht)) (fun t ht => HTT.out.2 t (List.mem_cons_of_mem _ ht)); rw [<- hRB] at hC; obtain ⟨hbl, k0, k1, hz9⟩ := HS2.out; have hl0 := k0.lt; have k0c0 := k0.cell 0 _ rfl; have k0f0 := k0.frozen 0; have k0c1 := k0.cell 1 _ rfl; have k0f1 := k0.frozen 1; have k0c2 := k0.cell 2 _ rfl; have k0f2 := k0.frozen 2; clear hbl k0 k1 hRB hsq hsq2; simp only [lineV] at hC; go_wp2_with fail; clear k0c0 k0c1 k0c2 k0f0 k0f1 k0f2; refine hC.mono ?_; clear hC; rintro _ w4 ⟨hs4, p4, cs, rfl, hin, hi6⟩; obtain ⟨cn, cvo, cvt, va, vn, vc, la, ln, lc, cia, ck, ccap, rfl⟩ := ItmIn.shape7 hin; obtain ⟨hbl, k0, k1, hz9⟩ := HS2.out; have q4 := hs4.cells k1 (by omega); have hl4 := q4.lt; have HP4 := Lib.hid (And.intro p4 (And.intro ((Save.of hbl).trans hs4) (And.intro hin hi6))); have HQ4 := Lib.hid q4; clear q4 p4 hs4 hbl k0 k1 hin hi6; generalize (lnX R).block = cb at *; go_wp2_with (with_reducible first | refine stop_store ?_)
   refine Stop.out ?_; refine wpList_store_all rfl 54 _ _ rfl rfl _ rfl #[.bool cb, .string cn, .string cvo, .string cvt, .slice va vn vc, .slice la ln lc, .slice cia ck ccap] rfl _ _ HQ4.out rfl (by kernel_rfl) (one7 _ _ _ _ _ _ _ _ _ _ _ _ _) ?_; have hqq : Cells (w4.setRow (w.heap.size + 1) #[.bool cb, .string cn, .string cvo, .string cvt, .slice va vn vc, .slice la ln lc, .slice cia ck ccap]) (w.heap.size + 1) #[.bool cb, .string cn, .string cvo, .string cvt, .slice va vn vc, .slice la ln lc, .slice cia ck ccap] 54 := setRow_heap _ _ _ _ _ _ HQ4.out; have y0 := hqq.cell 0 (.bool cb) rfl; have y1 := hqq.cell 1 (.string cn) rfl; have y2 := hqq.cell 2 (.string cvo) rfl; have y3 := hqq.cell 3 (.string cvt) rfl; have y4 := hqq.cell 4 (.slice va vn vc) rfl; have y5 := hqq.cell 5 (.slice la ln lc) rfl; have y6 := hqq.cell 6 (.slice cia ck ccap) rfl; go_wp2; refine bodyPost_ret (v := .tuple #[.int .i64 (lnK R), .agg #[.bool cb, .string cn, .string cvo, .string cvt, .slice va vn vc, .slice la ln lc, .slice cia ck ccap]]) (by simp [results, Tryz.results89, go_sem, y0, y1, y2, y3, y4, y5, y6]) rfl ?_; exact ⟨HP4.out.2.1.setRowNew (by omega) _, (setRow_other _ _ _ _ (by omega)).trans HP4.out.1, _, rfl, itm_row (B := w5.heap.size) (by omega) (by omega) HP4.out.2.2.1, HP4.out.2.2.2⟩
theorem kind_lack (g : Nat) (oa : Option Addr) (n oc : Nat) (t : Tok) (r : List Tok) (lv : Value) (stop : Int) (last : Bool) (w : World) (h : PBox w g (.slice oa n oc) 0 0) (hr : ToksAt w lv (t :: r)) (ho : ∀ b, lv.ownBlock = some b -> b < w.heap.size) (hT : LexT w) (hn : (t :: r).length <= 900000) (hsh : ∀ u ∈ (t :: r), u.text.size <= 1048576) (hq : ∀ u ∈ (t :: r), u.kind = 3 -> quoX u.text ≠ none) (hB : signT t sRc = true \/ ¬ t.kind = 1) :
  Calls Tryz.prog 89 #[.pointer (some ⟨g, 0, none⟩), lineV lv stop last] w (KindP g (.slice oa n oc) (lineK n (t :: r) stop last) w) := by
 obtain ⟨ra, rc, rfl, hl1, hl2, -⟩ := hr.len; obtain ⟨N, hN⟩ : ∃ N, N = (t :: r).length := ⟨_, rfl⟩; have hNle : N <= (t :: r).length /\ (t :: r).length <= N := by omega
 rw [<- hN] at hr hl1 ho ⊢; unfold maxLen at hl2; have HN := Lib.hid hN; clear hN; obtain ⟨R, hR⟩ : ∃ R, R = lineK n (t :: r) stop last := ⟨_, rfl⟩; have HR := Lib.hid hR; rw [<- hR]; clear hR; have hgw := h.lt; have hbA : Below w.heap.size w ((w.alloc (.cells (lineC (.slice ra N rc) stop last) 86)).alloc (.cells zeroIC.toArray 54)) := ((Below.refl _ w).alloc (Nat.le_refl _) _).alloc (by simp) _; have kA := (Cells.new w (lineC (.slice ra N rc) stop last) 86).alloc (.cells zeroIC.toArray 54); have kB := Cells.new (w.alloc (.cells (lineC (.slice ra N rc) stop last) 86)) zeroIC.toArray 54; simp only [World.size_alloc] at kB; have hzA : ((w.alloc (.cells (lineC (.slice ra N rc) stop last) 86)).alloc (.cells zeroIC.toArray 54)).heap.size = w.heap.size + 2 := by simp
 have HS := Lib.hid (show KdS w ((w.alloc (.cells (lineC (.slice ra N rc) stop last) 86)).alloc (.cells zeroIC.toArray 54)) (lineC (.slice ra N rc) stop last) from ⟨hbA, kA, kB, by rw [hzA]; exact Nat.le_refl _⟩); have H0 := Lib.hid (And.intro h (And.intro hr (And.intro ho hT))); clear hbA kA kB hzA h hr ho hT; simp only [List.length_cons] at hNle hn; have hN1 : 1 <= N := by omega
 have hNz : ((N : Int) == 0) = false := by rw [beq_eq_false_iff_ne]; omega
 obtain ⟨bb, ob, he, hlt, c0, c1, c2⟩ := (H0.out.2.1.below HS.out.1 (Nat.le_refl _)).get (j := 0) (by simp); cases he
 simp only [Nat.zero_mul, Nat.add_zero, List.getElem_cons_zero] at c0 c1 c2; have hSg := sign_tok t sRc ((w.alloc (.cells (lineC (.slice (some ⟨bb, ob, none⟩) N rc) stop last) 86)).alloc (.cells zeroIC.toArray 54)); have hRB := HR.out; simp only [lineK] at hRB; rw [isS_cons] at hRB; have HRB := Lib.hid hRB; clear hRB HR; have HTT := Lib.hid (And.intro hsh hq); have htl := hsh t (by simp); clear hsh hq; simp only [tokV] at hSg; go_enter Tryz.func89, Tryz.ntmps89; go_wp2_with fail; refine hSg.mono ?_; generalize (w.alloc (.cells (lineC (.slice (some ⟨bb, ob, none⟩) N rc) stop last) 86)).alloc (.cells zeroIC.toArray 54) = w1 at *; clear hSg c0 c1 c2 hlt; rintro _ w2 ⟨rfl, hb2⟩; have HS2 := Lib.hid (HS.out.step hb2); clear hb2 HS; have hRB := HRB.out; clear HRB
 by_cases hsg : signT t sRc = true
 ·rw [if_pos hsg] at hRB
  rw [hsg]; clear hsg
  by_cases h1 : n = 1
  ·rw [if_pos h1] at hRB
   have hn1 : ((n : Int) == 1) = true := by rw [beq_iff_eq]; omega
   have HRR := Lib.hid hRB; clear hRB h1; have hpc := (H0.out.1.below HS2.out.1 hgw).cell 0 _ rfl; have hgl := (H0.out.1.below HS2.out.1 hgw).lt; obtain ⟨hbl, k0, k1, hz9⟩ := HS2.out; have hL := lacks_any g (.slice oa n oc) (t :: r) (.slice (some ⟨bb, ob, none⟩) N rc) stop last (0) _ (H0.out.1.below hbl hgw) (H0.out.2.1.below hbl (Nat.le_refl _)) (by simp; omega); rw [<- HRR.out, show (((0 : Nat)) : Int) = 0 from rfl] at hL; have H9 : Hid (lnK R = 0 /\ lnX R = zeroI) := Lib.hid (by rw [HRR.out]; exact lack_zero _ _ _ _); simp only [lineV] at hL; have hl0 := k0.lt; have hgl := (H0.out.1.below hbl hgw).lt; have hpc := (H0.out.1.below hbl hgw).cell 0 _ rfl; have k0c0 := k0.cell 0 _ rfl; have k0f0 := k0.frozen 0; have k0c1 := k0.cell 1 _ rfl; have k0f1 := k0.frozen 1; have k0c2 := k0.cell 2 _ rfl; have k0f2 := k0.frozen 2; clear hbl k0 k1; go_wp2_with fail; refine hL.mono ?_; clear hL k0c0 k0c1 k0c2 k0f0 k0f1 k0f2 hpc hgl; rintro _ w4 ⟨rfl, hs4, p4⟩; obtain ⟨hbl, k0, k1, -⟩ := HS2.out; have q4 := hs4.cells k1 (by omega); have hl4 := q4.lt; have HP4 := Lib.hid (And.intro p4 ((Save.of hbl).trans hs4)); have HQ4 := Lib.hid q4; have q4c0 := q4.cell 0 _ rfl; have q4f0 := q4.frozen 0; have q4c1 := q4.cell 1 _ rfl; have q4f1 := q4.frozen 1; have q4c2 := q4.cell 2 _ rfl; have q4f2 := q4.frozen 2; have q4c3 := q4.cell 3 _ rfl; have q4f3 := q4.frozen 3; have q4c4 := q4.cell 4 _ rfl; have q4f4 := q4.frozen 4; have q4c5 := q4.cell 5 _ rfl; have q4f5 := q4.frozen 5; have q4c6 := q4.cell 6 _ rfl
   have q4f6 := q4.frozen 6; clear q4 p4 hs4 hbl k0 k1; go_wp2_with fail; have hqq := HQ4.out.put zeroIC 0; have y0 := hqq.cell 0 (.bool false) rfl; have y1 := hqq.cell 1 (.string ⟨#[]⟩) rfl; have y2 := hqq.cell 2 (.string ⟨#[]⟩) rfl; have y3 := hqq.cell 3 (.string ⟨#[]⟩) rfl; have y4 := hqq.cell 4 (.slice none 0 0) rfl; have y5 := hqq.cell 5 (.slice none 0 0) rfl; have y6 := hqq.cell 6 (.slice none 0 0) rfl; simp only [setAll] at y0 y1 y2 y3 y4 y5 y6; refine bodyPost_ret (v := .tuple #[.int .i64 0, .agg #[.bool false, .string ⟨#[]⟩, .string ⟨#[]⟩, .string ⟨#[]⟩, .slice none 0 0, .slice none 0 0, .slice none 0 0]]) (by simp [results, Tryz.results89, go_sem, y0, y1, y2, y3, y4, y5, y6]) rfl ?_; show KindP g (.slice oa n oc) R w _ (setAll w4 (w.heap.size + 1) 0 zeroIC); exact ⟨HP4.out.2.setAllNew (by omega) _, HP4.out.1.setAllOther (by omega), zeroIC, by rw [H9.out.1], (by rw [H9.out.2]; exact ItmIn.zero _ _), rfl⟩
  ·rw [if_neg h1] at hRB
   have hn1 : ((n : Int) == 1) = false := by rw [beq_eq_false_iff_ne]; omega
   simp only [List.length_cons] at hRB
   by_cases h2 : 1 < r.length + 1
   ·rw [if_pos h2] at hRB
    have hd : decide ((1 : Int) < (N : Int)) = true := by rw [decide_eq_true_iff]; omega
    have HRR := Lib.hid hRB; clear hRB h1 h2; obtain ⟨hbl, k0, k1, hz9⟩ := HS2.out; have hL := lacks_any g (.slice oa n oc) (t :: r) (.slice (some ⟨bb, ob, none⟩) N rc) stop last (1) _ (H0.out.1.below hbl hgw) (H0.out.2.1.below hbl (Nat.le_refl _)) (by simp; omega); rw [<- HRR.out, show (((1 : Nat)) : Int) = 1 from rfl] at hL; have H9 : Hid (lnK R = 0 /\ lnX R = zeroI) := Lib.hid (by rw [HRR.out]; exact lack_zero _ _ _ _); simp only [lineV] at hL; have hl0 := k0.lt; have hgl := (H0.out.1.below hbl hgw).lt; have hpc := (H0.out.1.below hbl hgw).cell 0 _ rfl; have k0c0 := k0.cell 0 _ rfl; have k0f0 := k0.frozen 0; have k0c1 := k0.cell 1 _ rfl; have k0f1 := k0.frozen 1; have k0c2 := k0.cell 2 _ rfl; have k0f2 := k0.frozen 2; clear hbl k0 k1; go_wp2_with fail; refine hL.mono ?_; clear hL k0c0 k0c1 k0c2 k0f0 k0f1 k0f2 hpc hgl; rintro _ w4 ⟨rfl, hs4, p4⟩; obtain ⟨hbl, k0, k1, -⟩ := HS2.out; have q4 := hs4.cells k1 (by omega); have hl4 := q4.lt; have HP4 := Lib.hid (And.intro p4 ((Save.of hbl).trans hs4)); have HQ4 := Lib.hid q4; have q4c0 := q4.cell 0 _ rfl; have q4f0 := q4.frozen 0; have q4c1 := q4.cell 1 _ rfl; have q4f1 := q4.frozen 1; have q4c2 := q4.cell 2 _ rfl; have q4f2 := q4.frozen 2; have q4c3 := q4.cell 3 _ rfl; have q4f3 := q4.frozen 3; have q4c4 := q4.cell 4 _ rfl; have q4f4 := q4.frozen 4; have q4c5 := q4.cell 5 _ rfl; have q4f5 := q4.frozen 5; have q4c6 := q4.cell 6 _ rfl; have q4f6 := q4.frozen 6; clear q4 p4 hs4 hbl k0 k1; go_wp2_with fail; have hqq := HQ4.out.put zeroIC 0
    have y0 := hqq.cell 0 (.bool false) rfl; have y1 := hqq.cell 1 (.string ⟨#[]⟩) rfl; have y2 := hqq.cell 2 (.string ⟨#[]⟩) rfl; have y3 := hqq.cell 3 (.string ⟨#[]⟩) rfl; have y4 := hqq.cell 4 (.slice none 0 0) rfl; have y5 := hqq.cell 5 (.slice none 0 0) rfl; have y6 := hqq.cell 6 (.slice none 0 0) rfl; simp only [setAll] at y0 y1 y2 y3 y4 y5 y6; refine bodyPost_ret (v := .tuple #[.int .i64 0, .agg #[.bool false, .string ⟨#[]⟩, .string ⟨#[]⟩, .string ⟨#[]⟩, .slice none 0 0, .slice none 0 0, .slice none 0 0]]) (by simp [results, Tryz.results89, go_sem, y0, y1, y2, y3, y4, y5, y6]) rfl ?_; show KindP g (.slice oa n oc) R w _ (setAll w4 (w.heap.size + 1) 0 zeroIC); exact ⟨HP4.out.2.setAllNew (by omega) _, HP4.out.1.setAllOther (by omega), zeroIC, by rw [H9.out.1], (by rw [H9.out.2]; exact ItmIn.zero _ _), rfl⟩
   ·rw [if_neg h2] at hRB
    have hd : decide ((1 : Int) < (N : Int)) = false := by rw [decide_eq_false_iff_not]; omega
    have HRR := Lib.hid hRB; have H9 : Hid (lnK R = 5 /\ lnX R = zeroI) := Lib.hid (by rw [HRR.out]; exact ⟨rfl, rfl⟩); clear hRB h1 h2; obtain ⟨hbl, k0, k1, hz9⟩ := HS2.out; have hpb := H0.out.1.below hbl hgw; have hpc := hpb.cell 0 _ rfl; have hgl := hpb.lt; have hl0 := k0.lt; have hl4 := k1.lt; have p4 : PBox w2 g (.slice oa n oc) (lnE R).1 (lnE R).2 := by rw [HRR.out]; exact hpb
    have HP4 := Lib.hid (And.intro p4 (Save.of (g := g) hbl)); have HQ4 := Lib.hid k1; have k0c0 := k0.cell 0 _ rfl; have k0f0 := k0.frozen 0; have k0c1 := k0.cell 1 _ rfl; have k0f1 := k0.frozen 1; have k0c2 := k0.cell 2 _ rfl; have k0f2 := k0.frozen 2; have k1c0 := k1.cell 0 _ rfl; have k1f0 := k1.frozen 0; have k1c1 := k1.cell 1 _ rfl; have k1f1 := k1.frozen 1; have k1c2 := k1.cell 2 _ rfl; have k1f2 := k1.frozen 2; have k1c3 := k1.cell 3 _ rfl; have k1f3 := k1.frozen 3; have k1c4 := k1.cell 4 _ rfl; have k1f4 := k1.frozen 4; have k1c5 := k1.cell 5 _ rfl; have k1f5 := k1.frozen 5; have k1c6 := k1.cell 6 _ rfl; have k1f6 := k1.frozen 6; clear hbl k0 k1 hpb p4; go_wp2_with fail; have hqq := HQ4.out.put zeroIC 0; have y0 := hqq.cell 0 (.bool false) rfl; have y1 := hqq.cell 1 (.string ⟨#[]⟩) rfl; have y2 := hqq.cell 2 (.string ⟨#[]⟩) rfl; have y3 := hqq.cell 3 (.string ⟨#[]⟩) rfl; have y4 := hqq.cell 4 (.slice none 0 0) rfl; have y5 := hqq.cell 5 (.slice none 0 0) rfl; have y6 := hqq.cell 6 (.slice none 0 0) rfl; simp only [setAll] at y0 y1 y2 y3 y4 y5 y6; refine bodyPost_ret (v := .tuple #[.int .i64 5, .agg #[.bool false, .string ⟨#[]⟩, .string ⟨#[]⟩, .string ⟨#[]⟩, .slice none 0 0, .slice none 0 0, .slice none 0 0]]) (by simp [results, Tryz.results89, go_sem, y0, y1, y2, y3, y4, y5, y6]) rfl ?_; show KindP g (.slice oa n oc) R w _ (setAll w2 (w.heap.size + 1) 0 zeroIC); exact ⟨HP4.out.2.setAllNew (by omega) _, HP4.out.1.setAllOther (by omega), zeroIC, by rw [H9.out.1], (by rw [H9.out.2]; exact ItmIn.zero _ _), rfl⟩
 ·rw [if_neg hsg] at hRB
  have hsg2 : signT t sRc = false := by simpa using hsg
  have hsg0 := hsg; rw [hsg2]; clear hsg hsg2; obtain ⟨bb3, ob3, he3, hlt3, c0, c1, c2⟩ := (H0.out.2.1.below HS2.out.1 (Nat.le_refl _)).get (j := 0) (by simp); cases he3
  simp only [Nat.zero_mul, Nat.add_zero, List.getElem_cons_zero] at c0 c1 c2
  by_cases hk1 : t.kind = 1
  ·exact absurd hk1 (by exact hB.resolve_left hsg0)
  ·rw [if_pos (by simpa using hk1)] at hRB
   have hkk : (t.kind != 1) = true := by simpa using hk1
   have HRR := Lib.hid hRB; have hl00 := HS2.out.2.1.lt; have hc00 := HS2.out.2.1.cell 0 _ rfl; clear hRB hk1; obtain ⟨hbl, k0, k1, hz9⟩ := HS2.out; have hL := lacks_any g (.slice oa n oc) (t :: r) (.slice (some ⟨bb, ob, none⟩) N rc) stop last (0) _ (H0.out.1.below hbl hgw) (H0.out.2.1.below hbl (Nat.le_refl _)) (by simp; omega); rw [<- HRR.out, show (((0 : Nat)) : Int) = 0 from rfl] at hL; have H9 : Hid (lnK R = 0 /\ lnX R = zeroI) := Lib.hid (by rw [HRR.out]; exact lack_zero _ _ _ _); simp only [lineV] at hL; have hl0 := k0.lt; have hgl := (H0.out.1.below hbl hgw).lt; have hpc := (H0.out.1.below hbl hgw).cell 0 _ rfl; have k0c0 := k0.cell 0 _ rfl; have k0f0 := k0.frozen 0; have k0c1 := k0.cell 1 _ rfl; have k0f1 := k0.frozen 1; have k0c2 := k0.cell 2 _ rfl; have k0f2 := k0.frozen 2; clear hbl k0 k1; go_wp2_with fail; refine hL.mono ?_; clear hL k0c0 k0c1 k0c2 k0f0 k0f1 k0f2 hpc hgl; rintro _ w4 ⟨rfl, hs4, p4⟩; obtain ⟨hbl, k0, k1, -⟩ := HS2.out; have q4 := hs4.cells k1 (by omega); have hl4 := q4.lt; have HP4 := Lib.hid (And.intro p4 ((Save.of hbl).trans hs4)); have HQ4 := Lib.hid q4; have q4c0 := q4.cell 0 _ rfl; have q4f0 := q4.frozen 0; have q4c1 := q4.cell 1 _ rfl; have q4f1 := q4.frozen 1; have q4c2 := q4.cell 2 _ rfl; have q4f2 := q4.frozen 2; have q4c3 := q4.cell 3 _ rfl; have q4f3 := q4.frozen 3; have q4c4 := q4.cell 4 _ rfl; have q4f4 := q4.frozen 4; have q4c5 := q4.cell 5 _ rfl; have q4f5 := q4.frozen 5; have q4c6 := q4.cell 6 _ rfl; have q4f6 := q4.frozen 6; clear q4 p4 hs4 hbl k0 k1
   go_wp2_with fail; have hqq := HQ4.out.put zeroIC 0; have y0 := hqq.cell 0 (.bool false) rfl; have y1 := hqq.cell 1 (.string ⟨#[]⟩) rfl; have y2 := hqq.cell 2 (.string ⟨#[]⟩) rfl; have y3 := hqq.cell 3 (.string ⟨#[]⟩) rfl; have y4 := hqq.cell 4 (.slice none 0 0) rfl; have y5 := hqq.cell 5 (.slice none 0 0) rfl; have y6 := hqq.cell 6 (.slice none 0 0) rfl; simp only [setAll] at y0 y1 y2 y3 y4 y5 y6; refine bodyPost_ret (v := .tuple #[.int .i64 0, .agg #[.bool false, .string ⟨#[]⟩, .string ⟨#[]⟩, .string ⟨#[]⟩, .slice none 0 0, .slice none 0 0, .slice none 0 0]]) (by simp [results, Tryz.results89, go_sem, y0, y1, y2, y3, y4, y5, y6]) rfl ?_; show KindP g (.slice oa n oc) R w _ (setAll w4 (w.heap.size + 1) 0 zeroIC); exact ⟨HP4.out.2.setAllNew (by omega) _, HP4.out.1.setAllOther (by omega), zeroIC, by rw [H9.out.1], (by rw [H9.out.2]; exact ItmIn.zero _ _), rfl⟩
theorem kind_any (g : Nat) (oa : Option Addr) (n oc : Nat) (row : List Tok) (lv : Value) (stop : Int) (last : Bool) (w : World) (h : PBox w g (.slice oa n oc) 0 0) (hr : ToksAt w lv row) (ho : ∀ b, lv.ownBlock = some b -> b < w.heap.size) (hT : LexT w) (hn : row.length <= 900000) (hsh : ∀ t ∈ row, t.text.size <= 1048576) (hq : ∀ t ∈ row, t.kind = 3 -> quoX t.text ≠ none) :
  Calls Tryz.prog 89 #[.pointer (some ⟨g, 0, none⟩), lineV lv stop last] w (KindP g (.slice oa n oc) (lineK n row stop last) w) := by
 cases row with
 | nil => exact kind_nil g oa n oc lv stop last w h hr ho hT hn hsh hq
 | cons t r =>
  by_cases h1 : signT t sRc = true
  ·exact kind_lack g oa n oc t r lv stop last w h hr ho hT hn hsh hq (.inl h1)
  ·by_cases h2 : t.kind = 1
   ·exact kind_tab g oa n oc t r lv stop last w h hr ho hT hn hsh hq (by simpa using h1) h2
   ·exact kind_lack g oa n oc t r lv stop last w h hr ho hT hn hsh hq (.inr h2)
def setL (xs : List Value) : Nat -> List Value -> List Value
 | _, [] => xs
 | o, v :: r => setL (xs.set o v) (o + 1) r
theorem setL_end : ∀ (vs zs ts : List Value), zs.length = vs.length -> setL (ts ++ zs) ts.length vs = ts ++ vs
 | [], [], ts, _ => rfl
 | [], _ :: _, _, h => by simp at h
 | _ :: _, [], _, h => by simp at h
 | v :: r, z :: zs, ts, h => by
  have ih := setL_end r zs (ts ++ [v]) (by simpa using h); simp only [List.length_append, List.length_cons, List.length_nil, List.append_assoc, List.cons_append, List.nil_append] at ih; rw [setL, List.set_append_right _ _ (Nat.le_refl _), Nat.sub_self, List.set_cons_zero]; exact ih
theorem own_cells {base g n cap size : Nat} {e : TypeId} : ∀ (vs : List Value) (o : Nat) {w : World} {xs : List Value}, w.ownsRow base e size (.slice (some ⟨g, 0, none⟩) n cap) n xs -> (w.setCells g o vs).ownsRow base e size (.slice (some ⟨g, 0, none⟩) n cap) n (setL xs o vs)
 | [], _, _, _, h => h
 | v :: r, o, _, _, h => own_cells r (o + 1) (h.stored o v).1
theorem grown_cells (g : Nat) : ∀ (vs : List Value) (o : Nat) (w : World), w.grownBy (w.setCells g o vs) (some g)
 | [], _, w => ⟨rfl, rfl, rfl, Nat.le_refl _, fun _ _ _ => rfl⟩
 | v :: r, o, w => World.grownBy.trans (b := w.setCell ⟨g, o, none⟩ v) ⟨rfl, rfl, rfl, by simp [World.setCell], fun k _ hk => heap_setCell_other w ⟨g, o, none⟩ k v (fun e => hk (by simp [e]))⟩ (grown_cells g r (o + 1) _)
section
variable {P : Program}
end
theorem zeroIC_one : ∀ u ∈ zeroIC, u.oneCell' = true := by
 intro u hu; simp [zeroIC] at hu
 rcases hu with rfl | rfl | rfl | rfl | rfl | rfl | rfl <;> rfl
theorem zero_at {n : Nat} (w : World) (hw : w.heap.size = n) (j : Nat) (u : Value) (hu : zeroIC[j]? = some u) : (w.alloc (.cells zeroIC.toArray 54)).cell? ⟨n, j, none⟩ = some u := by
 subst hw; rw [World.cell?_alloc_new]
 simpa using hu
theorem two_size (w : World) (o1 o2 : Obj) : ((w.alloc o1).alloc o2).heap.size = w.heap.size + 2 := by
 rw [World.size_alloc, World.size_alloc]
theorem add_at {w : World} {base k n ob oc : Nat} {v : Value} {ts os : List Value} (o : Obj) (hb : base <= w.heap.size) (h1 : w.ownsRow base 54 7 v k ts) (h2 : w.ownsRow base 54 7 (.slice (some ⟨ob, 0, none⟩) n oc) n os) :
  (((w.alloc o).alloc (.cells zeroIC.toArray 54)).drew.drew.ownsRow base 54 7 v k ts) /\ (((w.alloc o).alloc (.cells zeroIC.toArray 54)).drew.drew.ownsRow base 54 7 (.slice (some ⟨ob, 0, none⟩) n oc) n os) /\
  (∀ (j : Nat) (u : Value), zeroIC[j]? = some u -> ((w.alloc o).alloc (.cells zeroIC.toArray 54)).drew.drew.cell? ⟨w.heap.size + 1, j, none⟩ = some u) /\ base <= ((w.alloc o).alloc (.cells zeroIC.toArray 54)).drew.drew.heap.size /\ ((w.alloc o).alloc (.cells zeroIC.toArray 54)).drew.drew.heap.size = w.heap.size + 2 /\ Below w.heap.size w ((w.alloc o).alloc (.cells zeroIC.toArray 54)).drew.drew :=
 ⟨show ((w.alloc o).alloc (.cells zeroIC.toArray 54)).ownsRow _ _ _ _ _ _ from (h1.alloc _).alloc _, show ((w.alloc o).alloc (.cells zeroIC.toArray 54)).ownsRow _ _ _ _ _ _ from (h2.alloc _).alloc _,
  fun j u hu => zero_at (w.alloc o) (World.size_alloc w _) j u hu, Nat.le_trans hb (Nat.le_trans (Nat.le_add_right _ 2) (Nat.le_of_eq (two_size w o (.cells zeroIC.toArray 54)).symm)), two_size w o _, ((((Below.refl _ w).alloc (Nat.le_refl _) _).alloc (by simp) _).drew).drew⟩
theorem new_at {w : World} {base k g cap : Nat} {ts : List Value} (h : w.ownsRow base 54 7 (.slice (some ⟨g, 0, none⟩) (k + 1) cap) (k + 1) (ts ++ zeroIC)) (hl : ts.length = k * 7) (j : Nat) (u : Value) (hu : zeroIC[j]? = some u) : w.cell? ⟨g, k * 7 + j, none⟩ = some u := by
 have hj : j < 7 := (List.getElem?_eq_some_iff.1 hu).1; rw [h.cellAt _ (by omega), List.getElem?_append_right (by omega), show k * 7 + j - ts.length = j by omega]; exact hu
theorem new_at0 {w : World} {base k g cap : Nat} {ts : List Value} (h : w.ownsRow base 54 7 (.slice (some ⟨g, 0, none⟩) (k + 1) cap) (k + 1) (ts ++ zeroIC)) (hl : ts.length = k * 7) : w.cell? ⟨g, k * 7, none⟩ = some (.bool false) := new_at h hl 0 _ rfl
theorem add_far {v : Value} {g ob H n : Nat} (h : v.ownBlock = some g \/ g = H) (hH : H = n + 2) (hne : v.ownBlock ≠ some ob) (hl : ob < n) : ¬ g = ob /\ (v.ownBlock = some g \/ g = n + 2) :=
 ⟨fun e => h.elim (fun q => hne (by rw [q, e])) (fun q => by omega), h.imp id (fun q => q.trans hH)⟩
def AddP (base ob oc M k : Nat) (os ts xs : List Value) (tv : Value) (w : World) (r : Ending) (w' : World) : Prop :=
 r = .returned (.tuple #[]) /\ ∃ g2 cap2, w'.ownsRow base 54 7 (.slice (some ⟨g2, 0, none⟩) (k + 1) cap2) (k + 1) (ts ++ xs) /\
  w'.ownsRow base 54 7 (.slice (some ⟨ob, 0, none⟩) (M + 1) oc) (M + 1) (os.set (M * 7 + 6) (.slice (some ⟨g2, 0, none⟩) (k + 1) cap2)) /\
  (tv.ownBlock = some g2 \/ w.heap.size <= g2) /\ Below 0 w w' /\ (∀ b, b < w.heap.size -> b ≠ ob -> tv.ownBlock ≠ some b -> w'.heap[b]? = w.heap[b]?)
section
variable {base ob oc M N k g3 cap3 : Nat} {os ts xs : List Value} {tv : Value} {w W w3 : World}
theorem add_far2 {b : Nat} (hat : tv.ownBlock = some g3 \/ g3 = w.heap.size + 2) (h1 : b < w.heap.size) (h2 : tv.ownBlock ≠ some b) : b ≠ g3 := fun e => hat.elim (fun q => h2 (by rw [q, e])) (fun q => by omega)
theorem add_end1 (hx : xs.length = 7) (HN : N = M + 1) (hL : ts.length = k * 7) (hne : ¬ g3 = ob) (hW : Below w.heap.size w W) (h1 : w3.ownsRow base 54 7 (.slice (some ⟨g3, 0, none⟩) (k + 1) cap3) (k + 1) (ts ++ zeroIC)) (h2 : W.grownBy w3 tv.ownBlock) (hat : tv.ownBlock = some g3 \/ g3 = w.heap.size + 2)
  (h3 : w3.ownsRow base 54 7 (.slice (some ⟨ob, 0, none⟩) N oc) N os) : AddP base ob oc M k os ts xs tv w (.returned (.tuple #[])) ((w3.setCells g3 (k * 7) xs).setCell ⟨ob, M * 7 + 6, none⟩ (.slice (some ⟨g3, 0, none⟩) (k + 1) cap3)) := by
 subst HN; have a1 := own_cells xs (k * 7) h1; rw [<- hL, setL_end xs zeroIC ts (by rw [hx]; rfl), hL] at a1; have a2 := grown_cells g3 xs (k * 7) w3; have a3 := h3.kept a2 (.inr (fun e => hne (by simpa [Value.ownBlock] using e.symm))); obtain ⟨a4, a5⟩ := a3.stored (M * 7 + 6) (.slice (some ⟨g3, 0, none⟩) (k + 1) cap3); refine ⟨rfl, g3, cap3, a1.kept a5 (.inr (fun e => hne (by simpa [Value.ownBlock] using e))), a4, hat.imp id (fun q => by omega), ?_, fun b hb1 hb2 hb3 => ?_⟩
 ·exact ((((hW.mono (Nat.zero_le _)).grown h2 (Nat.zero_le _) (fun _ _ => Nat.zero_le _)).grown a2 (Nat.zero_le _) (fun _ _ => Nat.zero_le _)).grown a5 (Nat.zero_le _) (fun _ _ => Nat.zero_le _))
 ·have z1 := hW.size
  have z2 := h2.size; have z3 := a2.size; rw [a5.block b (by omega) (fun e => hb2 (Option.some.inj e)), a2.block b (by omega) (fun e => add_far2 hat hb1 hb3 (Option.some.inj e)), h2.block b (by omega) (fun e => hb3 e.symm)]; exact hW.block b hb1
theorem add_end2 (hx : xs.length = 7) (HN : N = M + 1) (hL : ts.length = k * 7) (hne : ¬ g3 = ob) (hW : Below w.heap.size w W) (h1 : w3.ownsRow base 54 7 (.slice (some ⟨g3, 0, none⟩) (k + 1) cap3) (k + 1) (ts ++ zeroIC)) (h2 : W.grownBy w3 tv.ownBlock) (hat : tv.ownBlock = some g3 \/ g3 = w.heap.size + 2)
  (h3 : w3.ownsRow base 54 7 (.slice (some ⟨ob, 0, none⟩) N oc) N os) : AddP base ob oc M k os ts xs tv w (.returned (.tuple #[])) ((w3.setCell ⟨ob, M * 7 + 6, none⟩ (.slice (some ⟨g3, 0, none⟩) (k + 1) cap3)).setCells g3 (k * 7) xs) := by
 subst HN; obtain ⟨a4, a5⟩ := h3.stored (M * 7 + 6) (.slice (some ⟨g3, 0, none⟩) (k + 1) cap3); have a1 := own_cells xs (k * 7) (h1.kept a5 (.inr (fun e => hne (by simpa [Value.ownBlock] using e)))); rw [<- hL, setL_end xs zeroIC ts (by rw [hx]; rfl), hL] at a1; have a2 := grown_cells g3 xs (k * 7) (w3.setCell ⟨ob, M * 7 + 6, none⟩ (.slice (some ⟨g3, 0, none⟩) (k + 1) cap3)); refine ⟨rfl, g3, cap3, a1, a4.kept a2 (.inr (fun e => hne (by simpa [Value.ownBlock] using e.symm))), hat.imp id (fun q => by omega), ?_, fun b hb1 hb2 hb3 => ?_⟩
 ·exact ((((hW.mono (Nat.zero_le _)).grown h2 (Nat.zero_le _) (fun _ _ => Nat.zero_le _)).grown a5 (Nat.zero_le _) (fun _ _ => Nat.zero_le _)).grown a2 (Nat.zero_le _) (fun _ _ => Nat.zero_le _))
 ·have z1 := hW.size
  have z2 := h2.size; have z3 := a5.size; rw [a2.block b (by omega) (fun e => add_far2 hat hb1 hb3 (Option.some.inj e)), a5.block b (by omega) (fun e => hb2 (Option.some.inj e)), h2.block b (by omega) (fun e => hb3 e.symm)]; exact hW.block b hb1
theorem add_c1 {a0 a1 a2 a3 a4 a5 a6 : Value} (HN : N = M + 1) (hL : ts.length = k * 7) (hne : ¬ g3 = ob) (h1 : w3.ownsRow base 54 7 (.slice (some ⟨g3, 0, none⟩) (k + 1) cap3) (k + 1) (ts ++ zeroIC)) (h2 : W.grownBy w3 tv.ownBlock) (hat : tv.ownBlock = some g3 \/ g3 = w.heap.size + 2)
  (h3 : w3.ownsRow base 54 7 (.slice (some ⟨ob, 0, none⟩) N oc) N os) (hW : Below w.heap.size w W) : AddP base ob oc M k os ts [a0, a1, a2, a3, a4, a5, a6] tv w (.returned (.tuple #[])) ((((((((w3.setCell ⟨g3, k * 7, none⟩ a0).setCell ⟨g3, k * 7 + 1, none⟩ a1).setCell ⟨g3, k * 7 + 2, none⟩ a2).setCell ⟨g3, k * 7 + 3, none⟩ a3).setCell ⟨g3, k * 7 + 4, none⟩ a4).setCell ⟨g3, k * 7 + 5, none⟩ a5).setCell ⟨g3, k * 7 + 6, none⟩ a6).setCell ⟨ob, M * 7 + 6, none⟩ (.slice (some ⟨g3, 0, none⟩) (k + 1) cap3)) :=
 add_end1 (xs := [a0, a1, a2, a3, a4, a5, a6]) rfl HN hL hne hW h1 h2 hat h3
theorem add_c2 {a0 a1 a2 a3 a4 a5 a6 : Value} (HN : N = M + 1) (hL : ts.length = k * 7) (hne : ¬ g3 = ob) (h1 : w3.ownsRow base 54 7 (.slice (some ⟨g3, 0, none⟩) (k + 1) cap3) (k + 1) (ts ++ zeroIC)) (h2 : W.grownBy w3 tv.ownBlock) (hat : tv.ownBlock = some g3 \/ g3 = w.heap.size + 2)
  (h3 : w3.ownsRow base 54 7 (.slice (some ⟨ob, 0, none⟩) N oc) N os) (hW : Below w.heap.size w W) : AddP base ob oc M k os ts [a0, a1, a2, a3, a4, a5, a6] tv w (.returned (.tuple #[])) ((((((((w3.setCell ⟨ob, M * 7 + 6, none⟩ (.slice (some ⟨g3, 0, none⟩) (k + 1) cap3)).setCell ⟨g3, k * 7, none⟩ a0).setCell ⟨g3, k * 7 + 1, none⟩ a1).setCell ⟨g3, k * 7 + 2, none⟩ a2).setCell ⟨g3, k * 7 + 3, none⟩ a3).setCell ⟨g3, k * 7 + 4, none⟩ a4).setCell ⟨g3, k * 7 + 5, none⟩ a5).setCell ⟨g3, k * 7 + 6, none⟩ a6) :=
 add_end2 (xs := [a0, a1, a2, a3, a4, a5, a6]) rfl HN hL hne hW h1 h2 hat h3
end
theorem add_any (g ob oc M k base : Nat) (a e : Int) (os ts : List Value) (tv : Value) (xb : Bool) (xn xo xs : ByteArray) (va : Option Addr) (vn vc : Nat) (la : Option Addr) (ln lc : Nat) (ia : Option Addr) (ik ic : Nat) (w : World)
  (h : PBox w g (.slice (some ⟨ob, 0, none⟩) (M + 1) oc) a e) (ho : w.ownsRow base 54 7 (.slice (some ⟨ob, 0, none⟩) (M + 1) oc) (M + 1) os) (ht : os[M * 7 + 6]? = some tv) (hts : w.ownsRow base 54 7 tv k ts)
  (hne : tv.ownBlock ≠ some ob) (hgo : g ≠ ob) (hgt : tv.ownBlock ≠ some g) (hM : M <= 1000000) (hk : k <= 1000000) (hb : base <= w.heap.size) :
  Calls Tryz.prog 90 #[.pointer (some ⟨g, 0, none⟩), .agg #[.bool xb, .string xn, .string xo, .string xs, .slice va vn vc, .slice la ln lc, .slice ia ik ic]] w (AddP base ob oc M k os ts [.bool xb, .string xn, .string xo, .string xs, .slice va vn vc, .slice la ln lc, .slice ia ik ic] tv w) := by
 obtain ⟨ta, tc, rfl⟩ : ∃ ta tc, tv = .slice ta k tc := by
  rcases hts.2 with ⟨h1, h2⟩ | ⟨g', cap', cur, h1, -⟩
  ·exact ⟨none, 0, by rw [h1, h2]⟩
  ·exact ⟨_, _, h1⟩
 obtain ⟨i0, hi0, hi1⟩ := Option.map_eq_some_iff.1 Tryz.infoItm; simp only [Prod.mk.injEq] at hi1; obtain ⟨hz0, hz1, hz2⟩ := hi1; have hgl := h.lt; have hol := (World.ownsRow.lt ho ob rfl).2; obtain ⟨N, hN⟩ : ∃ N, N = M + 1 := ⟨_, rfl⟩; have hNle : N <= M + 1 /\ M + 1 <= N := by omega
 rw [<- hN] at h ho; have HN := Lib.hid hN; clear hN; have hNM : (N : Int) - 1 = (M : Int) := by omega
 have hMN : M < N := by omega
 have hc6 : w.cell? ⟨ob, M * 7 + 6, none⟩ = some (.slice ta k tc) := by rw [ho.cellAt _ (by omega)]; exact ht
 have hf6 : w.frozen? ⟨ob, M * 7 + 6, none⟩ = false := ho.frozenAt _; have HH := Lib.hid (And.intro h (And.intro ho hts)); have hpc := h.cell 0 _ rfl; clear h ho hts; go_enter Tryz.func90, Tryz.ntmps90; go_wp2_with fail; have HL := Lib.hid HH.out.2.2.1; have HQ := Lib.hid (add_at (.cells #[.bool xb, .string xn, .string xo, .string xs, .slice va vn vc, .slice la ln lc, .slice ia ik ic] 54) hb HH.out.2.2 HH.out.2.1); have hkk : (k : Int) < (k : Int) + 1 := by omega
 go_region
 all_goals
  go_wp2_with fail
 go_region_law (first
  | (refine step_append_lies _ rfl _ _ 42 rfl base 54 i0 _ 7 128 Tryz.underlying42 hi0 hz0 hz1 hz2 rfl (by decide) (.slice ta k tc) k ts (by rfl) (by exact HQ.out.1) ⟨w.heap.size + 1, 0, none⟩ 1 1 zeroIC (by rfl) rfl (by intro j u hu; rw [Addr.add_lit, Nat.zero_add]; exact HQ.out.2.2.1 j u hu) zeroIC_one (by omega) (by unfold maxLen; omega) (by omega) (by exact HQ.out.2.2.2.1) _ rfl ?_; intro g3 cap3 w3 hown3 hgrow3 hat3 hlt3; have ho3 := HQ.out.2.1.kept hgrow3 (.inr (fun e => hne e.symm)); have o7c := (ho3.cellAt (M * 7 + 6) (by omega)).trans ht; have o7f := ho3.frozenAt (M * 7 + 6); have m0 := new_at0 hown3 HL.out; have m0f := hown3.frozenAt (k * 7); have m1 := new_at hown3 HL.out 1 _ rfl; have m1f := hown3.frozenAt (k * 7 + 1); have m2 := new_at hown3 HL.out 2 _ rfl; have m2f := hown3.frozenAt (k * 7 + 2); have m3 := new_at hown3 HL.out 3 _ rfl; have m3f := hown3.frozenAt (k * 7 + 3); have m4 := new_at hown3 HL.out 4 _ rfl; have m4f := hown3.frozenAt (k * 7 + 4); have m5 := new_at hown3 HL.out 5 _ rfl; have m5f := hown3.frozenAt (k * 7 + 5); have m6 := new_at hown3 HL.out 6 _ rfl; have m6f := hown3.frozenAt (k * 7 + 6); have hat4 := add_far hat3 HQ.out.2.2.2.2.1 hne hol; have hg3 := hat4.1; have hg3' : ¬ ob = g3 := fun e => hg3 e.symm; have HG := Lib.hid (And.intro hown3 (And.intro hgrow3 (And.intro hat4.2 ho3))); clear hown3 hgrow3 hat3 ho3 hat4))
 all_goals
  refine bodyPost_end (v := .tuple #[]) (by simp [results, Tryz.results90, go_sem]) rfl ?_
 all_goals
  obtain ⟨q1, q2, q3, q4⟩ := HG.out
  first
   | (with_reducible refine add_c1 HN.out HL.out hg3 q1 q2 q3 q4 ?_)
   | (with_reducible refine add_c2 HN.out HL.out hg3 q1 q2 q3 q4 ?_)
  exact HQ.out.2.2.2.2.2
theorem OneAt.fresh {P : Nat -> Prop} {B : Nat} {w : World} {x : Itm} {cs : List Value} (h : ItmIn P w x cs) (h6 : cs[6]? = some (.slice none 0 0)) : OneAt P B w ⟨x, cs, .slice none 0 0⟩ := by
 obtain ⟨b, n, e, ls, its⟩ := x; unfold ItmIn at h; obtain ⟨vo, vt, vk, lv, a, cap, rfl, h1, h2, -⟩ := h.open; simp only [List.getElem?_cons_succ, List.getElem?_cons_zero, Option.some.injEq, Value.slice.injEq] at h6; obtain ⟨rfl, hl, rfl⟩ := h6; obtain rfl := List.eq_nil_of_length_eq_zero hl; exact ⟨b, n, e, ls, vo, vt, vk, lv, [], rfl, rfl, h1, h2, World.ownsRow_nil _ _ _ _, fun s hs => by cases hs⟩
theorem OneAt.itm {P Q : Nat -> Prop} {B : Nat} {w : World} {c : Opn} (h : OneAt P B w c) (hq : ∀ k, P k -> k < w.heap.size -> Q k) (hi : ∀ k, c.iv.ownBlock = some k -> Q k) : ItmIn Q w c.x c.cs := by
 obtain ⟨b, n, e, ls, vo, vt, vk, lv, L, h1, h2, h3, h4, h5, h6⟩ := h; rw [h1, h2]; have hm : ∀ s ∈ L, ItmIn Q w s.1 s.2 := fun s hs => ItmIn.move (Nat.le_refl _) (fun _ _ _ => rfl) hq _ _ (h6 s hs)
 have h7 : ∀ cs ∈ L.map (·.2), cs.length = 7 := fun cs hcs => by
  obtain ⟨s, hs, rfl⟩ := List.mem_map.1 hcs; exact ItmR.len7 (hm s hs)
 have hown : OwnC B w c.iv (L.map (·.2)) := ⟨by rw [List.length_map, <- List.flatMap_def]; exact h5, h7⟩; have e3 := ExpIn.move (Nat.le_refl _) (fun _ _ _ => rfl) hq e _ h3; have e4 := h4.move (Q := Q) (Nat.le_refl _) (fun _ _ _ => rfl) hq
 have hform : ∃ a cap, c.iv = .slice a L.length cap /\ L.length <= cap /\ cap <= maxLen /\ (a = none -> cap = 0) /\ ∀ x, a = some x -> x.spot = none /\ c.iv.ownBlock = some x.block := by
  rcases h5.2 with ⟨q1, q2⟩ | ⟨g, cap, cur, q1, -, -, q2, q3, -⟩
  ·exact ⟨none, 0, by rw [q1, q2], by rw [q2]; exact Nat.le_refl _, Nat.zero_le _, fun _ => rfl, fun x hx => by cases hx⟩
  ·exact ⟨_, cap, q1, q2, q3, (fun h => by cases h), fun x hx => by cases hx; exact ⟨rfl, by rw [q1]; rfl⟩⟩
 obtain ⟨a, cap, q1, q2, q3, q4, q5⟩ := hform; unfold ItmIn; simp only [ItmR]; refine ⟨vo, vt, vk, lv, a, cap, by rw [q1, List.length_map], e3, e4, by rw [List.length_map]; exact q2, q3, q4, fun x hx hne => ?_⟩; obtain ⟨r1, r2⟩ := q5 x hx; refine ⟨r1, ⟨(World.ownsRow.lt h5 _ r2).2, hi _ r2⟩, ItmsR.make _ _ (fun k hk => ?_)⟩; rw [List.length_map] at hk; rw [q1] at hown; obtain ⟨g, he, -, -, hc, -⟩ := hown.cellAt (k := k) (by simpa using hk); rw [hx] at he; cases he
 refine ⟨L[k].2, fun j u hu => ?_, ?_⟩
 ·rw [Nat.zero_add]
  exact hc j u (by simpa using hu)
 ·rw [List.getElem_map]
  exact hm _ (List.getElem_mem hk)
theorem StC.push {B g g2 cap2 : Nat} {rb : Option Nat} {w w' : World} {v : Value} {C : List Opn} {c : Opn} (h : StC B g rb w v C) (hx : OneAt (Inn B g rb v C) B w c) (hn : c.iv.ownBlock = none)
  (h1 : w'.ownsRow B 54 7 (.slice (some ⟨g2, 0, none⟩) (C.length + 1) cap2) (C.length + 1) (C.flatMap (·.cs) ++ c.cs)) (h3 : v.ownBlock = some g2 \/ w.heap.size <= g2) (hs : w.heap.size <= w'.heap.size)
  (hf : ∀ b, b < w.heap.size -> v.ownBlock ≠ some b -> b ≠ g -> w'.heap[b]? = w.heap[b]?) : StC B g rb w' (.slice (some ⟨g2, 0, none⟩) (C.length + 1) cap2) (C ++ [c]) := by
 have hP : ∀ b, Inn B g rb v C b -> b < w.heap.size -> Inn B g rb (.slice (some ⟨g2, 0, none⟩) (C.length + 1) cap2) (C ++ [c]) b := fun b hb hl => by
  refine ⟨hb.1, hb.2.1, hb.2.2.1, fun e => ?_, fun d hd => ?_⟩
  ·simp only [Value.ownBlock, Option.some.injEq] at e
   subst e; exact h3.elim hb.2.2.2.1 (fun q => by omega)
  ·rcases List.mem_append.1 hd with hd | hd
   ·exact hb.2.2.2.2 d hd
   ·simp at hd; subst hd; rw [hn]; simp
 have hC : ∀ b, Inn B g rb v C b -> b < w.heap.size -> w'.heap[b]? = w.heap[b]? := fun b hb hl => hf b hl hb.2.2.2.1 hb.2.1
 have hiv : ∀ d ∈ C, ∀ b, d.iv.ownBlock = some b -> b ≠ g2 := fun d hd b e q => by
  subst q; exact h3.elim (h.apart.one d hd b e).1 (fun q => by have := (h.lt (.inr ⟨d, hd, e⟩)).2; omega)
 refine ⟨Nat.lt_of_lt_of_le h.gl hs, fun b e => Nat.lt_of_lt_of_le (h.rl b e) hs, by simpa using h1, ⟨fun e => ?_, fun b e e2 => ?_, h.apart.rg, fun d hd b e => ?_, ?_⟩, fun d hd => ?_⟩
 ·simp only [Value.ownBlock, Option.some.injEq] at e
  subst e; exact h3.elim h.apart.vg (fun q => by have := h.gl; omega)
 ·simp only [Value.ownBlock, Option.some.injEq] at e
  subst e; exact h3.elim (fun q => h.apart.vr _ q e2) (fun q => by have := h.rl _ e2; omega)
 ·rcases List.mem_append.1 hd with hd | hd
  ·exact ⟨fun q => by simp only [Value.ownBlock, Option.some.injEq] at q; exact hiv d hd b e q.symm, (h.apart.one d hd b e).2⟩
  ·simp at hd; subst hd; rw [hn] at e; cases e
 ·rw [List.pairwise_append]
  refine ⟨h.apart.two, by simp, fun d _ d2 hd2 b _ => ?_⟩; simp at hd2; subst hd2; rw [hn]; simp
 ·rcases List.mem_append.1 hd with hd | hd
  ·exact (h.all d hd).move hs hC hP (fun b e => hf b (h.lt (.inr ⟨d, hd, e⟩)).2 (h.apart.one d hd b e).1 (h.apart.one d hd b e).2.1)
  ·simp at hd; subst hd
   exact hx.move hs hC hP (fun b e => by rw [hn] at e; cases e)
theorem StC.pop {B g ob cap : Nat} {rb : Option Nat} {w w' : World} {C : List Opn} {c : Opn} (h : StC B g rb w (.slice (some ⟨ob, 0, none⟩) (C.length + 1) cap) (C ++ [c])) (hC0 : 0 < C.length) (hs : w.heap.size <= w'.heap.size) (hf : ∀ b, b < w.heap.size -> b ≠ g -> w'.heap[b]? = w.heap[b]?) :
  StC B g rb w' (.slice (some ⟨ob, 0, none⟩) C.length cap) C /\ ItmIn (Inn B g rb (.slice (some ⟨ob, 0, none⟩) C.length cap) C) w' c.x c.cs := by
 have h7 : ∀ d ∈ C, d.cs.length = 7 := fun d hd => (h.all d (by simp [hd])).len
 have hP : ∀ b, Inn B g rb (.slice (some ⟨ob, 0, none⟩) (C.length + 1) cap) (C ++ [c]) b -> b < w.heap.size -> Inn B g rb (.slice (some ⟨ob, 0, none⟩) C.length cap) C b := fun b hb hl =>
  ⟨hb.1, hb.2.1, hb.2.2.1, hb.2.2.2.1, fun d hd => hb.2.2.2.2 d (by simp [hd])⟩
 have hK : ∀ b, Inn B g rb (.slice (some ⟨ob, 0, none⟩) (C.length + 1) cap) (C ++ [c]) b -> b < w.heap.size -> w'.heap[b]? = w.heap[b]? := fun b hb hl => hf b hl hb.2.1
 have hrow : w.ownsRow B 54 7 (.slice (some ⟨ob, 0, none⟩) C.length cap) C.length (C.flatMap (·.cs)) := by
  have hr := h.row; rw [show (C ++ [c]).length = C.length + 1 by simp] at hr; obtain ⟨r1, r2⟩ := hr; refine ⟨flat_len C h7, ?_⟩; rcases r2 with ⟨q, -⟩ | ⟨g', cap', cur, q, q1, q2, q3, q4, q5, q6⟩
  ·cases q
  ·cases q
   refine .inr ⟨_, _, cur, rfl, q1, q2, by omega, q4, q5, ?_⟩; have := congrArg (List.take (C.length * 7)) q6; rw [List.take_take, List.flatMap_append, List.take_append_of_le_length (by rw [flat_len C h7]; exact Nat.le_refl _), List.take_of_length_le (l := C.flatMap _) (by rw [flat_len C h7]; exact Nat.le_refl _)] at this; rw [<- this]
   congr 1
   omega
 have hw := h.apart.two; rw [List.pairwise_append] at hw; refine ⟨⟨Nat.lt_of_lt_of_le h.gl hs, fun b e => Nat.lt_of_lt_of_le (h.rl b e) hs, own_moved hrow (fun k e => hf k (h.lt (.inl e)).2 (fun q => h.apart.vg (by subst q; exact e))), ⟨h.apart.vg, h.apart.vr, h.apart.rg, fun d hd b e => h.apart.one d (by simp [hd]) b e, hw.1⟩, fun d hd => ?_⟩, ?_⟩
 ·exact (h.all d (by simp [hd])).move hs hK hP (fun b e => hf b (h.lt (.inr ⟨d, by simp [hd], e⟩)).2 (h.apart.one d (by simp [hd]) b e).2.1)
 ·have h9 : OneAt (Inn B g rb (.slice (some ⟨ob, 0, none⟩) C.length cap) C) B w' c := (h.all c (by simp)).move hs hK hP (fun b e => hf b (h.lt (.inr ⟨c, by simp, e⟩)).2 (h.apart.one c (by simp) b e).2.1)
  refine h9.itm (fun _ q _ => q) (fun b e => ?_); have a1 := h.apart.one c (by simp) b e; exact ⟨(h.lt (.inr ⟨c, by simp, e⟩)).1, a1.2.1, a1.2.2, a1.1, fun d hd e2 => hw.2.2 d hd c (by simp) b e2 e⟩
def KeepR (B : Nat) (rb : Option Nat) (w w' : World) : Prop := Below B w w' /\ ∀ b, rb = some b -> w'.heap[b]? = w.heap[b]?
theorem KeepR.trans {B : Nat} {rb : Option Nat} {a b c : World} (h : KeepR B rb a b) (hs : B <= a.heap.size) (k : KeepR B rb b c) : KeepR B rb a c := ⟨h.1.trans k.1, fun x e => (k.2 x e).trans (h.2 x e)⟩
theorem addC_any {B g : Nat} {rb : Option Nat} {w : World} {v : Value} {C : List Opn} {c : Opn} {x : Itm} {xs : List Value} (a e : Int) (h : StC B g rb w v (C ++ [c])) (hp : PBox w g v a e) (hx : ItmIn (Inn B g rb v (C ++ [c])) w x xs) (hn : C.length <= 1000000) (hk : c.x.items.length <= 1000000) (hB : B <= w.heap.size) :
  Calls Tryz.prog 90 #[.pointer (some ⟨g, 0, none⟩), .agg xs.toArray] w fun r w' => r = .returned (.tuple #[]) /\ ∃ c', c'.x = c.x.add x /\ StC B g rb w' v (C ++ [c']) /\ PBox w' g v a e /\ KeepR B rb w w' := by
 have h7 : ∀ d ∈ C, d.cs.length = 7 := fun d hd => (h.all d (by simp [hd])).len; have hc := h.all c (by simp); obtain ⟨bb, n, ex, ls, vo, vt, vk, lv, L, q1, q2, q3, q4, q5, q6⟩ := hc; have hkL : L.length <= 1000000 := by rw [q1] at hk; simpa [Itm.items] using hk
 have hro := h.row; rw [show (C ++ [c]).length = C.length + 1 by simp] at hro
 obtain ⟨ob, oc, cur, rfl, -⟩ : ∃ ob oc, ∃ cur : Array Value, v = .slice (some ⟨ob, 0, none⟩) (C.length + 1) oc /\ True := by
  rcases hro.2 with ⟨-, q⟩ | ⟨g', cap', cur, q, -⟩
  ·omega
  ·exact ⟨g', cap', cur, q, trivial⟩
 obtain ⟨xn, xo, xt, va, vn, vc, la, ln, lc, ia, ik, ic, rfl⟩ := ItmIn.shape7 hx; have hA := h.apart.one c (by simp); have htop := (flat_top C c h7 6).trans (h.all c (by simp)).cell6; refine (add_any g ob oc C.length L.length B a e ((C ++ [c]).flatMap (·.cs)) (L.flatMap (·.2)) c.iv x.block xn xo xt va vn vc la ln lc ia ik ic w hp hro htop q5 (fun q => (hA ob q).1 rfl) (fun q => h.apart.vg (by rw [q]; rfl)) (fun q => (hA g q).2.1 rfl) hn hkL hB).mono ?_; rintro r w' ⟨rfl, g2, cap2, r1, r2, r3, r4, r5⟩; have hf : ∀ b, b < w.heap.size -> (Value.slice (some ⟨ob, 0, none⟩) (C.length + 1) oc).ownBlock ≠ some b -> c.iv.ownBlock ≠ some b -> w'.heap[b]? = w.heap[b]? := fun b hb h1 h2 => r5 b hb (fun q => h1 (by rw [q]; rfl)) h2; refine ⟨rfl, _, rfl, StC.add h hx q5 r1 r2 r3 r4.size hf, ?_, ?_, fun b eb => ?_⟩
 ·exact (hf g h.gl h.apart.vg (fun q => (hA g q).2.1 rfl)).trans hp
 ·exact ⟨r4.os, r4.tape, r4.output, r4.size, fun k hk => hf k (by omega) (fun q => by have := (h.lt (.inl q)).1; omega) (fun q => by have := (h.lt (.inr ⟨c, by simp, q⟩)).1; omega)⟩
 ·exact hf b (h.rl b eb) (fun q => h.apart.vr b q eb) (fun q => (hA b q).2.2 eb)
def PushE (B g n g3 cap3 : Nat) (a e : Int) (os xs : List Value) (v : Value) (W W' : World) : Prop :=
 W'.ownsRow B 54 7 (.slice (some ⟨g3, 0, none⟩) (n + 1) cap3) (n + 1) (os ++ xs) /\ PBox W' g (.slice (some ⟨g3, 0, none⟩) (n + 1) cap3) a e /\ (v.ownBlock = some g3 \/ g3 = W.heap.size) /\ Below 0 W W' /\ ∀ b, b < W.heap.size -> v.ownBlock ≠ some b -> b ≠ g -> W'.heap[b]? = W.heap[b]?
section
variable {B g n g3 cap3 : Nat} {a e : Int} {os xs : List Value} {v : Value} {W w3 : World}
theorem push_end1 (hx : xs.length = 7) (hL : os.length = n * 7) (hne : ¬ g3 = g) (h1 : w3.ownsRow B 54 7 (.slice (some ⟨g3, 0, none⟩) (n + 1) cap3) (n + 1) (os ++ zeroIC)) (h2 : W.grownBy w3 v.ownBlock) (hat : v.ownBlock = some g3 \/ g3 = W.heap.size)
  (h3 : Cells w3 g #[v, .int .i64 a, .int .i64 e] 83) : PushE B g n g3 cap3 a e os xs v W ((w3.setCells g3 (n * 7) xs).setCell ⟨g, 0, none⟩ (.slice (some ⟨g3, 0, none⟩) (n + 1) cap3)) := by
 have a1 := own_cells xs (n * 7) h1; rw [<- hL, setL_end xs zeroIC os (by rw [hx]; rfl), hL] at a1; have a2 := grown_cells g3 xs (n * 7) w3; have a3 := (h3.kept a2 (fun q => hne (Option.some.inj q).symm)).setI 0 (.slice (some ⟨g3, 0, none⟩) (n + 1) cap3); have a5 : (w3.setCells g3 (n * 7) xs).grownBy ((w3.setCells g3 (n * 7) xs).setCell ⟨g, 0, none⟩ (.slice (some ⟨g3, 0, none⟩) (n + 1) cap3)) (some g) := ⟨rfl, rfl, rfl, by simp [World.setCell], fun k _ hk => heap_setCell_other _ ⟨g, 0, none⟩ k _ (fun q => hk (by simp [q]))⟩; refine ⟨a1.kept a5 (.inr (fun q => hne (by simpa [Value.ownBlock] using q))), a3, hat, (((Below.refl 0 W).grown h2 (Nat.zero_le _) (fun _ _ => Nat.zero_le _)).grown a2 (Nat.zero_le _) (fun _ _ => Nat.zero_le _)).grown a5 (Nat.zero_le _) (fun _ _ => Nat.zero_le _), fun b hb h4 h5 => ?_⟩; have z2 := h2.size; have z3 := a2.size; rw [a5.block b (by omega) (fun q => h5 (Option.some.inj q)), a2.block b (by omega) (fun q => hat.elim (fun r => h4 (r.trans q.symm)) (fun r => by have := Option.some.inj q; omega)), h2.block b hb (fun q => h4 q.symm)]
theorem push_end2 (hx : xs.length = 7) (hL : os.length = n * 7) (hne : ¬ g3 = g) (h1 : w3.ownsRow B 54 7 (.slice (some ⟨g3, 0, none⟩) (n + 1) cap3) (n + 1) (os ++ zeroIC)) (h2 : W.grownBy w3 v.ownBlock) (hat : v.ownBlock = some g3 \/ g3 = W.heap.size)
  (h3 : Cells w3 g #[v, .int .i64 a, .int .i64 e] 83) : PushE B g n g3 cap3 a e os xs v W ((w3.setCell ⟨g, 0, none⟩ (.slice (some ⟨g3, 0, none⟩) (n + 1) cap3)).setCells g3 (n * 7) xs) := by
 have a5 : w3.grownBy (w3.setCell ⟨g, 0, none⟩ (.slice (some ⟨g3, 0, none⟩) (n + 1) cap3)) (some g) := ⟨rfl, rfl, rfl, by simp [World.setCell], fun k _ hk => heap_setCell_other _ ⟨g, 0, none⟩ k _ (fun q => hk (by simp [q]))⟩; have a1 := own_cells xs (n * 7) (h1.kept a5 (.inr (fun q => hne (by simpa [Value.ownBlock] using q)))); rw [<- hL, setL_end xs zeroIC os (by rw [hx]; rfl), hL] at a1; have a2 := grown_cells g3 xs (n * 7) (w3.setCell ⟨g, 0, none⟩ (.slice (some ⟨g3, 0, none⟩) (n + 1) cap3)); have a3 := (h3.setI 0 (.slice (some ⟨g3, 0, none⟩) (n + 1) cap3)).kept a2 (fun q => hne (Option.some.inj q).symm); refine ⟨a1, a3, hat, (((Below.refl 0 W).grown h2 (Nat.zero_le _) (fun _ _ => Nat.zero_le _)).grown a5 (Nat.zero_le _) (fun _ _ => Nat.zero_le _)).grown a2 (Nat.zero_le _) (fun _ _ => Nat.zero_le _), fun b hb h4 h5 => ?_⟩; have z2 := h2.size; have z3 := a5.size; rw [a2.block b (by omega) (fun q => hat.elim (fun r => h4 (r.trans q.symm)) (fun r => by have := Option.some.inj q; omega)), a5.block b (by omega) (fun q => h5 (Option.some.inj q)), h2.block b hb (fun q => h4 q.symm)]
theorem push_c1 {a0 a1 a2 a3 a4 a5 a6 : Value} (hL : os.length = n * 7) (hne : ¬ g3 = g) (h1 : w3.ownsRow B 54 7 (.slice (some ⟨g3, 0, none⟩) (n + 1) cap3) (n + 1) (os ++ zeroIC)) (h2 : W.grownBy w3 v.ownBlock) (hat : v.ownBlock = some g3 \/ g3 = W.heap.size)
  (h3 : Cells w3 g #[v, .int .i64 a, .int .i64 e] 83) : PushE B g n g3 cap3 a e os [a0, a1, a2, a3, a4, a5, a6] v W ((((((((w3.setCell ⟨g3, n * 7, none⟩ a0).setCell ⟨g3, n * 7 + 1, none⟩ a1).setCell ⟨g3, n * 7 + 2, none⟩ a2).setCell ⟨g3, n * 7 + 3, none⟩ a3).setCell ⟨g3, n * 7 + 4, none⟩ a4).setCell ⟨g3, n * 7 + 5, none⟩ a5).setCell ⟨g3, n * 7 + 6, none⟩ a6).setCell ⟨g, 0, none⟩ (.slice (some ⟨g3, 0, none⟩) (n + 1) cap3)) :=
 push_end1 (xs := [a0, a1, a2, a3, a4, a5, a6]) rfl hL hne h1 h2 hat h3
theorem push_c2 {a0 a1 a2 a3 a4 a5 a6 : Value} (hL : os.length = n * 7) (hne : ¬ g3 = g) (h1 : w3.ownsRow B 54 7 (.slice (some ⟨g3, 0, none⟩) (n + 1) cap3) (n + 1) (os ++ zeroIC)) (h2 : W.grownBy w3 v.ownBlock) (hat : v.ownBlock = some g3 \/ g3 = W.heap.size)
  (h3 : Cells w3 g #[v, .int .i64 a, .int .i64 e] 83) : PushE B g n g3 cap3 a e os [a0, a1, a2, a3, a4, a5, a6] v W ((((((((w3.setCell ⟨g, 0, none⟩ (.slice (some ⟨g3, 0, none⟩) (n + 1) cap3)).setCell ⟨g3, n * 7, none⟩ a0).setCell ⟨g3, n * 7 + 1, none⟩ a1).setCell ⟨g3, n * 7 + 2, none⟩ a2).setCell ⟨g3, n * 7 + 3, none⟩ a3).setCell ⟨g3, n * 7 + 4, none⟩ a4).setCell ⟨g3, n * 7 + 5, none⟩ a5).setCell ⟨g3, n * 7 + 6, none⟩ a6) :=
 push_end2 (xs := [a0, a1, a2, a3, a4, a5, a6]) rfl hL hne h1 h2 hat h3
end
theorem push_at {w : World} {B n g : Nat} {v : Value} {os : List Value} {a e : Int} (hb : B <= w.heap.size) (h1 : w.ownsRow B 54 7 v n os) (h2 : PBox w g v a e) :
  ((w.alloc (.cells zeroIC.toArray 54)).drew.ownsRow B 54 7 v n os) /\ (Cells (w.alloc (.cells zeroIC.toArray 54)).drew g #[v, .int .i64 a, .int .i64 e] 83) /\
  (∀ (j : Nat) (u : Value), zeroIC[j]? = some u -> (w.alloc (.cells zeroIC.toArray 54)).drew.cell? ⟨w.heap.size, j, none⟩ = some u) /\ B <= (w.alloc (.cells zeroIC.toArray 54)).drew.heap.size /\ (w.alloc (.cells zeroIC.toArray 54)).drew.heap.size = w.heap.size + 1 /\ Below w.heap.size w (w.alloc (.cells zeroIC.toArray 54)).drew :=
 have hA : Below w.heap.size w (w.alloc (.cells zeroIC.toArray 54)).drew := ((Below.refl _ w).alloc (Nat.le_refl _) _).drew
 ⟨show (w.alloc (.cells zeroIC.toArray 54)).ownsRow _ _ _ _ _ _ from h1.alloc _, h2.below hA h2.lt, fun j u hu => zero_at w rfl j u hu, Nat.le_trans hb hA.size, World.size_alloc w _, hA⟩
theorem push_far {v : Value} {g g3 H n : Nat} (h : v.ownBlock = some g3 \/ g3 = H) (hH : H = n + 1) (hne : v.ownBlock ≠ some g) (hl : g < n) : ¬ g3 = g := fun e => h.elim (fun q => hne (by rw [q, e])) (fun q => by omega)
theorem StC.inn {B g : Nat} {rb : Option Nat} {w : World} {v : Value} {C : List Opn} (h : StC B g rb w v C) (hB : B <= w.heap.size) (b : Nat) (hb : w.heap.size <= b) : Inn B g rb v C b :=
 ⟨Nat.le_trans hB hb, fun e => by have := h.gl; omega, fun e => by have := h.rl b e; omega, fun e => by have := (h.lt (.inl e)).2; omega, fun c hc e => by have := (h.lt (.inr ⟨c, hc, e⟩)).2; omega⟩
theorem StC.below {B g : Nat} {rb : Option Nat} {w w' : World} {v : Value} {C : List Opn} (h : StC B g rb w v C) (hb : Below w.heap.size w w') : StC B g rb w' v C :=
 h.keep hb.size (fun b hl _ _ => hb.block b hl) (fun b e => ⟨.inl e, Nat.lt_of_lt_of_le (h.rl b e) hb.size⟩)
theorem StC.save {B g : Nat} {rb : Option Nat} {w w' : World} {v : Value} {C : List Opn} (h : StC B g rb w v C) (hb : Save g w w') : StC B g rb w' v C :=
 h.keep hb.1.size (fun b hl h1 _ => hb.2 b hl h1) (fun b e => ⟨.inl e, Nat.lt_of_lt_of_le (h.rl b e) hb.1.size⟩)
def ReadP (B g : Nat) (rb : Option Nat) (r : List Itm × Int × Int) (w : World) (e : Ending) (w' : World) : Prop :=
 e = .returned (.tuple #[]) /\ ∃ v', StAt B g rb w' v' r.1 /\ PBox w' g v' r.2.1 r.2.2 /\ KeepR B rb w w'
theorem read_kind {B g : Nat} {rb : Option Nat} {w w4 : World} {v : Value} {C : List Opn} {x : Itm} {xs : List Value} {o : Obj} (h : StC B g rb w v C) (hB : B <= w.heap.size) (hg : B <= g) (hs : Save g (w.alloc o) w4) (hin : ItmIn (fun b => (w.alloc o).heap.size <= b) w4 x xs) :
  StC B g rb w4 v C /\ ItmIn (Inn B g rb v C) w4 x xs /\ KeepR B rb w w4 := by
 have hA : Below w.heap.size w (w.alloc o) := (Below.refl _ w).alloc (Nat.le_refl _) _; have h1 := h.below hA; refine ⟨h1.save hs, ItmIn.move (Nat.le_refl _) (fun _ _ _ => rfl) (fun b hb _ => h1.inn (Nat.le_trans hB hA.size) b hb) _ _ hin, ?_, fun b e => ?_⟩
 ·exact (hA.mono hB).trans ⟨hs.1.os, hs.1.tape, hs.1.output, hs.1.size, fun k hk => hs.2 k (by have := hA.size; omega) (by omega)⟩
 ·exact (hs.2 b (by have := h.rl b e; have := hA.size; omega) (fun q => h.apart.rg (by rw [e, q]))).trans (hA.block b (h.rl b e))
theorem read_next {B g : Nat} {rb : Option Nat} {w w4 w5 : World} {v : Value} {C : List Opn} {x : Itm} {xs : List Value} {a e : Int} {p : Prop} (h : StC B g rb w4 v C /\ PBox w4 g v a e /\ ItmIn (Inn B g rb v C) w4 x xs /\ KeepR B rb w w4 /\ p) (hb : Below w4.heap.size w4 w5) (hB : B <= w.heap.size) :
  StC B g rb w5 v C /\ PBox w5 g v a e /\ ItmIn (Inn B g rb v C) w5 x xs /\ KeepR B rb w w5 :=
 ⟨h.1.below hb, h.2.1.below hb h.1.gl, ItmIn.below hb _ _ h.2.2.1, h.2.2.2.1.trans hB ⟨hb.mono (Nat.le_trans hB h.2.2.2.1.1.size), fun b e => hb.block b (h.1.rl b e)⟩⟩
theorem push_done {B g n ob oc g3 cap3 : Nat} {rb : Option Nat} {w w5 W W' : World} {C : List Opn} {c : Opn} {x : Itm} {xs os : List Value} {a e : Int} (h : StC B g rb w5 (.slice (some ⟨ob, 0, none⟩) (C.length + 1) oc) (C ++ [c]) /\ PBox w5 g (.slice (some ⟨ob, 0, none⟩) (C.length + 1) oc) a e /\ ItmIn (Inn B g rb (.slice (some ⟨ob, 0, none⟩) (C.length + 1) oc) (C ++ [c])) w5 x xs /\ KeepR B rb w w5)
  (hg : B <= g) (h6 : xs[6]? = some (.slice none 0 0)) (hn : n = C.length + 1) (hos : os = (C ++ [c]).flatMap (·.cs)) (hB : B <= w.heap.size) (hW : Below w5.heap.size w5 W) (hs : W.heap.size = w5.heap.size + 1) (hE : PushE B g n g3 cap3 a e os xs (.slice (some ⟨ob, 0, none⟩) n oc) W W') :
  StC B g rb W' (.slice (some ⟨g3, 0, none⟩) (C.length + 1 + 1) cap3) ((C ++ [c]) ++ [⟨x, xs, .slice none 0 0⟩]) /\ PBox W' g (.slice (some ⟨g3, 0, none⟩) (C.length + 1 + 1) cap3) a e /\ KeepR B rb w W' := by
 subst hn; subst hos; obtain ⟨e1, e2, e3, e4, e5⟩ := hE; have hf : ∀ b, b < w5.heap.size -> (Value.slice (some ⟨ob, 0, none⟩) (C.length + 1) oc).ownBlock ≠ some b -> b ≠ g -> W'.heap[b]? = w5.heap[b]? := fun b hb h1 h2 => (e5 b (by omega) h1 h2).trans (hW.block b hb); have hsz : w5.heap.size <= W'.heap.size := by have := e4.size; omega
 have hl : (C ++ [c]).length = C.length + 1 := by simp
 have hB5 := Nat.le_trans hB h.2.2.2.1.size; have hp := StC.push (g2 := g3) (cap2 := cap3) (c := ⟨x, xs, .slice none 0 0⟩) h.1 (OneAt.fresh h.2.2.1 h6) rfl (by rw [hl]; exact e1) (e3.imp id (fun q => by omega)) hsz hf; rw [hl] at hp; refine ⟨hp, e2, h.2.2.2.trans hB ⟨⟨(e4.os).trans hW.os, (e4.tape).trans hW.tape, (e4.output).trans hW.output, hsz, fun k hk => hf k (by omega) (fun q => by have := (h.1.lt (.inl q)).1; omega) (fun q => ?_)⟩, fun b eb => hf b (h.1.rl b eb) (fun q => h.1.apart.vr b q eb) (fun q => h.1.apart.rg (by rw [eb, q]))⟩⟩; omega
theorem begin_done {B g n ob oc g3 cap3 : Nat} {rb : Option Nat} {w w5 W W' : World} {C : List Opn} {c : Opn} {x : Itm} {xs os : List Value} (h : StC B g rb w5 (.slice (some ⟨ob, 0, none⟩) (C.length + 1) oc) (C ++ [c]) /\ PBox w5 g (.slice (some ⟨ob, 0, none⟩) (C.length + 1) oc) 0 0 /\ ItmIn (Inn B g rb (.slice (some ⟨ob, 0, none⟩) (C.length + 1) oc) (C ++ [c])) w5 x xs /\ KeepR B rb w w5)
  (hg : B <= g) (h6 : xs[6]? = some (.slice none 0 0)) (hn : n = C.length + 1) (hos : os = (C ++ [c]).flatMap (·.cs)) (hB : B <= w.heap.size) (hW : Below w5.heap.size w5 W) (hs : W.heap.size = w5.heap.size + 1) (hE : PushE B g n g3 cap3 0 0 os xs (.slice (some ⟨ob, 0, none⟩) n oc) W W') :
  ReadP B g rb (readR ((C ++ [c]).map (·.x)) (.begins x)) w (.returned (.tuple #[])) W' := by
 obtain ⟨p1, p2, p3⟩ := push_done h hg h6 hn hos hB hW hs hE; exact ⟨rfl, _, ⟨_, by simp [readR], p1⟩, p2, p3⟩
theorem OneAt.shape {P : Nat -> Prop} {B : Nat} {w : World} {c : Opn} (h : OneAt P B w c) : ∃ (b : Bool) (n vo vt : ByteArray) (va : Option Addr) (vn vc : Nat) (la : Option Addr) (ln lc : Nat) (ia : Option Addr) (k cap : Nat), c.cs = [.bool b, .string n, .string vo, .string vt, .slice va vn vc, .slice la ln lc, .slice ia k cap] := by
 obtain ⟨b, n, e, ls, vo, vt, vk, lv, L, -, h2, h3, h4, h5, -⟩ := h; obtain ⟨va, vn, vc, rfl⟩ := exp_shape h3; obtain ⟨la, lc, rfl, -⟩ := h4.1.len; rcases h5.2 with ⟨q, -⟩ | ⟨g, cap, cur, q, -⟩
 ·rw [q] at h2; exact ⟨_, _, _, _, _, _, _, _, _, _, _, _, _, h2⟩
 ·rw [q] at h2; exact ⟨_, _, _, _, _, _, _, _, _, _, _, _, _, h2⟩
theorem top_at {B g ob oc : Nat} {rb : Option Nat} {w : World} {C : List Opn} {c : Opn} (h : StC B g rb w (.slice (some ⟨ob, 0, none⟩) (C.length + 1) oc) (C ++ [c])) (j : Nat) (u : Value) (hu : c.cs[j]? = some u) : w.cell? ⟨ob, C.length * 7 + j, none⟩ = some u := by
 have h7 : ∀ d ∈ C, d.cs.length = 7 := fun d hd => (h.all d (by simp [hd])).len; have hj : j < 7 := by have := (List.getElem?_eq_some_iff.1 hu).1; rw [(h.all c (by simp)).len] at this; exact this
 have hro := h.row; rw [show (C ++ [c]).length = C.length + 1 by simp] at hro; rw [hro.cellAt _ (by omega), flat_top C c h7 j, hu]
theorem read_nextT {B g : Nat} {rb : Option Nat} {w w4 w5 : World} {v : Value} {C : List Opn} {a e : Int} {p : Prop} (h : StC B g rb w4 v C /\ PBox w4 g v a e /\ p /\ KeepR B rb w w4) (hb : Below w4.heap.size w4 w5) (hB : B <= w.heap.size) :
  StC B g rb w5 v C /\ PBox w5 g v a e /\ True /\ KeepR B rb w w5 :=
 ⟨h.1.below hb, h.2.1.below hb h.1.gl, trivial, h.2.2.2.trans hB ⟨hb.mono (Nat.le_trans hB h.2.2.2.1.size), fun b e => hb.block b (h.1.rl b e)⟩⟩
theorem fin_call {B g ob oc m : Nat} {rb : Option Nat} {w wc : World} {C : List Opn} {c : Opn} {xs : List Value} {p : Prop} (h : StC B g rb wc (.slice (some ⟨ob, 0, none⟩) (C.length + 1) oc) (C ++ [c]) /\ PBox wc g (.slice (some ⟨ob, 0, none⟩) (C.length + 1) oc) 0 0 /\ p /\ KeepR B rb w wc)
  (hC0 : 0 < C.length) (hcs : c.cs = xs) (hC : C.length <= 900001) (hk : ∀ d ∈ C, d.x.items.length <= 900000) (hB : B <= w.heap.size) (hg : B <= g) (hm : m = C.length) :
  Calls Tryz.prog 90 #[.pointer (some ⟨g, 0, none⟩), .agg xs.toArray] (wc.setCell ⟨g, 0, none⟩ (.slice (some ⟨ob, 0, none⟩) m oc)).drew fun e w' => e = .returned (.tuple #[]) /\ ReadP B g rb (readR ((C ++ [c]).map (·.x)) .fin) w (.returned (.tuple #[])) w' := by
 subst hm; subst hcs; have hsz : wc.heap.size <= (wc.setCell ⟨g, 0, none⟩ (.slice (some ⟨ob, 0, none⟩) C.length oc)).drew.heap.size := by show _ <= (wc.setCell _ _).heap.size; simp [World.setCell]
 have hf : ∀ b, b < wc.heap.size -> b ≠ g -> (wc.setCell ⟨g, 0, none⟩ (.slice (some ⟨ob, 0, none⟩) C.length oc)).drew.heap[b]? = wc.heap[b]? := fun b _ hb => heap_setCell_other wc ⟨g, 0, none⟩ b _ hb; obtain ⟨h1, h2⟩ := h.1.pop (w' := (wc.setCell ⟨g, 0, none⟩ (.slice (some ⟨ob, 0, none⟩) C.length oc)).drew) hC0 hsz hf; have hp : PBox (wc.setCell ⟨g, 0, none⟩ (.slice (some ⟨ob, 0, none⟩) C.length oc)).drew g (.slice (some ⟨ob, 0, none⟩) C.length oc) 0 0 := h.2.1.setI 0 _; have hkp : KeepR B rb wc (wc.setCell ⟨g, 0, none⟩ (.slice (some ⟨ob, 0, none⟩) C.length oc)).drew := ⟨⟨rfl, rfl, rfl, hsz, fun k hk => hf k (Nat.lt_of_lt_of_le hk (Nat.le_trans hB h.2.2.2.1.size)) (by omega)⟩, fun b eb => hf b (h.1.rl b eb) (fun q => h.1.apart.rg (by rw [eb, q]))⟩; have hBc := Nat.le_trans hB h.2.2.2.1.size; generalize (wc.setCell ⟨g, 0, none⟩ (.slice (some ⟨ob, 0, none⟩) C.length oc)).drew = wd at *; rcases List.eq_nil_or_concat C with rfl | ⟨C1, d, hCd⟩
 ·simp at hC0
 ·rw [List.concat_eq_append] at hCd
  subst hCd; refine (addC_any 0 0 h1 hp h2 (by simp at hC; omega) (Nat.le_trans (hk d (by simp)) (by omega)) (Nat.le_trans hBc hsz)).mono ?_; rintro _ w' ⟨rfl, c2, e2, s2, p2, k2⟩; refine ⟨rfl, rfl, _, ⟨C1 ++ [c2], ?_, s2⟩, p2, (h.2.2.2.trans hB hkp).trans hB k2⟩; simp only [readR, List.map_append, List.map_cons, List.map_nil, List.dropLast_concat, List.getLast?_concat, Option.getD_some, e2]; exact addTop_snoc _ _ _
theorem wp_letter {P : Program} {code : Code} {Q : Exit -> Act -> World -> Prop} {a : Act} {W : World} {Pr : World -> Prop} (h : Pr W) (k : ∀ z, Pr z -> Code.wp P code Q a z) : Code.wp P code Q a W := k W h
theorem read_any (B g : Nat) (rb : Option Nat) (v : Value) (C : List Opn) (c : Opn) (row : List Tok) (lv : Value) (stop : Int) (last : Bool) (w : World) (hS : StC B g rb w v (C ++ [c])) (h : PBox w g v 0 0) (hr : ToksAt w lv row) (ho : ∀ b, lv.ownBlock = some b -> b < w.heap.size) (hT : LexT w) (hn : row.length <= 900000) (hsh : ∀ t ∈ row, t.text.size <= 1048576) (hq : ∀ t ∈ row, t.kind = 3 -> quoX t.text ≠ none)
  (hC : C.length <= 900000) (hk : ∀ d ∈ C ++ [c], d.x.items.length <= 900000) (hB : B <= w.heap.size) (hg : B <= g) :
  Calls Tryz.prog 49 #[.pointer (some ⟨g, 0, none⟩), lineV lv stop last] w (ReadP B g rb (readK ((C ++ [c]).map (·.x)) row stop last) w) := by
 obtain ⟨ob, oc, rfl⟩ : ∃ ob oc, v = .slice (some ⟨ob, 0, none⟩) (C.length + 1) oc := by
  have hro := hS.row; rw [show (C ++ [c]).length = C.length + 1 by simp] at hro; obtain ⟨g', cap', q, -⟩ := World.ownsRow.form hro (by omega); exact ⟨g', cap', q⟩
 rw [readK_R]; have hA : Below w.heap.size w (w.alloc (.cells #[lv, .int .i64 stop, .bool last] 86)) := (Below.refl _ w).alloc (Nat.le_refl _) _; have hK := kind_any g (some ⟨ob, 0, none⟩) (C.length + 1) oc row lv stop last _ (h.below hA hS.gl) (hr.below hA (Nat.le_refl _)) (fun b e => Nat.lt_of_lt_of_le (ho b e) hA.size) (hT.below hA) hn hsh hq; rw [show ((C ++ [c]).map (·.x)).length = C.length + 1 by simp]; have HF : Hid (lineK (C.length + 1) row stop last = .fin -> 0 < C.length) := Lib.hid (fun q => by have := lineK_fin q; omega); generalize lineK (C.length + 1) row stop last = R at *; obtain ⟨la, lc, rfl, hl1, hl2, -⟩ := hr.len; have HH := Lib.hid (And.intro hS (And.intro hB (And.intro hg (And.intro hC hk)))); clear hS h hr ho hT hn hsh hq hC hk hB hA; generalize row.length = N at *; simp only [lineV] at hK; go_enter Tryz.func49, Tryz.ntmps49; go_wp2_with fail; refine hK.mono ?_; clear hK; rintro _ w4 ⟨hsv, p4, cs, rfl, hin, hi6⟩; obtain ⟨h4, hin4, hkp⟩ := read_kind HH.out.1 HH.out.2.1 HH.out.2.2.1 hsv hin; obtain ⟨xn, xo, xt, va, vn, vc, xla, ln, xlc, ia, ik, ic, rfl⟩ := ItmIn.shape7 hin; simp only [List.getElem?_cons_succ, List.getElem?_cons_zero, Option.some.injEq, Value.slice.injEq] at hi6; obtain ⟨rfl, rfl, rfl⟩ := hi6; clear hsv hin; have HX := Lib.hid (And.intro h4 (And.intro p4 (And.intro hin4 (And.intro hkp trivial)))); clear h4 p4 hin4 hkp; generalize (lnX R).block = xb at *; go_wp2_with (with_reducible first | refine stop_store ?_)
 refine Stop.out ?_; refine wpList_store_all rfl 54 _ _ rfl rfl _ rfl #[.bool xb, .string xn, .string xo, .string xt, .slice va vn vc, .slice xla ln xlc, .slice none 0 0] rfl _ _ (Cells.new w4 zeroIC.toArray 54) rfl (by kernel_rfl) (one7 _ _ _ _ _ _ _ _ _ _ _ _ _) ?_; rw [World.setRow_alloc_new]; have hb5 : Below w4.heap.size w4 (w4.alloc (.cells #[.bool xb, .string xn, .string xo, .string xt, .slice va vn vc, .slice xla ln xlc, .slice none 0 0] 54)) := (Below.refl _ w4).alloc (Nat.le_refl _) _; have hq5 : Cells (w4.alloc (.cells #[.bool xb, .string xn, .string xo, .string xt, .slice va vn vc, .slice xla ln xlc, .slice none 0 0] 54)) w4.heap.size #[.bool xb, .string xn, .string xo, .string xt, .slice va vn vc, .slice xla ln xlc, .slice none 0 0] 54 := Cells.new w4 #[.bool xb, .string xn, .string xo, .string xt, .slice va vn vc, .slice xla ln xlc, .slice none 0 0] 54; have HX := Lib.hid (read_next HX.out hb5 HH.out.2.1); have hq5l := hq5.lt; generalize w4.alloc (.cells #[.bool xb, .string xn, .string xo, .string xt, .slice va vn vc, .slice xla ln xlc, .slice none 0 0] 54) = w5 at *; have HQ := Lib.hid hq5; clear hb5
 cases R with
 | wrong a e =>
  simp only [lnK]; clear hq5; go_wp2_with fail; refine bodyPost_end (v := .tuple #[]) (by simp [results, Tryz.results49, go_sem]) rfl ?_; exact ⟨rfl, _, ⟨_, rfl, HX.out.1⟩, HX.out.2.1, HX.out.2.2.2⟩
 | empty =>
  simp only [lnK]; clear hq5; go_wp2_with fail; refine bodyPost_end (v := .tuple #[]) (by simp [results, Tryz.results49, go_sem]) rfl ?_; exact ⟨rfl, _, ⟨_, rfl, HX.out.1⟩, HX.out.2.1, HX.out.2.2.2⟩
 | attr x =>
  simp only [lnK]; have hC := addC_any _ _ HX.out.1 HX.out.2.1 HX.out.2.2.1 (Nat.le_trans HH.out.2.2.2.1 (by omega)) (Nat.le_trans (HH.out.2.2.2.2 c (by simp)) (by omega)) (Nat.le_trans HH.out.2.1 HX.out.2.2.2.1.size); have hq5c0 := hq5.cell 0 _ rfl; have hq5f0 := hq5.frozen 0; have hq5c1 := hq5.cell 1 _ rfl; have hq5f1 := hq5.frozen 1; have hq5c2 := hq5.cell 2 _ rfl; have hq5f2 := hq5.frozen 2; have hq5c3 := hq5.cell 3 _ rfl; have hq5f3 := hq5.frozen 3; have hq5c4 := hq5.cell 4 _ rfl; have hq5f4 := hq5.frozen 4; have hq5c5 := hq5.cell 5 _ rfl; have hq5f5 := hq5.frozen 5; have hq5c6 := hq5.cell 6 _ rfl; have hq5f6 := hq5.frozen 6; clear hq5; go_wp2_with fail; refine hC.mono ?_; clear hC; rintro _ w6 ⟨rfl, c2, e2, s2, p2, k2⟩; have H6 := Lib.hid (And.intro e2 (And.intro s2 (And.intro p2 k2))); clear e2 s2 p2 k2 hq5c0 hq5c1 hq5c2 hq5c3 hq5c4 hq5c5 hq5c6 hq5f0 hq5f1 hq5f2 hq5f3 hq5f4 hq5f5 hq5f6; go_wp2_with fail; refine bodyPost_end (v := .tuple #[]) (by simp [results, Tryz.results49, go_sem]) rfl ?_; refine ⟨rfl, _, ⟨C ++ [c2], ?_, H6.out.2.1⟩, H6.out.2.2.1, HX.out.2.2.2.trans HH.out.2.1 H6.out.2.2.2⟩; simp only [readR, List.map_append, List.map_cons, List.map_nil, H6.out.1]; exact addTop_snoc _ _ _
 | begins x =>
  simp only [lnK]; have hq5c0 := hq5.cell 0 _ rfl; have hq5f0 := hq5.frozen 0; have hq5c1 := hq5.cell 1 _ rfl; have hq5f1 := hq5.frozen 1; have hq5c2 := hq5.cell 2 _ rfl; have hq5f2 := hq5.frozen 2; have hq5c3 := hq5.cell 3 _ rfl; have hq5f3 := hq5.frozen 3; have hq5c4 := hq5.cell 4 _ rfl; have hq5f4 := hq5.frozen 4; have hq5c5 := hq5.cell 5 _ rfl; have hq5f5 := hq5.frozen 5; have hq5c6 := hq5.cell 6 _ rfl; have hq5f6 := hq5.frozen 6; clear hq5; obtain ⟨i0, hi0, hi1⟩ := Option.map_eq_some_iff.1 Tryz.infoItm; simp only [Prod.mk.injEq] at hi1; obtain ⟨hz0, hz1, hz2⟩ := hi1
  obtain ⟨n, os, v, HV, hn9, HL, HQ2, hpc, hvg⟩ : ∃ (n : Nat) (os : List Value) (v : Value), Hid (n = C.length + 1 /\ os = (C ++ [c]).flatMap (·.cs) /\ v = .slice (some ⟨ob, 0, none⟩) n oc) /\ n <= 1000000 /\ Hid (os.length = n * 7) /\
    Hid (((w5.alloc (.cells zeroIC.toArray 54)).drew.ownsRow B 54 7 (.slice (some ⟨ob, 0, none⟩) n oc) n os) /\ (Cells (w5.alloc (.cells zeroIC.toArray 54)).drew g #[.slice (some ⟨ob, 0, none⟩) n oc, .int .i64 0, .int .i64 0] 83) /\
    (∀ (j : Nat) (u : Value), zeroIC[j]? = some u -> (w5.alloc (.cells zeroIC.toArray 54)).drew.cell? ⟨w5.heap.size, j, none⟩ = some u) /\ B <= (w5.alloc (.cells zeroIC.toArray 54)).drew.heap.size /\ (w5.alloc (.cells zeroIC.toArray 54)).drew.heap.size = w5.heap.size + 1 /\ Below w5.heap.size w5 (w5.alloc (.cells zeroIC.toArray 54)).drew) /\
    w5.cell? ⟨g, 0, none⟩ = some (.slice (some ⟨ob, 0, none⟩) n oc) /\ ¬ ob = g := by
   have hr := HX.out.1.row; rw [show (C ++ [c]).length = C.length + 1 by simp] at hr; exact ⟨_, _, _, Lib.hid ⟨rfl, rfl, rfl⟩, by have := HH.out.2.2.2.1; omega, Lib.hid hr.1, Lib.hid (push_at (Nat.le_trans HH.out.2.1 HX.out.2.2.2.1.size) hr HX.out.2.1), HX.out.2.1.cell 0 _ rfl, fun q => HX.out.1.apart.vg (by rw [q]; rfl)⟩
  have hg5 := HX.out.1.gl; have hkk : (n : Int) < (n : Int) + 1 := by omega
  go_wp2_with fail
  go_region_law (first
   | (refine step_append_lies _ rfl _ _ 42 rfl B 54 i0 _ 7 128 Tryz.underlying42 hi0 hz0 hz1 hz2 rfl (by decide) (.slice (some ⟨ob, 0, none⟩) n oc) n os (by rfl) (by exact HQ2.out.1) ⟨w5.heap.size, 0, none⟩ 1 1 zeroIC (by rfl) rfl (by intro j u hu; rw [Addr.add_lit, Nat.zero_add]; exact HQ2.out.2.2.1 j u hu) zeroIC_one (by omega) (by unfold maxLen; omega) (by omega) (by exact HQ2.out.2.2.2.1) _ rfl ?_; intro g3 cap3 w3 hown3 hgrow3 hat3 hlt3; have hgp := HQ2.out.2.1.kept hgrow3 (fun q => hvg (Option.some.inj q).symm); have o7c := hgp.cell 0 _ rfl; have o7f := hgp.frozen 0; have m0 := new_at0 hown3 HL.out; have m0f := hown3.frozenAt (n * 7); have m1 := new_at hown3 HL.out 1 _ rfl; have m1f := hown3.frozenAt (n * 7 + 1); have m2 := new_at hown3 HL.out 2 _ rfl; have m2f := hown3.frozenAt (n * 7 + 2); have m3 := new_at hown3 HL.out 3 _ rfl; have m3f := hown3.frozenAt (n * 7 + 3); have m4 := new_at hown3 HL.out 4 _ rfl; have m4f := hown3.frozenAt (n * 7 + 4); have m5 := new_at hown3 HL.out 5 _ rfl; have m5f := hown3.frozenAt (n * 7 + 5); have m6 := new_at hown3 HL.out 6 _ rfl; have m6f := hown3.frozenAt (n * 7 + 6); have hg3 := push_far hat3 HQ2.out.2.2.2.2.1 (fun q => hvg (Option.some.inj q)) hg5; have hg3' : ¬ g = g3 := fun e => hg3 e.symm; have HG := Lib.hid (And.intro hown3 (And.intro hgrow3 (And.intro hat3 hgp))); clear hown3 hgrow3 hat3 hgp))
  all_goals
   go_wp2_with fail
  all_goals
   refine bodyPost_end (v := .tuple #[]) (by simp [results, Tryz.results49, go_sem]) rfl ?_
  all_goals
   obtain ⟨q1, q2, q3, q4⟩ := HG.out; refine begin_done (g3 := g3) (cap3 := cap3) (xs := [.bool xb, .string xn, .string xo, .string xt, .slice va vn vc, .slice xla ln xlc, .slice none 0 0]) HX.out HH.out.2.2.1 rfl HV.out.1 HV.out.2.1 HH.out.2.1 HQ2.out.2.2.2.2.2 HQ2.out.2.2.2.2.1 ?_
   first
    | with_reducible exact push_c1 HL.out hg3 q1 q2 q3 q4
    | with_reducible exact push_c2 HL.out hg3 q1 q2 q3 q4
 | bare x =>
  simp only [lnK]; have hq5c0 := hq5.cell 0 _ rfl; have hq5f0 := hq5.frozen 0; have hq5c1 := hq5.cell 1 _ rfl; have hq5f1 := hq5.frozen 1; have hq5c2 := hq5.cell 2 _ rfl; have hq5f2 := hq5.frozen 2; have hq5c3 := hq5.cell 3 _ rfl; have hq5f3 := hq5.frozen 3; have hq5c4 := hq5.cell 4 _ rfl; have hq5f4 := hq5.frozen 4; have hq5c5 := hq5.cell 5 _ rfl; have hq5f5 := hq5.frozen 5; have hq5c6 := hq5.cell 6 _ rfl; have hq5f6 := hq5.frozen 6; clear hq5; obtain ⟨i0, hi0, hi1⟩ := Option.map_eq_some_iff.1 Tryz.infoItm; simp only [Prod.mk.injEq] at hi1; obtain ⟨hz0, hz1, hz2⟩ := hi1
  obtain ⟨n, os, v, HV, hn9, HL, HQ2, hpc, hvg⟩ : ∃ (n : Nat) (os : List Value) (v : Value), Hid (n = C.length + 1 /\ os = (C ++ [c]).flatMap (·.cs) /\ v = .slice (some ⟨ob, 0, none⟩) n oc) /\ n <= 1000000 /\ Hid (os.length = n * 7) /\
    Hid (((w5.alloc (.cells zeroIC.toArray 54)).drew.ownsRow B 54 7 (.slice (some ⟨ob, 0, none⟩) n oc) n os) /\ (Cells (w5.alloc (.cells zeroIC.toArray 54)).drew g #[.slice (some ⟨ob, 0, none⟩) n oc, .int .i64 0, .int .i64 0] 83) /\
    (∀ (j : Nat) (u : Value), zeroIC[j]? = some u -> (w5.alloc (.cells zeroIC.toArray 54)).drew.cell? ⟨w5.heap.size, j, none⟩ = some u) /\ B <= (w5.alloc (.cells zeroIC.toArray 54)).drew.heap.size /\ (w5.alloc (.cells zeroIC.toArray 54)).drew.heap.size = w5.heap.size + 1 /\ Below w5.heap.size w5 (w5.alloc (.cells zeroIC.toArray 54)).drew) /\
    w5.cell? ⟨g, 0, none⟩ = some (.slice (some ⟨ob, 0, none⟩) n oc) /\ ¬ ob = g := by
   have hr := HX.out.1.row; rw [show (C ++ [c]).length = C.length + 1 by simp] at hr; exact ⟨_, _, _, Lib.hid ⟨rfl, rfl, rfl⟩, by have := HH.out.2.2.2.1; omega, Lib.hid hr.1, Lib.hid (push_at (Nat.le_trans HH.out.2.1 HX.out.2.2.2.1.size) hr HX.out.2.1), HX.out.2.1.cell 0 _ rfl, fun q => HX.out.1.apart.vg (by rw [q]; rfl)⟩
  have hg5 := HX.out.1.gl; have hkk : (n : Int) < (n : Int) + 1 := by omega
  go_wp2_with fail
  go_region_law (first
   | (refine step_append_lies _ rfl _ _ 42 rfl B 54 i0 _ 7 128 Tryz.underlying42 hi0 hz0 hz1 hz2 rfl (by decide) (.slice (some ⟨ob, 0, none⟩) n oc) n os (by rfl) (by exact HQ2.out.1) ⟨w5.heap.size, 0, none⟩ 1 1 zeroIC (by rfl) rfl (by intro j u hu; rw [Addr.add_lit, Nat.zero_add]; exact HQ2.out.2.2.1 j u hu) zeroIC_one (by omega) (by unfold maxLen; omega) (by omega) (by exact HQ2.out.2.2.2.1) _ rfl ?_; intro g3 cap3 w3 hown3 hgrow3 hat3 hlt3; have hgp := HQ2.out.2.1.kept hgrow3 (fun q => hvg (Option.some.inj q).symm); have o7c := hgp.cell 0 _ rfl; have o7f := hgp.frozen 0; have m0 := new_at0 hown3 HL.out; have m0f := hown3.frozenAt (n * 7); have m1 := new_at hown3 HL.out 1 _ rfl; have m1f := hown3.frozenAt (n * 7 + 1); have m2 := new_at hown3 HL.out 2 _ rfl; have m2f := hown3.frozenAt (n * 7 + 2); have m3 := new_at hown3 HL.out 3 _ rfl; have m3f := hown3.frozenAt (n * 7 + 3); have m4 := new_at hown3 HL.out 4 _ rfl; have m4f := hown3.frozenAt (n * 7 + 4); have m5 := new_at hown3 HL.out 5 _ rfl; have m5f := hown3.frozenAt (n * 7 + 5); have m6 := new_at hown3 HL.out 6 _ rfl; have m6f := hown3.frozenAt (n * 7 + 6); have hg3 := push_far hat3 HQ2.out.2.2.2.2.1 (fun q => hvg (Option.some.inj q)) hg5; have hg3' : ¬ g = g3 := fun e => hg3 e.symm; have HG := Lib.hid (And.intro hown3 (And.intro hgrow3 (And.intro hat3 hgp))); clear hown3 hgrow3 hat3 hgp))
  all_goals go_upto_region 10 with fail
  all_goals
   obtain ⟨q1, q2, q3, q4⟩ := HG.out
   refine wp_letter (Pr := PushE B g n g3 cap3 0 0 os [.bool xb, .string xn, .string xo, .string xt, .slice va vn vc, .slice xla ln xlc, .slice none 0 0] (.slice (some ⟨ob, 0, none⟩) n oc) (w5.alloc (.cells zeroIC.toArray 54)).drew) (by
    first
     | with_reducible exact push_c1 HL.out hg3 q1 q2 q3 q4
     | with_reducible exact push_c2 HL.out hg3 q1 q2 q3 q4) (fun wc hE => ?_)
   clear q1 q2 q3 q4 HG m0 m1 m2 m3 m4 m5 m6 m0f m1f m2f m3f m4f m5f m6f o7c o7f; obtain ⟨p1, p2, p3⟩ := push_done HX.out HH.out.2.2.1 rfl HV.out.1 HV.out.2.1 HH.out.2.1 HQ2.out.2.2.2.2.2 HQ2.out.2.2.2.2.1 hE; have hx9 : (Opn.mk (lnX (LnR.bare x)) [.bool xb, .string xn, .string xo, .string xt, .slice va vn vc, .slice xla ln xlc, .slice none 0 0] (.slice none 0 0)).x = x := rfl; generalize (Opn.mk (lnX (LnR.bare x)) [.bool xb, .string xn, .string xo, .string xt, .slice va vn vc, .slice xla ln xlc, .slice none 0 0] (.slice none 0 0)) = c9 at *; have HX9 := Lib.hid hx9; clear hx9; have hlC : (C ++ [c]).length = C.length + 1 := by simp
   rw [<- hlC] at p1 p2; have HX5 := Lib.hid (And.intro p1 (And.intro p2 (And.intro trivial p3))); have HLC := Lib.hid hlC; clear p1 p2 p3 hE hlC hpc hvg hg5 hkk; clear hq5c0 hq5c1 hq5c2 hq5c3 hq5c4 hq5c5 hq5c6 hq5f0 hq5f1 hq5f2 hq5f3 hq5f4 hq5f5 hq5f6; have HX := HX5; clear HX5; obtain ⟨tb, tn, tO, tt, ta, t1, t2, tla, t3, t4, tia, t5, t6, hcs⟩ := (HX.out.1.all c9 (by simp)).shape
   obtain ⟨n2, m, HV, hm9, hnm, hmn, hpc, f0, f1, f2, f3, f4, f5, f6⟩ : ∃ (n2 m : Nat), Hid (n2 = (C ++ [c]).length + 1 /\ m = (C ++ [c]).length) /\ m <= 1000000 /\ (n2 : Int) - 1 = (m : Int) /\ m < n2 /\ wc.cell? ⟨g, 0, none⟩ = some (.slice (some ⟨g3, 0, none⟩) n2 cap3) /\ wc.cell? ⟨g3, m * 7, none⟩ = some (.bool tb) /\ wc.cell? ⟨g3, m * 7 + 1, none⟩ = some (.string tn) /\ wc.cell? ⟨g3, m * 7 + 2, none⟩ = some (.string tO) /\
     wc.cell? ⟨g3, m * 7 + 3, none⟩ = some (.string tt) /\ wc.cell? ⟨g3, m * 7 + 4, none⟩ = some (.slice ta t1 t2) /\ wc.cell? ⟨g3, m * 7 + 5, none⟩ = some (.slice tla t3 t4) /\ wc.cell? ⟨g3, m * 7 + 6, none⟩ = some (.slice tia t5 t6) := by
    have ht := top_at HX.out.1; rw [hcs] at ht; exact ⟨_, _, Lib.hid ⟨rfl, rfl⟩, by have := HH.out.2.2.2.1; rw [HLC.out]; omega, by omega, by omega, HX.out.2.1.cell 0 _ rfl, ht 0 _ rfl, ht 1 _ rfl, ht 2 _ rfl, ht 3 _ rfl, ht 4 _ rfl, ht 5 _ rfl, ht 6 _ rfl⟩
   have hg5 := HX.out.1.gl; have HCS := Lib.hid (And.intro hcs trivial); have hob5 : g3 < wc.heap.size := (HX.out.1.lt (.inl rfl)).2; clear hcs; go_cut [6] (fun x wk => ∃ p6 : Nat, x = .pointer (some ⟨p6, 0, none⟩) /\ Cells wk p6 #[.bool tb, .string tn, .string tO, .string tt, .slice ta t1 t2, .slice tla t3 t4, .slice tia t5 t6] 54 /\ ¬ p6 = g /\ Below wc.heap.size wc wk)
   case first =>
    go_region
    all_goals go_wp2_with fail
    all_goals go_meet
    all_goals exact ⟨_, rfl, (Cells.new _ _ _).drew, by omega, ((Below.refl _ _).alloc (Nat.le_refl _) _).drew⟩
   case rest =>
    obtain ⟨p6, rfl, k6, hp6, hb6⟩ := hcut; have HX6 := Lib.hid (read_nextT ⟨HX.out.1, HX.out.2.1, trivial, HX.out.2.2.2⟩ hb6 HH.out.2.1); have hpc6 := HX6.out.2.1.cell 0 _ rfl; have hpf6 := HX6.out.2.1.frozen 0; have hg6 := HX6.out.1.gl
    have hmo : m <= cap3 := by
     have hr := HX6.out.1.row; rcases hr.2 with ⟨q, -⟩ | ⟨_, _, _, q, -, -, q3, -⟩
     ·cases q
     ·injection q with _ q1 q2
      have := HV.out; omega
    have h6l := k6.lt; rw [<- HV.out.1] at hpc6; have HK6 := Lib.hid k6; have hp6' : ¬ g = p6 := fun e => hp6 e.symm; clear hpc f0 f1 f2 f3 f4 f5 f6 hb6; have k6c0 := k6.cell 0 _ rfl; have k6f0 := k6.frozen 0; have k6c1 := k6.cell 1 _ rfl; have k6f1 := k6.frozen 1; have k6c2 := k6.cell 2 _ rfl; have k6f2 := k6.frozen 2; have k6c3 := k6.cell 3 _ rfl; have k6f3 := k6.frozen 3; have k6c4 := k6.cell 4 _ rfl; have k6f4 := k6.frozen 4; have k6c5 := k6.cell 5 _ rfl; have k6f5 := k6.frozen 5; have k6c6 := k6.cell 6 _ rfl; have k6f6 := k6.frozen 6; clear k6; go_wp2_with fail; go_region
    all_goals go_wp2_with fail
    all_goals
     have hA := fin_call (xs := [.bool tb, .string tn, .string tO, .string tt, .slice ta t1 t2, .slice tla t3 t4, .slice tia t5 t6]) ⟨HX6.out.1, HX6.out.2.1, HX6.out.2.2.1, HX6.out.2.2.2⟩ (by simp) HCS.out.1 (by have := HH.out.2.2.2.1; rw [HLC.out]; omega) HH.out.2.2.2.2 HH.out.2.1 HH.out.2.2.1 HV.out.2; refine hA.mono ?_; clear hA; rintro _ w9 ⟨rfl, hR9⟩; have HR9 := Lib.hid hR9; clear hR9; go_wp2_with fail; refine bodyPost_end (v := .tuple #[]) (by simp [results, Tryz.results49, go_sem]) rfl ?_; have hR9 := HR9.out; rw [List.map_append (l₁ := C ++ [c]), List.map_cons, List.map_nil, readR_bare, HX9.out] at hR9; exact hR9
 | fin =>
  simp only [lnK]; have hC0 := HF.out rfl; obtain ⟨tb, tn, tO, tt, ta, t1, t2, tla, t3, t4, tia, t5, t6, hcs⟩ := (HX.out.1.all c (by simp)).shape
  obtain ⟨n, m, HV, hm9, hnm, hmn, hpc, f0, f1, f2, f3, f4, f5, f6⟩ : ∃ (n m : Nat), Hid (n = C.length + 1 /\ m = C.length) /\ m <= 1000000 /\ (n : Int) - 1 = (m : Int) /\ m < n /\ w5.cell? ⟨g, 0, none⟩ = some (.slice (some ⟨ob, 0, none⟩) n oc) /\ w5.cell? ⟨ob, m * 7, none⟩ = some (.bool tb) /\ w5.cell? ⟨ob, m * 7 + 1, none⟩ = some (.string tn) /\ w5.cell? ⟨ob, m * 7 + 2, none⟩ = some (.string tO) /\
    w5.cell? ⟨ob, m * 7 + 3, none⟩ = some (.string tt) /\ w5.cell? ⟨ob, m * 7 + 4, none⟩ = some (.slice ta t1 t2) /\ w5.cell? ⟨ob, m * 7 + 5, none⟩ = some (.slice tla t3 t4) /\ w5.cell? ⟨ob, m * 7 + 6, none⟩ = some (.slice tia t5 t6) := by
   have ht := top_at HX.out.1; rw [hcs] at ht; exact ⟨_, _, Lib.hid ⟨rfl, rfl⟩, by have := HH.out.2.2.2.1; omega, by omega, by omega, HX.out.2.1.cell 0 _ rfl, ht 0 _ rfl, ht 1 _ rfl, ht 2 _ rfl, ht 3 _ rfl, ht 4 _ rfl, ht 5 _ rfl, ht 6 _ rfl⟩
  have hg5 := HX.out.1.gl; have HCS := Lib.hid (And.intro hcs hC0); have hob5 : ob < w5.heap.size := (HX.out.1.lt (.inl rfl)).2; clear hq5 hcs hC0; go_upto_region 10 with fail
  go_cut [6] (fun x wc => ∃ p6 : Nat, x = .pointer (some ⟨p6, 0, none⟩) /\ Cells wc p6 #[.bool tb, .string tn, .string tO, .string tt, .slice ta t1 t2, .slice tla t3 t4, .slice tia t5 t6] 54 /\ ¬ p6 = g /\ Below w5.heap.size w5 wc)
  case first =>
   go_region
   all_goals go_wp2_with fail
   all_goals go_meet
   all_goals exact ⟨_, rfl, (Cells.new _ _ _).drew, by omega, ((Below.refl _ _).alloc (Nat.le_refl _) _).drew⟩
  case rest =>
   obtain ⟨p6, rfl, k6, hp6, hb6⟩ := hcut; have HX6 := Lib.hid (read_next (p := True) ⟨HX.out.1, HX.out.2.1, HX.out.2.2.1, HX.out.2.2.2, trivial⟩ hb6 HH.out.2.1); have hpc6 := HX6.out.2.1.cell 0 _ rfl; have hpf6 := HX6.out.2.1.frozen 0; have hg6 := HX6.out.1.gl
   have hmo : m <= oc := by
    have hr := HX6.out.1.row; rcases hr.2 with ⟨q, -⟩ | ⟨_, _, _, q, -, -, q3, -⟩
    ·cases q
    ·injection q with _ q1 q2
     have := HV.out; omega
   have h6l := k6.lt; rw [<- HV.out.1] at hpc6; have HK6 := Lib.hid k6; have hp6' : ¬ g = p6 := fun e => hp6 e.symm; clear hpc f0 f1 f2 f3 f4 f5 f6 hb6; have k6c0 := k6.cell 0 _ rfl; have k6f0 := k6.frozen 0; have k6c1 := k6.cell 1 _ rfl; have k6f1 := k6.frozen 1; have k6c2 := k6.cell 2 _ rfl; have k6f2 := k6.frozen 2; have k6c3 := k6.cell 3 _ rfl; have k6f3 := k6.frozen 3; have k6c4 := k6.cell 4 _ rfl; have k6f4 := k6.frozen 4; have k6c5 := k6.cell 5 _ rfl; have k6f5 := k6.frozen 5; have k6c6 := k6.cell 6 _ rfl; have k6f6 := k6.frozen 6; clear k6; go_wp2_with fail; go_region
   all_goals go_wp2_with fail
   all_goals
    have hA := fin_call (xs := [.bool tb, .string tn, .string tO, .string tt, .slice ta t1 t2, .slice tla t3 t4, .slice tia t5 t6]) ⟨HX6.out.1, HX6.out.2.1, HX6.out.2.2.1, HX6.out.2.2.2⟩ HCS.out.2 HCS.out.1 (Nat.le_succ_of_le HH.out.2.2.2.1) (fun d hd => HH.out.2.2.2.2 d (by simp [hd])) HH.out.2.1 HH.out.2.2.1 HV.out.2; refine hA.mono ?_; clear hA; rintro _ w9 ⟨rfl, hR9⟩; have HR9 := Lib.hid hR9; clear hR9; go_wp2_with fail; refine bodyPost_end (v := .tuple #[]) (by simp [results, Tryz.results49, go_sem]) rfl ?_; exact HR9.out
end Go.Proofs.YtbcdaaobbebooaaGreatDoor
namespace Go.Proofs.YtbcdaaobbebooaaGreatDoor
set_option maxRecDepth 100000
set_option maxHeartbeats 20000000
def KT (f : Tok -> Tok) : Prop := ∀ t, (f t).kind = t.kind /\ (f t).text = t.text
section
variable {f : Tok -> Tok} (hf : KT f)
include hf
omit hf in
end
theorem Itm.add_items (t x : Itm) : (t.add x).items = t.items ++ [x] := by cases t; rfl
theorem readR_fin {n : Nat} {row : List Tok} {stop : Int} {last : Bool} {st : List Itm} (hl : st.length = n) (h : lineK n row stop last = .fin) : st.length ≠ 1 := by
 rw [hl]; exact lineK_fin h
theorem lackR_ne (row : List Tok) (stop : Int) (last : Bool) (i : Nat) : ∃ a e, e ≠ 0 /\ lackR row stop last i = .wrong a e := by
 unfold lackR; split
 ·exact ⟨_, 3, by decide, rfl⟩
 ·split
  ·exact ⟨_, 2, by decide, rfl⟩
  ·exact ⟨_, 3, by decide, rfl⟩
theorem addTop_ne {st : List Itm} (h : st ≠ []) (x : Itm) : addTop st x ≠ [] := fun e => by
 have := addTop_len st x; rw [e] at this; exact h (List.eq_nil_of_length_eq_zero this.symm)
theorem readK_ne {st : List Itm} (hs : st ≠ []) (row : List Tok) (stop : Int) (last : Bool) : (readK st row stop last).1 ≠ [] := by
 rw [readK_R]; have hf := fun e => readR_fin (st := st) (row := row) (stop := stop) (last := last) rfl e
 revert hf
 cases lineK st.length row stop last with
 | wrong a e => intro _; exact hs
 | empty => intro _; exact hs
 | attr x => intro _; exact addTop_ne hs x
 | begins x => intro _; simp [readR]
 | bare x => intro _; exact addTop_ne hs x
 | fin =>
  intro hf; refine addTop_ne (fun e => hf rfl ?_) _; have h1 := congrArg List.length e; have h2 := List.length_pos_iff.2 hs; rw [List.length_dropLast, List.length_nil] at h1; omega
end Go.Proofs.YtbcdaaobbebooaaGreatDoor
namespace Go.Proofs.YtbcdaaobbebooaaGreatDoor
set_option maxRecDepth 100000
set_option maxHeartbeats 20000000
def Small (m : Nat) (st : List Itm) : Prop := st ≠ [] /\ st.length <= m + 1 /\ ∀ x ∈ st, x.items.length <= m
theorem Small.le {m k : Nat} {st : List Itm} (h : Small m st) (hk : m <= k) : Small k st := ⟨h.1, Nat.le_trans h.2.1 (by omega), fun x hx => Nat.le_trans (h.2.2 x hx) hk⟩
def LnR.leaf : LnR -> Prop
 | .attr x => x.items = []
 | .begins x => x.items = []
 | .bare x => x.items = []
 | _ => True
theorem lackR_leaf (row : List Tok) (stop : Int) (last : Bool) (i : Nat) : (lackR row stop last i).leaf := by
 obtain ⟨a, e, -, h⟩ := lackR_ne row stop last i; rw [h]; trivial
theorem lineK_leaf (n : Nat) (row : List Tok) (stop : Int) (last : Bool) : (lineK n row stop last).leaf := by
 cases row with
 | nil => trivial
 | cons t r =>
  simp only [lineK]; split
  ·split
   ·exact lackR_leaf ..
   ·split
    ·exact lackR_leaf ..
    ·trivial
  ·split
   ·exact lackR_leaf ..
   ·split
    ·unfold attrK
     split
     ·exact lackR_leaf ..
     ·split
      ·rfl
      ·split <;> trivial
    ·unfold blockK
     simp only; split
     ·exact lackR_leaf ..
     ·split
      ·split <;> trivial
      ·split
       ·rfl
       ·split
        ·exact lackR_leaf ..
        ·split
         ·exact lackR_leaf ..
         ·rfl
def LnR.calm : LnR -> Prop
 | .wrong a e => e = 0 -> a = 0
 | _ => True
theorem lackR_calm (row : List Tok) (stop : Int) (last : Bool) (i : Nat) : (lackR row stop last i).calm := by
 obtain ⟨a, e, he, h⟩ := lackR_ne row stop last i; rw [h]; exact fun q => absurd q he
theorem lineK_calm (n : Nat) (row : List Tok) (stop : Int) (last : Bool) : (lineK n row stop last).calm := by
 cases row with
 | nil => trivial
 | cons t r =>
  simp only [lineK]; split
  ·split
   ·exact lackR_calm ..
   ·split
    ·exact lackR_calm ..
    ·trivial
  ·split
   ·exact lackR_calm ..
   ·split
    ·unfold attrK
     split
     ·exact lackR_calm ..
     ·split
      ·trivial
      ·next h1 h2 =>
       split
       ·exact fun q => absurd q h2
       ·exact fun _ => rfl
    ·unfold blockK
     simp only; split
     ·exact lackR_calm ..
     ·split
      ·split
       ·exact fun q => by cases q
       ·exact fun _ => rfl
      ·split
       ·trivial
       ·split
        ·exact lackR_calm ..
        ·split
         ·exact lackR_calm ..
         ·trivial
theorem readK_zero {st : List Itm} {row : List Tok} {stop : Int} {last : Bool} (h : (readK st row stop last).2.2 = 0) : (readK st row stop last).2.1 = 0 := by
 rw [readK_R] at h ⊢; have hc := lineK_calm st.length row stop last
 revert h hc
 cases lineK st.length row stop last with
 | wrong a e => intro h hc; exact hc h
 | _ => intro _ _; rfl
theorem addTop_small : ∀ (st : List Itm) (x : Itm) (m : Nat), (∀ y ∈ st, y.items.length <= m) -> ∀ y ∈ addTop st x, y.items.length <= m + 1
 | [], _, _, _, y, hy => by cases hy
 | [t], x, m, h, y, hy => by
  simp only [addTop, List.mem_singleton] at hy; subst hy; rw [Itm.add_items, List.length_append]; have := h t (by simp)
  simpa using this
 | t :: u :: r, x, m, h, y, hy => by
  simp only [addTop, List.mem_cons] at hy; rcases hy with rfl | hy
  ·exact Nat.le_succ_of_le (h _ (by simp))
  ·exact addTop_small (u :: r) x m (fun z hz => h z (by simp at hz ⊢; exact .inr hz)) y hy
theorem readK_small {m : Nat} {st : List Itm} (h : Small m st) (row : List Tok) (stop : Int) (last : Bool) : Small (m + 1) (readK st row stop last).1 := by
 refine ⟨readK_ne h.1 row stop last, ?_⟩; rw [readK_R]; have hl := lineK_leaf st.length row stop last
 revert hl
 cases lineK st.length row stop last with
 | wrong a e => intro _; exact (h.le (Nat.le_succ m)).2
 | empty => intro _; exact (h.le (Nat.le_succ m)).2
 | attr x => intro _; exact ⟨by simp only [readR]; rw [addTop_len]; have := h.2.1; omega, addTop_small _ _ _ h.2.2⟩
 | begins x =>
  intro hl; refine ⟨by simp only [readR, List.length_append, List.length_singleton]; have := h.2.1; omega, fun y hy => ?_⟩; simp only [readR, List.mem_append, List.mem_singleton] at hy; rcases hy with hy | rfl
  ·exact Nat.le_succ_of_le (h.2.2 y hy)
  ·simp only [LnR.leaf] at hl
   rw [hl]; exact Nat.zero_le _
 | bare x => intro _; exact ⟨by simp only [readR]; rw [addTop_len]; have := h.2.1; omega, addTop_small _ _ _ h.2.2⟩
 | fin =>
  intro _; refine ⟨by simp only [readR]; rw [addTop_len, List.length_dropLast]; have := h.2.1; omega, addTop_small _ _ _ (fun y hy => h.2.2 y (List.dropLast_subset st hy))⟩
theorem zeroI_small : Small 0 [zeroI] := ⟨by simp, by simp, fun x hx => by simp at hx; subst hx; simp [zeroI, Itm.items]⟩
def RestL (size : Int) (toks : List Tok) (k : Nat) (st : List Itm) (row : List Tok) : Prop := linesF size toks [zeroI] [] = linesF size (toks.drop k) st row
theorem RestL.zero (size : Int) (toks : List Tok) : RestL size toks 0 [zeroI] [] := rfl
section
variable {size : Int} {toks : List Tok} {k : Nat} {st : List Itm} {row : List Tok}
theorem RestL.open (h : RestL size toks k st row) (hk : k < toks.length) : linesF size toks [zeroI] [] = (if toks[k].kind = 6 \/ toks[k].kind = 7 then linesF size (toks.drop (k + 1)) st row
  else if toks[k].kind = 5 then
   (if (readK st row toks[k].pos false).2.2 ≠ 0 then ([], (readK st row toks[k].pos false).2) else linesF size (toks.drop (k + 1)) (readK st row toks[k].pos false).1 [])
  else linesF size (toks.drop (k + 1)) st (row ++ [toks[k]])) := by
 unfold RestL at h; rw [h, List.drop_eq_getElem_cons hk, linesF]
theorem RestL.skip (h : RestL size toks k st row) (hk : k < toks.length) (h6 : toks[k].kind = 6 \/ toks[k].kind = 7) : RestL size toks (k + 1) st row := by
 have := h.open hk; rw [if_pos h6] at this; exact this
theorem RestL.bad (h : RestL size toks k st row) (hk : k < toks.length) (h5 : toks[k].kind = 5) (he : (readK st row toks[k].pos false).2.2 ≠ 0) : linesF size toks [zeroI] [] = ([], (readK st row toks[k].pos false).2) := by
 have := h.open hk; rw [if_neg (by omega), if_pos h5, if_pos he] at this; exact this
theorem RestL.line (h : RestL size toks k st row) (hk : k < toks.length) (h5 : toks[k].kind = 5) (he : (readK st row toks[k].pos false).2.2 = 0) : RestL size toks (k + 1) (readK st row toks[k].pos false).1 [] := by
 have := h.open hk; rw [if_neg (by omega), if_pos h5, if_neg (by omega)] at this; exact this
theorem RestL.tok (h : RestL size toks k st row) (hk : k < toks.length) (h5 : toks[k].kind ≠ 5) (h6 : ¬ (toks[k].kind = 6 \/ toks[k].kind = 7)) : RestL size toks (k + 1) st (row ++ [toks[k]]) := by
 have := h.open hk; rw [if_neg h6, if_neg h5] at this; exact this
theorem RestL.last (h : RestL size toks k st row) (hk : toks.length <= k) : linesF size toks [zeroI] [] = (if (readK st row size true).2.2 ≠ 0 then ([], (readK st row size true).2)
  else if 1 < (readK st row size true).1.length then ([], size, 2)
  else (((readK st row size true).1.head?.getD zeroI).items, -1, 0)) := by
 unfold RestL at h; rw [h, List.drop_eq_nil_of_le hk, linesF]
end
end Go.Proofs.YtbcdaaobbebooaaGreatDoor
namespace Go.Proofs.YtbcdaaobbebooaaGreatDoor
set_option maxRecDepth 100000
set_option maxHeartbeats 20000000
open Go.RowKit Go.Tab
def BodyP (R : List Itm × Int × Int) (w : World) (e : Ending) (w' : World) : Prop := (∃ v, e = .returned (.tuple #[v, .int .i64 R.2.1, .int .i64 R.2.2]) /\ ItmsAt w' v R.1) /\ Below w.heap.size w w'
theorem ItmsAt.nil {w : World} : ItmsAt w (.slice none 0 0) [] := ⟨none, 0, rfl, Nat.le_refl _, Nat.zero_le _, fun _ => rfl, fun x h => by cases h⟩
theorem ItmAt.items {w : World} {t : Itm} {cs : List Value} {v : Value} (h : ItmAt w t cs) (h6 : cs[6]? = some v) : ItmsAt w v t.items := by
 obtain ⟨b, n, e, ls, its⟩ := t; obtain ⟨vo, vt, vk, lv, a, cap, rfl, -, -, h3, h4, h5, h7⟩ := ItmR.open h; simp only [List.getElem?_cons_succ, List.getElem?_cons_zero, Option.some.injEq] at h6; subst h6; exact ⟨a, cap, rfl, h3, h4, h5, h7⟩
structure InP (toks : List Tok) (size : Int) (B g k : Nat) (C : List Opn) (row : List Tok) (rv v : Value) (w wr : World) : Prop where
 st : StC B g rv.ownBlock wr v C
 box : PBox wr g v 0 0
 own : OwnT B wr rv row
 kept : Below B w wr
 big : B <= wr.heap.size
 rest : RestL size toks k (C.map (·.x)) row
 small : Small k (C.map (·.x))
 len : row.length <= k
 mem : ∀ t ∈ row, t ∈ toks
section
variable {toks : List Tok} {size : Int} {B g k : Nat} {C : List Opn} {row : List Tok} {rv v : Value} {w wr : World}
theorem InP.below (h : InP toks size B g k C row rv v w wr) {w' : World} (hb : Below wr.heap.size wr w') : InP toks size B g k C row rv v w w' :=
 ⟨h.st.below hb, h.box.below hb h.st.gl, h.own.below hb (Nat.le_refl _), h.kept.trans (hb.mono h.big), Nat.le_trans h.big hb.size, h.rest, h.small, h.len, h.mem⟩
theorem InP.skip (h : InP toks size B g k C row rv v w wr) (hk : k < toks.length) (h6 : toks[k].kind = 6 \/ toks[k].kind = 7) : InP toks size B g (k + 1) C row rv v w wr :=
 ⟨h.st, h.box, h.own, h.kept, h.big, h.rest.skip hk h6, h.small.le (Nat.le_succ k), Nat.le_succ_of_le h.len, h.mem⟩
theorem InP.tok (h : InP toks size B g k C row rv v w wr) (hk : k < toks.length) (h5 : toks[k].kind ≠ 5) (h6 : ¬ (toks[k].kind = 6 \/ toks[k].kind = 7)) {g3 n cap3 : Nat} {w3 : World}
  (h1 : OwnT B w3 (.slice (some ⟨g3, 0, none⟩) n cap3) (row ++ [toks[k]])) (h2 : wr.grownBy w3 rv.ownBlock) (h3 : rv.ownBlock = some g3 \/ g3 = wr.heap.size) (h4 : g3 < w3.heap.size) :
  InP toks size B g (k + 1) C (row ++ [toks[k]]) (.slice (some ⟨g3, 0, none⟩) n cap3) v w w3 := by
 have hrl : ∀ b, rv.ownBlock = some b -> B <= b /\ b < wr.heap.size := World.ownsRow.lt h.own; have hk2 : ∀ b, b < wr.heap.size -> b ≠ g -> rv.ownBlock ≠ some b -> w3.heap[b]? = wr.heap[b]? := fun b hb _ hn => h2.block b hb (fun e => hn e.symm); refine ⟨h.st.keep h2.size hk2 (fun b e => ?_), ?_, h1, h.kept.trans ⟨h2.os, h2.tape, h2.output, h2.size, fun b hb => h2.block b (Nat.lt_of_lt_of_le hb h.big) (fun e => by have := (hrl b e.symm).1; omega)⟩, Nat.le_trans h.big h2.size, h.rest.tok hk h5 h6, h.small.le (Nat.le_succ k), by rw [List.length_append]; simpa using h.len, fun t ht => ?_⟩
 ·simp only [Value.ownBlock, Option.some.injEq] at e
  subst e; exact ⟨h3.imp id (fun q => by omega), h4⟩
 ·exact h.box.kept h2 (fun e => h.st.apart.rg e.symm)
 ·rcases List.mem_append.1 ht with ht | ht
  ·exact h.mem t ht
  ·simp at ht; subst ht; exact List.getElem_mem hk
theorem OwnT.none {base : Nat} {a : Option Addr} {n cap : Nat} {l : List Tok} (h : OwnT base w (.slice a n cap) l) : OwnT base w (.slice a 0 cap) [] := by
 obtain ⟨h1, h2⟩ := h; refine ⟨rfl, ?_⟩; rcases h2 with ⟨h2, -⟩ | ⟨g, cap', cur, he, hb, hg, h3, h4, h5, h6⟩
 ·cases h2; exact .inl ⟨rfl, rfl⟩
 ·cases he; exact .inr ⟨_, _, cur, rfl, hb, hg, Nat.zero_le _, h4, h5, by simp⟩
theorem OwnT.capB {base : Nat} {a : Option Addr} {n cap : Nat} {l : List Tok} (h : OwnT base w (.slice a n cap) l) : n = l.length /\ n <= cap /\ cap <= maxLen := by
 obtain ⟨h1, h2⟩ := h; rcases h2 with ⟨h2, h3⟩ | ⟨g, cap', cur, he, hb, hg, h3, h4, h5, h6⟩
 ·cases h2; exact ⟨h3.symm, Nat.le_refl _, Nat.zero_le _⟩
 ·cases he; exact ⟨rfl, h3, h4⟩
theorem InP.line {a : Option Addr} {n cap : Nat} (h : InP toks size B g k C row (.slice a n cap) v w wr) (hk : k < toks.length) (h5 : toks[k].kind = 5) (he : (readK (C.map (·.x)) row toks[k].pos false).2.2 = 0) {w3 : World} {v3 : Value} {C3 : List Opn} {e1 : Int}
  (h0 : (readK (C.map (·.x)) row toks[k].pos false).1 = C3.map (·.x)) (h1 : StC B g (Value.slice a n cap).ownBlock w3 v3 C3) (h2 : PBox w3 g v3 e1 (readK (C.map (·.x)) row toks[k].pos false).2.2) (h21 : e1 = 0) (h3 : KeepR B (Value.slice a n cap).ownBlock wr w3) :
  InP toks size B g (k + 1) C3 [] (.slice a 0 cap) v3 w w3 := by
 rw [he] at h2; subst h21; have hob : (Value.slice a 0 cap).ownBlock = (Value.slice a n cap).ownBlock := by cases a <;> rfl
 exact ⟨by rw [hob]; exact h1, h2, (h.own.moved (fun b e => h3.2 b e)).none, h.kept.trans h3.1, Nat.le_trans h.big h3.1.size, by rw [<- h0]; exact h.rest.line hk h5 he, by rw [<- h0]; exact readK_small h.small _ _ _, Nat.zero_le _, fun t ht => by cases ht⟩
end
section
variable {P : Program} {w : World} {ops : Array Oper} {rest : List Oper} {o : Oper} {a : Act} {Q : Exit -> Act -> World -> Prop}
theorem wpList_slice_none (hgd : Region.wanted o (yielded ops a.tmps) = true) (x hi : Operand) (t : TypeId) (sz : Nat) (ho : o.op = .slice t x none (some hi) none)
  (ht : P.underlying t = some (.slice (P.elem t))) (hs : (P.info? (P.elem t)).map (fun i => i.size) = some sz)
  (ad : Option Addr) (n cap : Nat) (hx : a.eval x = .slice ad n cap) (k : IntKind) (eH : a.eval hi = .int k 0)
  (hK : wpList P ops Q rest (a.put o.dst (.slice ad 0 cap)) w) : wpList P ops Q (o :: rest) a w := by
 refine wpList_want hgd fun K hK' => ?_; have hrun := run_slice_h (P := P) w t ad n cap ht k 0 (by omega) (by omega); unfold Oper.wp; simp only [execOp, ho, hx, eH, Option.map_some, Option.map_none, Sem.run_bind, run_sliceAt_slice (P := P) w t _ _ _ _ ht, hrun, run_sizeOf_n hs, Result.andThen, Sem.run_pure, Oper.upon_value, Int.toNat_zero]
 have e1 : sliced ad 0 0 cap sz = .slice ad 0 cap := by
  unfold sliced
  cases ad with
  | none => simp
  | some y => simp [Addr.add]
 rw [e1]; exact hK' _ _ hK
theorem wpList_make_z (hgd : Region.wanted o (yielded ops a.tmps) = true) (l c : Operand) (t : TypeId) (hop : o.op = .makeSlice t l c)
  (e : TypeId) (bytes size : Nat) (z : Value) (ht : P.underlying t = some (.slice e)) (hi : (P.info? e).map (fun i => (i.zero, i.size, i.bytes)) = some (some z, size, bytes))
  (kl kc : IntKind) (n : Nat) (hl : a.eval l = .int kl (n : Int)) (hc : a.eval c = .int kc (n : Int)) (hby : bytes * n <= 281474976710656) (hm : n <= maxLen)
  (hK : wpList P ops Q rest (a.put o.dst (.slice (some ⟨w.heap.size, 0, Option.none⟩) n n)) (w.alloc (.cells (madeCells z.cells (n * size)) e))) : wpList P ops Q (o :: rest) a w := by
 obtain ⟨i, hi1, hi2⟩ := Option.map_eq_some_iff.1 hi; simp only [Prod.mk.injEq] at hi2; obtain ⟨hz, hs, hb⟩ := hi2; refine wpList_want hgd fun K hK' => ?_
 have hb' : (i.bytes : Int) * (n : Int) <= 281474976710656 := by
  have h : ((i.bytes * n : Nat) : Int) <= 281474976710656 := by rw [hb]; omega
  rwa [Int.natCast_mul] at h
 have hr := run_make (P := P) w t e i z ht hi1 hz kl kc n n (by omega) (Int.le_refl _) hb' (by simp [maxLen] at hm; omega); simp only [Int.toNat_natCast, hs] at hr; unfold Oper.wp; simp [execOp, hop, hl, hc, hr, Result.andThen]
 exact hK' _ _ hK
end
theorem InP.start (toks : List Tok) (size : Int) (w : World) :
  InP toks size w.heap.size (w.heap.size + 1) 0 [⟨zeroI, zeroIC, .slice none 0 0⟩] [] (.slice none 0 0) (.slice (some ⟨w.heap.size, 0, none⟩) 1 1) w
   ((w.alloc (.cells zeroIC.toArray 54)).alloc (.cells #[.slice (some ⟨w.heap.size, 0, none⟩) 1 1, .int .i64 0, .int .i64 0] 83)) := by
 have hB : Below w.heap.size w ((w.alloc (.cells zeroIC.toArray 54)).alloc (.cells #[.slice (some ⟨w.heap.size, 0, none⟩) 1 1, .int .i64 0, .int .i64 0] 83)) := ((Below.refl _ w).alloc (Nat.le_refl _) _).alloc (by simp) _; have hc := Cells.new (w.alloc (.cells zeroIC.toArray 54)) #[.slice (some ⟨w.heap.size, 0, none⟩) 1 1, .int .i64 0, .int .i64 0] 83; rw [World.size_alloc] at hc
 have hrow : ((w.alloc (.cells zeroIC.toArray 54)).alloc (.cells #[.slice (some ⟨w.heap.size, 0, none⟩) 1 1, .int .i64 0, .int .i64 0] 83)).ownsRow w.heap.size 54 7 (.slice (some ⟨w.heap.size, 0, none⟩) 1 1) 1 zeroIC := by
  refine World.ownsRow.alloc (w := w.alloc (.cells zeroIC.toArray 54)) ⟨rfl, .inr ⟨w.heap.size, 1, zeroIC.toArray, rfl, Nat.le_refl _, ?_, Nat.le_refl _, by unfold maxLen; omega, rfl, rfl⟩⟩ _; exact Cells.new w zeroIC.toArray 54
 refine ⟨⟨by simp, fun b e => (by cases e), hrow, ⟨?_, fun b _ e => (by cases e), (fun e => by cases e), fun c hc b e => ?_, by simp⟩, fun c hc => ?_⟩, hc, OwnT.nil, hB, hB.size, RestL.zero size toks, zeroI_small, Nat.le_refl _, fun t ht => by cases ht⟩
 ·simp only [Value.ownBlock, ne_eq, Option.some.injEq]; omega
 ·simp at hc; subst hc; cases e
 ·simp at hc; subst hc
  exact OneAt.fresh (ItmIn.zero _ _) rfl
theorem StC.end {B g : Nat} {rb : Option Nat} {w : World} {v : Value} {C : List Opn} (h : StC B g rb w v C) (hn : ¬ 1 < C.length) (h0 : C ≠ []) :
  ∃ ob oc iv, v = .slice (some ⟨ob, 0, none⟩) 1 oc /\ w.cell? ⟨ob, 6, none⟩ = some iv /\ ItmsAt w iv ((C.map (·.x)).head?.getD zeroI).items := by
 obtain ⟨c, rfl⟩ : ∃ c, C = [c] := by
  match C, hn, h0 with
  | [c], _, _ => exact ⟨c, rfl⟩
  | _ :: _ :: _, hn, _ => simp at hn
 have hc := h.all c (by simp); obtain ⟨ob, oc, q, -⟩ := World.ownsRow.form h.row (by simp); have q' : v = .slice (some ⟨ob, 0, none⟩) 1 oc := q; subst q'; have hro := h.row; refine ⟨ob, oc, c.iv, rfl, ?_, ?_⟩
 ·have := hro.cellAt 6 (by simp)
  rw [this]
  simpa using hc.cell6
 ·exact ItmAt.items (ItmIn.at _ _ (hc.itm (Q := fun _ => True) (fun _ _ _ => trivial) (fun _ _ => trivial))) hc.cell6
end Go.Proofs.YtbcdaaobbebooaaGreatDoor
