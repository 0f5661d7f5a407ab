/- Texts of this claim, one behind the other: PnD, PnE, RoB, RoC, Flo, RoD, RoE. -/
import Derived.Test.YthbhknfhmkhfgaaGreatDoorMga
import Derived.Test.YthbhknfhmkhfgaaGreatDoorMgj
import Derived.Deep.RegionHeld3
set_option linter.unusedSimpArgs false
set_option linter.unusedVariables false
namespace Go.Proofs.YthbhknfhmkhfgaaGreatDoor
set_option maxRecDepth 100000
set_option maxHeartbeats 20000000
open Go.RowKit Go.Tab
theorem Prn.below {B g n : Nat} {w w' : World} {P : Pcs} (h : Prn B w g P n) (hb : Below w.heap.size w w') : Prn B w' g P n := by
 obtain ⟨ad, bv, tv, ts, hc, ha, hU, hT, hts⟩ := h; exact ⟨ad, bv, tv, ts, hc.below hb hc.lt, ha, OwnOf.below hU hb (Nat.le_refl _), hT.below hb (Nat.le_refl _), hts⟩
theorem BesP.below {g : Nat} {w w' w'' : World} (h : BesP g w w') (hb : Below w'.heap.size w' w'') : BesP g w w'' :=
 h.trans ⟨hb.size, fun k o _ ho _ _ => (hb.block k (Array.getElem?_eq_some_iff.1 ho).1).trans ho⟩
theorem Fx.below {w0 w W W' : World} {g bx n : Nat} {P : Pcs} {cs : Array Value} (h : Fx w0 w W g bx P n cs) (hb : Below W.heap.size W W') : Fx w0 w W' g bx P n cs :=
 ⟨⟨h.c.b.trans (hb.mono h.c.b.size), h.c.ge, h.c.p.below hb, h.c.le⟩, h.x.below hb h.x.lt, h.ne, h.b.trans (hb.mono h.c.b.size), h.s.below hb⟩
section
variable (w0 w : World) (g n : Nat) (P : Pcs) (o t : ByteArray) (a : Option Addr) (k c : Nat)
theorem get_any (text : ByteArray) (e0 : Exp) (hE0 : ExprC e0) (hT : Tab w0) (hC : Cx w0 w g P n) (hX : ExpAt w0 (.mk oGet text [e0]) (expV o t (.slice a k c))) (hw : wt (P ++ pcX (.mk oGet text [e0])) <= 1000000) :
  Calls Tryz.prog 73 #[.pointer (some ⟨g, 0, none⟩), exV o t (.slice a k c)] w (Prt w0.heap.size g P (pcX (.mk oGet text [e0])) n (brX (.mk oGet text [e0])) w) := by
 have hbr : brX (.mk oGet text [e0]) = brkN 8 (lvN e0.op, brX e0) := rfl; rw [pc_get] at hw ⊢; rw [hbr]; obtain ⟨rfl, rfl, a', c', hsl, hkc, hcm⟩ := exp_top hX; cases hsl
 obtain ⟨b0, off0, ko0, kt0, ka0, kn0, kc0, he0, hlt0, hq0, hX0, -⟩ := kid_cells hX (i := 0) (by simp)
 simp only [Nat.reduceMul, Nat.zero_mul, Nat.one_mul, Nat.add_zero] at hq0; subst he0; have hF := Fx.start hC #[.string oGet, .string t, .slice (some ⟨b0, off0, none⟩) 1 c]; have w1 : wt (P ++ brk 8 (lvN e0.op, pcX e0)) <= 1000000 := by simp only [wt_app, wt_some, wt_nil] at hw ⊢; omega
 have w2 : wt (P ++ brk 8 (lvN e0.op, pcX e0) ++ [pS sDot]) <= 1000000 := by simp only [wt_app, wt_some, wt_nil] at hw ⊢; omega
 have w3 : wt (P ++ brk 8 (lvN e0.op, pcX e0) ++ [pS sDot] ++ [some ⟨1, t, 0⟩]) <= 1000000 := by simp only [wt_app, wt_some, wt_nil] at hw ⊢; omega
 have hp := least_any hE0 w0 _ g n P ko0 kt0 ka0 kn0 kc0 8 hT hF.c hX0 w1; obtain ⟨r0, r1, r2⟩ := hq0 _ hC.b; have HF := Lib.hid hF; have hlw : b0 < w.heap.size := by have := hC.b.size; omega
 clear hF hC hX hw hX0 hE0 hT hq0 hbr; go_enter Tryz.func73, Tryz.ntmps73; go_wp2_with fail; clear r0 r1 r2; refine hp.mono ?_; rintro _ w5 ⟨rfl, h5⟩; clear hp; have hF5 := HF.out.go ⟨rfl, h5⟩ (brkN_le (brX_le e0)); have HF5 := Lib.hid hF5; clear h5; have hp := pSign_any w5 w0.heap.size g _ _ sDot hF5.c.p hF5.c.ge w2; clear hF5; go_wp2_with fail; refine hp.mono ?_; rintro _ w6 ⟨rfl, h6⟩; clear hp; have hF6 := HF5.out.go ⟨rfl, h6⟩ (Nat.zero_le _); have HF6 := Lib.hid hF6; clear h6; have hp := put_any w6 w0.heap.size g _ 1 _ t hF6.c.p hF6.c.ge w3; have hx := hF6.x; have hxl := hx.lt; have hxc0 := hx.cell 0 _ rfl; have hxf0 := hx.frozen 0; have hxc1 := hx.cell 1 _ rfl; have hxf1 := hx.frozen 1; have hxc2 := hx.cell 2 _ rfl; have hxf2 := hx.frozen 2; clear hx; clear hF6; go_wp2_with fail; refine hp.mono ?_; rintro _ w7 ⟨rfl, h7⟩; clear hp; have hF7 := HF6.out.go ⟨rfl, h7⟩ (Nat.zero_le _); have HF7 := Lib.hid hF7; clear h7; clear hF7; go_wp2_with fail; refine bodyPost_end (v := .tuple #[]) (by simp [results, Tryz.results73, go_sem]) rfl ?_
 have hF7 := HF7.out; simp only [List.append_assoc] at hF7; exact hF7.fin (by omega)
theorem at_any (text : ByteArray) (e0 e1 : Exp) (hE0 : ExprC e0) (hE1 : ExprC e1) (hT : Tab w0) (hC : Cx w0 w g P n) (hX : ExpAt w0 (.mk oAt text [e0, e1]) (expV o t (.slice a k c))) (hw : wt (P ++ pcX (.mk oAt text [e0, e1])) <= 1000000) :
  Calls Tryz.prog 74 #[.pointer (some ⟨g, 0, none⟩), exV o t (.slice a k c)] w (Prt w0.heap.size g P (pcX (.mk oAt text [e0, e1])) n (brX (.mk oAt text [e0, e1])) w) := by
 have hbr : brX (.mk oAt text [e0, e1]) = brkN 8 (lvN e0.op, brX e0) + brX e1 := rfl; rw [pc_at] at hw ⊢; rw [hbr]; obtain ⟨rfl, rfl, a', c', hsl, hkc, hcm⟩ := exp_top hX; cases hsl
 obtain ⟨b0, off0, ko0, kt0, ka0, kn0, kc0, he0, hlt0, hq0, hX0, -⟩ := kid_cells hX (i := 0) (by simp)
 simp only [Nat.reduceMul, Nat.zero_mul, Nat.one_mul, Nat.add_zero] at hq0; obtain ⟨b1, off1, ko1, kt1, ka1, kn1, kc1, he1, hlt1, hq1, hX1, -⟩ := kid_cells hX (i := 1) (by simp)
 simp only [Nat.reduceMul, Nat.zero_mul, Nat.one_mul, Nat.add_zero] at hq1; subst he0; cases he1
 have hF := Fx.start hC #[.string oAt, .string t, .slice (some ⟨b0, off0, none⟩) 2 c]; have w1 : wt (P ++ brk 8 (lvN e0.op, pcX e0)) <= 1000000 := by simp only [wt_app, wt_some, wt_none, wt_nil] at hw ⊢; omega
 have w2 : wt (P ++ brk 8 (lvN e0.op, pcX e0) ++ [pS sLb]) <= 1000000 := by simp only [wt_app, wt_some, wt_none, wt_nil] at hw ⊢; omega
 have w3 : wt (P ++ brk 8 (lvN e0.op, pcX e0) ++ [pS sLb] ++ pcX e1) <= 1000000 := by simp only [wt_app, wt_some, wt_none, wt_nil] at hw ⊢; omega
 have w4 : wt (P ++ brk 8 (lvN e0.op, pcX e0) ++ [pS sLb] ++ pcX e1 ++ [pS sRb]) <= 1000000 := by simp only [wt_app, wt_some, wt_none, wt_nil] at hw ⊢; omega
 have hp := least_any hE0 w0 _ g n P ko0 kt0 ka0 kn0 kc0 8 hT hF.c hX0 w1; obtain ⟨r0, r1, r2⟩ := hq0 _ hC.b; have HF := Lib.hid hF; have HE1 := Lib.hid (fun W m Q => hE1 w0 W g m Q ko1 kt1 ka1 kn1 kc1 hT); have HX1 := Lib.hid hX1; have hlw : b0 < w.heap.size := by have := hC.b.size; omega
 clear hF hC hX hw hX0 hE0 hE1 hT hq0 hbr hX1; go_enter Tryz.func74, Tryz.ntmps74; go_wp2_with fail; clear r0 r1 r2; refine hp.mono ?_; rintro _ w5 ⟨rfl, h5⟩; clear hp; have hF5 := HF.out.go ⟨rfl, h5⟩ (brkN_le (brX_le e0)); have HF5 := Lib.hid hF5; clear h5; have hp := pSign_any w5 w0.heap.size g _ _ sLb hF5.c.p hF5.c.ge w2; clear hF5; go_wp2_with fail; refine hp.mono ?_; rintro _ w6 ⟨rfl, h6⟩; clear hp; have hF6 := HF5.out.go ⟨rfl, h6⟩ (Nat.zero_le _); have HF6 := Lib.hid hF6; clear h6; have hp := HE1.out w6 _ _ hF6.c HX1.out w3; obtain ⟨r0, r1, r2⟩ := hq1 _ hF6.c.b; have hlw6 : b0 < w6.heap.size := by have := hF6.c.b.size; omega
 have hx := hF6.x; have hxl := hx.lt; have hxc0 := hx.cell 0 _ rfl; have hxf0 := hx.frozen 0; have hxc1 := hx.cell 1 _ rfl; have hxf1 := hx.frozen 1; have hxc2 := hx.cell 2 _ rfl; have hxf2 := hx.frozen 2; clear hx; clear hF6 hq1; go_wp2_with fail; clear r0 r1 r2; clear hxc0 hxc1 hxc2 hxf0 hxf1 hxf2 hxl; refine hp.mono ?_; rintro _ w7 ⟨rfl, h7⟩; clear hp; have hF7 := HF6.out.go ⟨rfl, h7⟩ (brX_le e1); have HF7 := Lib.hid hF7; clear h7; have hp := pSign_any w7 w0.heap.size g _ _ sRb hF7.c.p hF7.c.ge w4; clear hF7; go_wp2_with fail; refine hp.mono ?_; rintro _ w8 ⟨rfl, h8⟩; clear hp; have hF8 := HF7.out.go ⟨rfl, h8⟩ (Nat.zero_le _); have HF8 := Lib.hid hF8; clear h8; clear hF8; go_wp2_with fail; refine bodyPost_end (v := .tuple #[]) (by simp [results, Tryz.results74, go_sem]) rfl ?_
 have hF8 := HF8.out; simp only [List.append_assoc] at hF8; exact hF8.fin (by omega)
theorem neg_any (text : ByteArray) (e0 : Exp) (hE0 : ExprC e0) (hT : Tab w0) (hC : Cx w0 w g P n) (hX : ExpAt w0 (.mk oNeg text [e0]) (expV o t (.slice a k c))) (hw : wt (P ++ pcX (.mk oNeg text [e0])) <= 1000000) :
  Calls Tryz.prog 75 #[.pointer (some ⟨g, 0, none⟩), exV o t (.slice a k c)] w (Prt w0.heap.size g P (pcX (.mk oNeg text [e0])) n (brX (.mk oNeg text [e0])) w) := by
 have hbr : brX (.mk oNeg text [e0]) = brkN 7 (lvN e0.op, brX e0) := rfl; rw [pc_neg] at hw ⊢; rw [hbr]; obtain ⟨rfl, rfl, a', c', hsl, hkc, hcm⟩ := exp_top hX; cases hsl
 obtain ⟨b0, off0, ko0, kt0, ka0, kn0, kc0, he0, hlt0, hq0, hX0, -⟩ := kid_cells hX (i := 0) (by simp)
 simp only [Nat.reduceMul, Nat.zero_mul, Nat.one_mul, Nat.add_zero] at hq0; subst he0; have hF := Fx.start hC #[.string oNeg, .string t, .slice (some ⟨b0, off0, none⟩) 1 c]; have w1 : wt (P ++ [pS sMinus]) <= 1000000 := by simp only [wt_app, wt_some, wt_none, wt_nil] at hw ⊢; omega
 have w2 : wt (P ++ [pS sMinus] ++ brk 7 (lvN e0.op, pcX e0)) <= 1000000 := by simp only [wt_app, wt_some, wt_none, wt_nil] at hw ⊢; omega
 have hp := pSign_any _ w0.heap.size g _ _ sMinus hF.c.p hF.c.ge w1; have HF := Lib.hid hF; have HE0 := Lib.hid (fun W m Q => least_any hE0 w0 W g m Q ko0 kt0 ka0 kn0 kc0 7 hT); have HX0 := Lib.hid hX0; clear hF hC hX hw hX0 hE0 hT hbr; go_enter Tryz.func75, Tryz.ntmps75; go_wp2_with fail; refine hp.mono ?_; rintro _ w5 ⟨rfl, h5⟩; clear hp; have hF5 := HF.out.go ⟨rfl, h5⟩ (Nat.zero_le _); have HF5 := Lib.hid hF5; clear h5; have hp := HE0.out w5 _ _ hF5.c HX0.out w2; obtain ⟨r0, r1, r2⟩ := hq0 _ hF5.c.b; have hlw5 : b0 < w5.heap.size := by have := hF5.c.b.size; omega
 have hx := hF5.x; have hxl := hx.lt; have hxc0 := hx.cell 0 _ rfl; have hxf0 := hx.frozen 0; have hxc1 := hx.cell 1 _ rfl; have hxf1 := hx.frozen 1; have hxc2 := hx.cell 2 _ rfl; have hxf2 := hx.frozen 2; clear hx; clear hF5 hq0; go_wp2_with fail; clear r0 r1 r2; clear hxc0 hxc1 hxc2 hxf0 hxf1 hxf2 hxl; refine hp.mono ?_; rintro _ w6 ⟨rfl, h6⟩; clear hp; have hF6 := HF5.out.go ⟨rfl, h6⟩ (brkN_le (brX_le e0)); have HF6 := Lib.hid hF6; clear h6; clear hF6; go_wp2_with fail; refine bodyPost_end (v := .tuple #[]) (by simp [results, Tryz.results75, go_sem]) rfl ?_
 have hF6 := HF6.out; rw [List.append_assoc] at hF6; exact hF6.fin (by omega)
theorem bang_any (text : ByteArray) (e0 : Exp) (hE0 : ExprC e0) (hT : Tab w0) (hC : Cx w0 w g P n) (hX : ExpAt w0 (.mk sBang text [e0]) (expV o t (.slice a k c))) (hw : wt (P ++ pcX (.mk sBang text [e0])) <= 1000000) :
  Calls Tryz.prog 75 #[.pointer (some ⟨g, 0, none⟩), exV o t (.slice a k c)] w (Prt w0.heap.size g P (pcX (.mk sBang text [e0])) n (brX (.mk sBang text [e0])) w) := by
 have hbr : brX (.mk sBang text [e0]) = brkN 7 (lvN e0.op, brX e0) := rfl; rw [pc_bang] at hw ⊢; rw [hbr]; obtain ⟨rfl, rfl, a', c', hsl, hkc, hcm⟩ := exp_top hX; cases hsl
 obtain ⟨b0, off0, ko0, kt0, ka0, kn0, kc0, he0, hlt0, hq0, hX0, -⟩ := kid_cells hX (i := 0) (by simp)
 simp only [Nat.reduceMul, Nat.zero_mul, Nat.one_mul, Nat.add_zero] at hq0; subst he0; have hF := Fx.start hC #[.string sBang, .string t, .slice (some ⟨b0, off0, none⟩) 1 c]; have w1 : wt (P ++ [pS sBang]) <= 1000000 := by simp only [wt_app, wt_some, wt_none, wt_nil] at hw ⊢; omega
 have w2 : wt (P ++ [pS sBang] ++ brk 7 (lvN e0.op, pcX e0)) <= 1000000 := by simp only [wt_app, wt_some, wt_none, wt_nil] at hw ⊢; omega
 have hp := pSign_any _ w0.heap.size g _ _ sBang hF.c.p hF.c.ge w1; have HF := Lib.hid hF; have HE0 := Lib.hid (fun W m Q => least_any hE0 w0 W g m Q ko0 kt0 ka0 kn0 kc0 7 hT); have HX0 := Lib.hid hX0; clear hF hC hX hw hX0 hE0 hT hbr; go_enter Tryz.func75, Tryz.ntmps75; go_wp2_with fail; refine hp.mono ?_; rintro _ w5 ⟨rfl, h5⟩; clear hp; have hF5 := HF.out.go ⟨rfl, h5⟩ (Nat.zero_le _); have HF5 := Lib.hid hF5; clear h5; have hp := HE0.out w5 _ _ hF5.c HX0.out w2; obtain ⟨r0, r1, r2⟩ := hq0 _ hF5.c.b; have hlw5 : b0 < w5.heap.size := by have := hF5.c.b.size; omega
 have hx := hF5.x; have hxl := hx.lt; have hxc0 := hx.cell 0 _ rfl; have hxf0 := hx.frozen 0; have hxc1 := hx.cell 1 _ rfl; have hxf1 := hx.frozen 1; have hxc2 := hx.cell 2 _ rfl; have hxf2 := hx.frozen 2; clear hx; clear hF5 hq0; go_wp2_with fail; clear r0 r1 r2; clear hxc0 hxc1 hxc2 hxf0 hxf1 hxf2 hxl; refine hp.mono ?_; rintro _ w6 ⟨rfl, h6⟩; clear hp; have hF6 := HF5.out.go ⟨rfl, h6⟩ (brkN_le (brX_le e0)); have HF6 := Lib.hid hF6; clear h6; clear hF6; go_wp2_with fail; refine bodyPost_end (v := .tuple #[]) (by simp [results, Tryz.results75, go_sem]) rfl ?_
 have hF6 := HF6.out; rw [List.append_assoc] at hF6; exact hF6.fin (by omega)
theorem quest_any (text : ByteArray) (e0 e1 e2 : Exp) (hE0 : ExprC e0) (hE1 : ExprC e1) (hE2 : ExprC e2) (hT : Tab w0) (hC : Cx w0 w g P n) (hX : ExpAt w0 (.mk sQ text [e0, e1, e2]) (expV o t (.slice a k c))) (hw : wt (P ++ pcX (.mk sQ text [e0, e1, e2])) <= 1000000) :
  Calls Tryz.prog 76 #[.pointer (some ⟨g, 0, none⟩), exV o t (.slice a k c)] w (Prt w0.heap.size g P (pcX (.mk sQ text [e0, e1, e2])) n (brX (.mk sQ text [e0, e1, e2])) w) := by
 have hbr : brX (.mk sQ text [e0, e1, e2]) = brkN 1 (lvN e0.op, brX e0) + (brX e1 + brX e2) := rfl; rw [pc_choice] at hw ⊢; rw [hbr]; obtain ⟨rfl, rfl, a', c', hsl, hkc, hcm⟩ := exp_top hX; cases hsl
 obtain ⟨b0, off0, ko0, kt0, ka0, kn0, kc0, he0, hlt0, hq0, hX0, -⟩ := kid_cells hX (i := 0) (by simp)
 simp only [Nat.reduceMul, Nat.zero_mul, Nat.one_mul, Nat.add_zero] at hq0; obtain ⟨b1, off1, ko1, kt1, ka1, kn1, kc1, he1, hlt1, hq1, hX1, -⟩ := kid_cells hX (i := 1) (by simp)
 simp only [Nat.reduceMul, Nat.zero_mul, Nat.one_mul, Nat.add_zero] at hq1; obtain ⟨b2, off2, ko2, kt2, ka2, kn2, kc2, he2, hlt2, hq2, hX2, -⟩ := kid_cells hX (i := 2) (by simp)
 simp only [Nat.reduceMul, Nat.zero_mul, Nat.one_mul, Nat.add_zero] at hq2; subst he0; cases he1
 cases he2
 have hF := Fx.start hC #[.string sQ, .string t, .slice (some ⟨b0, off0, none⟩) 3 c]; have w1 : wt (P ++ brk 1 (lvN e0.op, pcX e0)) <= 1000000 := by simp only [wt_app, wt_some, wt_none, wt_nil] at hw ⊢; omega
 have w2 : wt (P ++ brk 1 (lvN e0.op, pcX e0) ++ [none, pS sQ, none]) <= 1000000 := by simp only [wt_app, wt_some, wt_none, wt_nil] at hw ⊢; omega
 have w3 : wt (P ++ brk 1 (lvN e0.op, pcX e0) ++ [none, pS sQ, none] ++ pcX e1) <= 1000000 := by simp only [wt_app, wt_some, wt_none, wt_nil] at hw ⊢; omega
 have w4 : wt (P ++ brk 1 (lvN e0.op, pcX e0) ++ [none, pS sQ, none] ++ pcX e1 ++ [none, pS sCo, none]) <= 1000000 := by simp only [wt_app, wt_some, wt_none, wt_nil] at hw ⊢; omega
 have v5 : wt (P ++ brk 1 (lvN e0.op, pcX e0) ++ [none, pS sQ, none] ++ pcX e1 ++ [none, pS sCo, none] ++ pcX e2) <= 1000000 := by simp only [wt_app, wt_some, wt_none, wt_nil] at hw ⊢; omega
 have hp := least_any hE0 w0 _ g n P ko0 kt0 ka0 kn0 kc0 1 hT hF.c hX0 w1; obtain ⟨r0, r1, r2⟩ := hq0 _ hC.b; have HF := Lib.hid hF; have HE1 := Lib.hid (fun W m Q => hE1 w0 W g m Q ko1 kt1 ka1 kn1 kc1 hT); have HX1 := Lib.hid hX1; have HE2 := Lib.hid (fun W m Q => hE2 w0 W g m Q ko2 kt2 ka2 kn2 kc2 hT); have HX2 := Lib.hid hX2; have hlw : b0 < w.heap.size := by have := hC.b.size; omega
 clear hF hC hX hw hX0 hE0 hE1 hE2 hT hq0 hbr hX1 hX2; go_enter Tryz.func76, Tryz.ntmps76; go_wp2_with fail; clear r0 r1 r2; refine hp.mono ?_; rintro _ w5 ⟨rfl, h5⟩; clear hp; have hF5 := HF.out.go ⟨rfl, h5⟩ (brkN_le (brX_le e0)); have HF5 := Lib.hid hF5; clear h5; have hp := sep_any w5 w0.heap.size g _ _ sQ hF5.c.p hF5.c.ge w2; clear hF5; go_wp2_with fail; refine hp.mono ?_; rintro _ w6 ⟨rfl, h6⟩; clear hp; have hF6 := HF5.out.go ⟨rfl, h6⟩ (Nat.zero_le _); have HF6 := Lib.hid hF6; clear h6; have hp := HE1.out w6 _ _ hF6.c HX1.out w3; obtain ⟨r0, r1, r2⟩ := hq1 _ hF6.c.b; have hlw6 : b0 < w6.heap.size := by have := hF6.c.b.size; omega
 have hx := hF6.x; have hxl := hx.lt; have hxc0 := hx.cell 0 _ rfl; have hxf0 := hx.frozen 0; have hxc1 := hx.cell 1 _ rfl; have hxf1 := hx.frozen 1; have hxc2 := hx.cell 2 _ rfl; have hxf2 := hx.frozen 2; clear hx; clear hF6 hq1; go_wp2_with fail; clear r0 r1 r2; clear hxc0 hxc1 hxc2 hxf0 hxf1 hxf2 hxl; refine hp.mono ?_; rintro _ w7 ⟨rfl, h7⟩; clear hp; have hF7 := HF6.out.go ⟨rfl, h7⟩ (brX_le e1); have HF7 := Lib.hid hF7; clear h7; have hp := sep_any w7 w0.heap.size g _ _ sCo hF7.c.p hF7.c.ge w4; clear hF7; go_wp2_with fail; refine hp.mono ?_; rintro _ w8 ⟨rfl, h8⟩; clear hp; have hF8 := HF7.out.go ⟨rfl, h8⟩ (Nat.zero_le _); have HF8 := Lib.hid hF8; clear h8; have hp := HE2.out w8 _ _ hF8.c HX2.out v5; obtain ⟨r0, r1, r2⟩ := hq2 _ hF8.c.b; have hlw8 : b0 < w8.heap.size := by have := hF8.c.b.size; omega
 have hx := hF8.x; have hxl := hx.lt; have hxc0 := hx.cell 0 _ rfl; have hxf0 := hx.frozen 0; have hxc1 := hx.cell 1 _ rfl; have hxf1 := hx.frozen 1; have hxc2 := hx.cell 2 _ rfl; have hxf2 := hx.frozen 2; clear hx; clear hF8 hq2; go_wp2_with fail; clear r0 r1 r2; clear hxc0 hxc1 hxc2 hxf0 hxf1 hxf2 hxl; refine hp.mono ?_; rintro _ w9 ⟨rfl, h9⟩; clear hp; have hF9 := HF8.out.go ⟨rfl, h9⟩ (brX_le e2); have HF9 := Lib.hid hF9; clear h9; clear hF9; go_wp2_with fail; refine bodyPost_end (v := .tuple #[]) (by simp [results, Tryz.results76, go_sem]) rfl ?_
 have hF9 := HF9.out; simp only [List.append_assoc, List.cons_append, List.nil_append] at hF9; exact hF9.fin (by omega)
theorem two_any (op text : ByteArray) (e0 e1 : Exp) (hop : op ≠ oName /\ op ≠ oNum /\ op ≠ oText /\ op ≠ oCall /\ op ≠ oList /\ op ≠ oAt) (hlv : lvN op <= 8) (hlv2 : -1 <= lvN op) (hE0 : ExprC e0) (hE1 : ExprC e1) (hT : Tab w0) (hC : Cx w0 w g P n) (hX : ExpAt w0 (.mk op text [e0, e1]) (expV o t (.slice a k c))) (hw : wt (P ++ pcX (.mk op text [e0, e1])) <= 1000000) :
  Calls Tryz.prog 77 #[.pointer (some ⟨g, 0, none⟩), exV o t (.slice a k c)] w (Prt w0.heap.size g P (pcX (.mk op text [e0, e1])) n (brX (.mk op text [e0, e1])) w) := by
 have hbr : brX (.mk op text [e0, e1]) = brkN (lvN op) (lvN e0.op, brX e0) + brkN (lvN op + 1) (lvN e1.op, brX e1) := by
  simp only [brX, brs]; unfold brK; rw [if_neg hop.1, if_neg hop.2.1, if_neg hop.2.2.1, if_neg hop.2.2.2.1, if_neg hop.2.2.2.2.1]; simp only; rw [if_neg hop.2.2.2.2.2]
 rw [pc_two text e0 e1 hop] at hw ⊢; rw [hbr]; obtain ⟨rfl, rfl, a', c', hsl, hkc, hcm⟩ := exp_top hX; cases hsl
 obtain ⟨b0, off0, ko0, kt0, ka0, kn0, kc0, he0, hlt0, hq0, hX0, -⟩ := kid_cells hX (i := 0) (by simp)
 simp only [Nat.reduceMul, Nat.zero_mul, Nat.one_mul, Nat.add_zero] at hq0; obtain ⟨b1, off1, ko1, kt1, ka1, kn1, kc1, he1, hlt1, hq1, hX1, -⟩ := kid_cells hX (i := 1) (by simp)
 simp only [Nat.reduceMul, Nat.zero_mul, Nat.one_mul, Nat.add_zero] at hq1; subst he0; cases he1
 have hF := Fx.start hC #[.string o, .string t, .slice (some ⟨b0, off0, none⟩) 2 c]; have w1 : wt (P ++ brk (lvN o) (lvN e0.op, pcX e0)) <= 1000000 := by simp only [wt_app, wt_some, wt_none, wt_nil] at hw ⊢; omega
 have w2 : wt (P ++ brk (lvN o) (lvN e0.op, pcX e0) ++ [none, pS o, none]) <= 1000000 := by simp only [wt_app, wt_some, wt_none, wt_nil] at hw ⊢; omega
 have w3 : wt (P ++ brk (lvN o) (lvN e0.op, pcX e0) ++ [none, pS o, none] ++ brk (lvN o + 1) (lvN e1.op, pcX e1)) <= 1000000 := by simp only [wt_app, wt_some, wt_none, wt_nil] at hw ⊢; omega
 have hLv := Level_any o (w.alloc (.cells #[.string o, .string t, .slice (some ⟨b0, off0, none⟩) 2 c] 24)); have hp := least_any hE0 w0 _ g n P ko0 kt0 ka0 kn0 kc0 (lvN o) hT hF.c hX0 w1; obtain ⟨r0, r1, r2⟩ := hq0 _ hC.b; have HF := Lib.hid hF; have HE1 := Lib.hid (fun W m Q => least_any hE1 w0 W g m Q ko1 kt1 ka1 kn1 kc1 (lvN o + 1) hT); have HX1 := Lib.hid hX1; have hlw : b0 < w.heap.size := by have := hC.b.size; omega
 generalize lvN o = L at *; clear hF hC hX hw hX0 hE0 hE1 hT hq0 hbr hX1 hop; go_enter Tryz.func77, Tryz.ntmps77; go_wp2_with (go_at_call 63; refine hLv.mono ?_; rintro _ _ ⟨rfl, rfl⟩)
 clear r0 r1 r2 hLv; refine hp.mono ?_; rintro _ w5 ⟨rfl, h5⟩; clear hp; have hF5 := HF.out.go ⟨rfl, h5⟩ (brkN_le (brX_le e0)); have HF5 := Lib.hid hF5; clear h5; have hp := sep_any w5 w0.heap.size g _ _ o hF5.c.p hF5.c.ge w2; have hx := hF5.x; have hxl := hx.lt; have hxc0 := hx.cell 0 _ rfl; have hxf0 := hx.frozen 0; have hxc1 := hx.cell 1 _ rfl; have hxf1 := hx.frozen 1; have hxc2 := hx.cell 2 _ rfl; have hxf2 := hx.frozen 2; clear hx; clear hF5; go_wp2_with fail; clear hxc0 hxc1 hxc2 hxf0 hxf1 hxf2 hxl; refine hp.mono ?_; rintro _ w6 ⟨rfl, h6⟩; clear hp; have hF6 := HF5.out.go ⟨rfl, h6⟩ (Nat.zero_le _); have HF6 := Lib.hid hF6; clear h6; have hp := HE1.out w6 _ _ hF6.c HX1.out w3; obtain ⟨r0, r1, r2⟩ := hq1 _ hF6.c.b; have hlw6 : b0 < w6.heap.size := by have := hF6.c.b.size; omega
 have hx := hF6.x; have hxl := hx.lt; have hxc0 := hx.cell 0 _ rfl; have hxf0 := hx.frozen 0; have hxc1 := hx.cell 1 _ rfl; have hxf1 := hx.frozen 1; have hxc2 := hx.cell 2 _ rfl; have hxf2 := hx.frozen 2; clear hx; clear hF6 hq1; go_wp2_with fail; clear r0 r1 r2; clear hxc0 hxc1 hxc2 hxf0 hxf1 hxf2 hxl; refine hp.mono ?_; rintro _ w7 ⟨rfl, h7⟩; clear hp; have hF7 := HF6.out.go ⟨rfl, h7⟩ (brkN_le (brX_le e1)); have HF7 := Lib.hid hF7; clear h7; clear hF7; go_wp2_with fail; refine bodyPost_end (v := .tuple #[]) (by simp [results, Tryz.results77, go_sem]) rfl ?_
 have hF7 := HF7.out; simp only [List.append_assoc, List.cons_append, List.nil_append] at hF7; exact hF7.fin (by omega)
theorem text_any (text : ByteArray) (hv : validB text = true) (hT : Tab w0) (hC : Cx w0 w g P n) (hX : ExpAt w0 (.mk oText text []) (expV o t (.slice a k c))) (hw : wt (P ++ pcX (.mk oText text [])) <= 1000000) (hs : text.size <= 1048576) :
  Calls Tryz.prog 69 #[.pointer (some ⟨g, 0, none⟩), exV o t (.slice a k c)] w (Prt w0.heap.size g P (pcX (.mk oText text [])) n (brX (.mk oText text [])) w) := by
 have hbr : brX (.mk oText text []) = 0 := rfl; rw [pc_text] at hw ⊢; rw [hbr]; obtain ⟨rfl, rfl, a', c', hsl, hkc, hcm⟩ := exp_top hX; cases hsl
 have hF := Fx.start hC #[.string oText, .string t, .slice a 0 c]; have hTW : Tab (w.alloc (.cells #[.string oText, .string t, .slice a 0 c] 24)) := hT.below hF.c.b hT.pos; have hp := Print_yes t _ hs hTW hv; have HF := Lib.hid hF; have HW := Lib.hid hw; clear hF hC hX hw hT hTW hbr hv; go_enter Tryz.func69, Tryz.ntmps69; go_wp2_with fail; refine hp.mono ?_; clear hp; rintro _ w5 ⟨rfl, hb5⟩; have hF5 := HF.out.below hb5; have hp := put_any w5 w0.heap.size g _ 3 _ (quoS t) hF5.c.p hF5.c.ge HW.out; have HF5 := Lib.hid hF5; clear hF5 hb5; go_wp2_with fail; refine hp.mono ?_; rintro _ w6 ⟨rfl, h6⟩; clear hp; have hF6 := HF5.out.go ⟨rfl, h6⟩ (Nat.zero_le _); have HF6 := Lib.hid hF6; clear h6; clear hF6; go_wp2_with fail; refine bodyPost_end (v := .tuple #[]) (by simp [results, Tryz.results69, go_sem]) rfl ?_
 exact HF6.out.fin (by omega)
end
def comP (l : List Exp) : Pcs := commas ((pcs l).map (·.2))
def sumB (l : List Exp) : Nat := sumN ((brs l).map (·.2))
theorem comP_app : ∀ (l m : List Exp), ∃ X, comP (l ++ m) = comP l ++ X
 | [], m => ⟨comP m, rfl⟩
 | [a], [] => ⟨[], by simp⟩
 | [a], b :: r => ⟨pS sComma :: none :: comP (b :: r), rfl⟩
 | a :: b :: r, m => by
  obtain ⟨X, h⟩ := comP_app (b :: r) m; refine ⟨X, ?_⟩; show pcX a ++ pS sComma :: none :: comP (b :: r ++ m) = (pcX a ++ pS sComma :: none :: comP (b :: r)) ++ X; rw [h]; simp
theorem comP_snoc : ∀ (l : List Exp) (a : Exp), comP (l ++ [a]) = if l = [] then pcX a else comP l ++ ([pS sComma] ++ ([none] ++ pcX a))
 | [], a => rfl
 | [b], a => rfl
 | b :: d :: r, a => by
  have h := comP_snoc (d :: r) a; rw [if_neg (by simp)] at h ⊢
  show pcX b ++ pS sComma :: none :: comP (d :: r ++ [a]) = (pcX b ++ pS sComma :: none :: comP (d :: r)) ++ _; rw [h]; simp
theorem sumB_snoc : ∀ (l : List Exp) (a : Exp), sumB (l ++ [a]) = sumB l + brX a
 | [], a => by simp [sumB, brs, sumN]
 | b :: r, a => by
  have h := sumB_snoc r a; simp only [sumB, List.cons_append, brs, List.map_cons, sumN] at h ⊢; omega
theorem comP_take (l : List Exp) (j : Nat) : wt (comP (l.take j)) <= wt (comP l) := by
 obtain ⟨X, h⟩ := comP_app (l.take j) (l.drop j); rw [List.take_append_drop] at h; rw [h, wt_app]; omega
def MnR (w0 w : World) (g n : Nat) (P : Pcs) (s1 : ByteArray) (kids : List Exp) (i : Value) (wr : World) : Prop :=
 ∃ j : Nat, i = .int .i64 (j : Nat) /\ j <= kids.length /\ Cx w0 wr g (P ++ [pS s1] ++ comP (kids.take j)) (n + sumB (kids.take j)) /\ Below w0.heap.size w wr /\ BesP g w wr
theorem pMany_any (w0 w : World) (g n : Nat) (P : Pcs) (a : Option Addr) (c : Nat) (o t s1 s2 : ByteArray) (kids : List Exp) (hE : ∀ k ∈ kids, ExprC k) (hT : Tab w0) (hC : Cx w0 w g P n) (hX : ExpAt w0 (.mk o t kids) (expV o t (.slice a kids.length c))) (hm : c <= maxLen) (hkc : kids.length <= c)
  (hw : wt (P ++ [pS s1] ++ comP kids ++ [pS s2]) <= 1000000) :
  Calls Tryz.prog 72 #[.pointer (some ⟨g, 0, none⟩), .string s1, .slice a kids.length c, .string s2] w (Prt w0.heap.size g P (pS s1 :: (comP kids ++ [pS s2])) n (sumB kids) w) := by
 unfold maxLen at hm; have w1 : wt (P ++ [pS s1]) <= 1000000 := by simp only [wt_app, wt_some, wt_none, wt_nil] at hw ⊢; omega
 have hp := pSign_any w w0.heap.size g n P s1 hC.p hC.ge w1; have HC := Lib.hid hC; have HK := Lib.hid (fun (i : Nat) (hi : i < kids.length) => kid_cells hX hi); have HE := Lib.hid hE; have HT := Lib.hid hT; have HW := Lib.hid hw; clear hC hX hE hT hw w1; go_enter Tryz.func72, Tryz.ntmps72; go_wp2_with fail; refine hp.mono ?_; rintro _ w5 ⟨rfl, h5⟩; clear hp
 have hst : MnR w0 w g n P s1 kids (.int .i64 0) w5 := ⟨0, rfl, Nat.zero_le _, by
  have := HC.out.go (e := .returned (.tuple #[])) ⟨rfl, h5⟩ (Nat.zero_le _)
  simpa [comP, sumB, pcs, brs, commas, sumN] using this, h5.2.1, h5.2.2⟩
 have HST := Lib.hid hst; clear hst h5 HC; go_wp2_with fail; go_loopw [8, 9, 15] (fun _ _ i wr => MnR w0 w g n P s1 kids i wr) (fun _ _ i _ => kids.length - (intOf i).toNat)
 case atStart => exact HST.out
 case round =>
  clear HST; obtain ⟨j, rfl, hj, hC, hb, hs⟩ := hrel
  by_cases hjl : j < kids.length
  ·obtain ⟨b, off, ko, kt, ka, kn, kc, rfl, hlt, hq, hX, -⟩ := HK.out j hjl
   obtain ⟨r0, r1, r2⟩ := hq _ hC.b; have hlw : b < wr.heap.size := by have := hC.b.size; omega
   have hF := Fx.start hC #[.string ko, .string kt, .slice ka kn kc]; have htk : kids.take (j + 1) = kids.take j ++ [kids[j]] := by rw [List.take_add_one, List.getElem?_eq_getElem hjl]; rfl
   have hwj := comP_take kids (j + 1); have hEj := HE.out kids[j] (List.getElem_mem hjl); have hsum := sumB_snoc (kids.take j) kids[j]; have hcom := comP_snoc (kids.take j) kids[j]; rw [<- htk] at hsum hcom; have HB := Lib.hid (And.intro hb hs); clear hq hb hs
   by_cases hj0 : j = 0
   ·subst hj0
    rw [if_pos (by simp)] at hcom
    simp only [Nat.zero_mul, Nat.add_zero] at r0 r1 r2
    have hp := hEj w0 _ g _ _ ko kt ka kn kc HT.out hF.c hX (by
     have := HW.out; rw [hcom] at hwj; simp only [List.take_zero]; rw [show comP [] = [] from rfl]; simp only [wt_app, wt_some, wt_none, wt_nil] at this ⊢
     omega)
    have HF := Lib.hid hF; have HS := Lib.hid (And.intro hsum hcom); clear hF hX hEj hwj hsum hcom hC htk; go_wp2_with fail; clear r0 r1 r2; refine hp.mono ?_; rintro _ w6 ⟨rfl, h6⟩; clear hp; have hF6 := HF.out.go ⟨rfl, h6⟩ (brX_le _); have HF6 := Lib.hid hF6; clear h6; clear hF6; go_wp2_with fail; go_roundw
    case rel =>
     have h6 := HF6.out; refine ⟨1, by go_num, hjl, ?_, HB.out.1.trans h6.b, HB.out.2.trans h6.s⟩
     have h7 := h6.c; rw [HS.out.1, HS.out.2]
     simpa [comP, sumB, pcs, brs, commas, sumN] using h7
    case measure => simp [intOf]; omega
   ·rw [if_neg (by intro e; have := congrArg List.length e; rw [List.length_take, List.length_nil] at this; omega)] at hcom
    have hjp : (0 : Int) < (j : Int) := by omega
    have hwt := HW.out; rw [hcom] at hwj; have v1 : wt (P ++ [pS s1] ++ comP (kids.take j) ++ [pS sComma]) <= 1000000 := by simp only [wt_app, wt_some, wt_none, wt_nil] at hwt hwj ⊢; omega
    have v2 : wt (P ++ [pS s1] ++ comP (kids.take j) ++ [pS sComma] ++ [none]) <= 1000000 := by simp only [wt_app, wt_some, wt_none, wt_nil] at hwt hwj ⊢; omega
    have v3 : wt (P ++ [pS s1] ++ comP (kids.take j) ++ [pS sComma] ++ [none] ++ pcX kids[j]) <= 1000000 := by simp only [wt_app, wt_some, wt_none, wt_nil] at hwt hwj ⊢; omega
    have hp := pSign_any _ w0.heap.size g _ _ sComma hF.c.p hF.c.ge v1; have HF := Lib.hid hF; have HS := Lib.hid (And.intro hsum hcom); have HEJ := Lib.hid (fun W m Q => hEj w0 W g m Q ko kt ka kn kc HT.out); have HXJ := Lib.hid hX; clear hF hX hEj hwj hsum hcom hC htk hwt; go_wp2_with fail; clear r0 r1 r2; refine hp.mono ?_; rintro _ w6 ⟨rfl, h6⟩; clear hp; have hF6 := HF.out.go ⟨rfl, h6⟩ (Nat.zero_le _); have HF6 := Lib.hid hF6; clear h6; have hp := blank_any w6 w0.heap.size g _ _ hF6.c.p hF6.c.ge v2; clear hF6; go_wp2_with fail; refine hp.mono ?_; rintro _ w7 ⟨rfl, h7⟩; clear hp; have hF7 := HF6.out.go h7 (Nat.zero_le _); have HF7 := Lib.hid hF7; clear h7; have hp := HEJ.out w7 _ _ hF7.c HXJ.out v3; have hx := hF7.x; have hxl := hx.lt; have hxc0 := hx.cell 0 _ rfl; have hxf0 := hx.frozen 0; have hxc1 := hx.cell 1 _ rfl; have hxf1 := hx.frozen 1; have hxc2 := hx.cell 2 _ rfl; have hxf2 := hx.frozen 2; clear hx; clear hF7; go_wp2_with fail; clear hxc0 hxc1 hxc2 hxf0 hxf1 hxf2 hxl; refine hp.mono ?_; rintro _ w8 ⟨rfl, h8⟩; clear hp; have hF8 := HF7.out.go ⟨rfl, h8⟩ (brX_le _); have HF8 := Lib.hid hF8; clear h8; clear hF8; go_wp2_with fail; go_roundw
    case rel =>
     have h6 := HF8.out; refine ⟨j + 1, by go_num, hjl, ?_, HB.out.1.trans h6.b, HB.out.2.trans h6.s⟩
     have h7 := h6.c; rw [HS.out.1, HS.out.2]; simp only [List.append_assoc, Nat.add_zero, Nat.add_assoc] at h7 ⊢; exact h7
    case measure => simp [intOf]; omega
  ·obtain rfl : j = kids.length := by omega
   rw [List.take_length] at hC; have hp := pSign_any wr w0.heap.size g _ _ s2 hC.p hC.ge HW.out; have HB := Lib.hid (And.intro hC (And.intro hb hs)); clear hC hb hs; go_wp2_with fail; refine hp.mono ?_; rintro _ w6 ⟨rfl, h6⟩; clear hp; go_wp2_with fail; refine bodyPost_end (v := .tuple #[]) (by simp [results, Tryz.results72, go_sem]) rfl ?_
   refine ⟨rfl, ?_, HB.out.2.1.trans h6.2.1, HB.out.2.2.trans h6.2.2⟩; have h7 := h6.1; simp only [List.append_assoc, Nat.add_zero, List.cons_append, List.nil_append] at h7 ⊢; exact h7
theorem ret3_below {w w5 : World} (h : Below w.heap.size w w5) (o : Obj) (a b c : Value) : Below w.heap.size w ((((w5.setCell ⟨w.heap.size + 1, 0, none⟩ a).setCell ⟨w.heap.size + 1, 0, none⟩ b).setCell ⟨w.heap.size + 1, 1, none⟩ c).alloc o) :=
 (((h.setCell (by show w.heap.size <= w.heap.size + 1; omega) _).setCell (by show w.heap.size <= w.heap.size + 1; omega) _).setCell (by show w.heap.size <= w.heap.size + 1; omega) _).alloc (by show w.heap.size <= (((w5.setCell _ _).setCell _ _).setCell _ _).heap.size; rw [World.size_setCell, World.size_setCell, World.size_setCell]; exact h.size) o
def MrR (w : World) (kids : List Exp) (i : Value) (wr : World) : Prop :=
 ∃ (j n : Nat) (S : ByteArray), i = .int .i64 (j : Nat) /\ j <= kids.length /\ Cells wr (w.heap.size + 1) #[.string S, .int .i64 (n : Nat)] 46 /\ Cells wr w.heap.size #[.string ⟨#[]⟩, .int .i64 0] 46 /\ Hid (S.data.toList = catP (comP (kids.take j)) /\ n = sumB (kids.take j) /\ Below w.heap.size w wr)
theorem sumB_le (kids : List Exp) : sumB kids <= wt (comP kids) := sum_le kids (fun k _ => brX_le k)
theorem catP_wt (P : Pcs) : (catP P).length <= wt P := by unfold wt; omega
theorem rMany_any (w : World) (a : Option Addr) (c : Nat) (o t : ByteArray) (kids : List Exp) (hE : ∀ k ∈ kids, OfC k) (hX : ExpAt w (.mk o t kids) (expV o t (.slice a kids.length c))) (hw : wt (comP kids) <= 500000) :
  Calls Tryz.prog 31 #[.slice a kids.length c] w (OfP (comP kids) (sumB kids) w) := by
 have hkc : kids.length <= c /\ c <= maxLen := by
  obtain ⟨-, -, a', c', h1, h2, h3⟩ := exp_top hX; cases h1
  exact ⟨h2, h3⟩
 unfold maxLen at hkc; have hk1 := hkc.1; have hk2 := hkc.2; have HK := Lib.hid (fun (i : Nat) (hi : i < kids.length) => kid_cells hX hi); have HE := Lib.hid hE; have HW := Lib.hid hw; clear hX hE hw hkc; go_enter Tryz.func31, Tryz.ntmps31; go_wp2_with fail; go_loopw [4] (fun i wr => MrR w kids i wr) (fun i _ => kids.length - (intOf i).toNat)
 case atStart =>
  have h0 := (Cells.new w #[.string ⟨#[]⟩, .int .i64 0] 46).alloc (.cells #[.string ⟨#[]⟩, .int .i64 0] 46); have h1 := Cells.new (w.alloc (.cells #[.string ⟨#[]⟩, .int .i64 0] 46)) #[.string ⟨#[]⟩, .int .i64 0] 46; simp only [World.size_alloc] at h1; exact ⟨0, 0, ⟨#[]⟩, rfl, Nat.zero_le _, h1, h0, Lib.hid ⟨rfl, rfl, ((Below.refl _ w).alloc (Nat.le_refl _) _).alloc (by simp) _⟩⟩
 case round =>
  obtain ⟨j, n, S, rfl, hj, hc1, hc0, HI⟩ := hrel; have hl0 := hc0.lt; have hl1 := hc1.lt
  by_cases hjl : j < kids.length
  ·obtain ⟨b, off, ko, kt, ka, kn, kc, rfl, hlt, hq, hX, -⟩ := HK.out j hjl
   obtain ⟨r0, r1, r2⟩ := hq _ HI.out.2.2; have hlw : b < wr.heap.size := by have := HI.out.2.2.size; omega
   have htk : kids.take (j + 1) = kids.take j ++ [kids[j]] := by rw [List.take_add_one, List.getElem?_eq_getElem hjl]; rfl
   have hwj := comP_take kids (j + 1); have hEj := HE.out kids[j] (List.getElem_mem hjl); have hsum := sumB_snoc (kids.take j) kids[j]; have hcom := comP_snoc (kids.take j) kids[j]; rw [<- htk] at hsum hcom; have hXr := ExpAt.below HI.out.2.2 _ _ hX
   have hS1 : S.size <= 500000 := by
    rw [size_list, HI.out.1]; have h1 := catP_wt (comP (kids.take j)); have h2 := comP_take kids j; have := HW.out; omega
   have hn1 : n <= 500000 := by
    rw [HI.out.2.1]; have h1 := sumB_le (kids.take j); have h2 := comP_take kids j; have := HW.out; omega
   have hwk : wt (pcX kids[j]) <= 500000 := by
    have := HW.out; rw [hcom] at hwj; split at hwj
    ·omega
    ·rw [wt_app, wt_app, wt_app] at hwj; omega
   have hp := hEj wr ko kt ka kn kc hXr (by omega)
   have hb1 := brX_le kids[j]; have hs1 := ptS_size (pcX kids[j]); have hss := ptS_list (pcX kids[j]); unfold OfP at hp; have HSS := Lib.hid (And.intro hss (And.intro hsum hcom)); obtain ⟨bx, hbx⟩ : ∃ x, brX kids[j] = x := ⟨_, rfl⟩; have hbx2 : bx <= 500000 := by omega
   have hs2 : (ptS (pcX kids[j])).size <= 500000 := by omega
   rw [hbx] at hp HSS; generalize ptS (pcX kids[j]) = T at *; clear hq hX hXr htk hwj hEj hsum hcom hss hwk hb1 hs1 hbx; have HC := Lib.hid (And.intro hc0 hc1); clear hc0 hc1; go_wp2_with fail; refine hp.mono ?_; clear hp r0 r1 r2; rintro _ w5 ⟨rfl, hb5⟩; have hc0 := HC.out.1.below hb5 hl0; have hc1 := HC.out.2.below hb5 hl1; have HB5 := Lib.hid (HI.out.2.2.trans (hb5.mono HI.out.2.2.size)); have hm0 := hc0.lt; have hm1 := hc1.lt; have HC5 := Lib.hid (And.intro hc0 hc1); clear hb5 HC; have hc1c0 := hc1.cell 0 _ rfl; have hc1f0 := hc1.frozen 0; have hc1c1 := hc1.cell 1 _ rfl; have hc1f1 := hc1.frozen 1; clear hc0 hc1
   by_cases hj0 : j = 0
   ·subst hj0
    go_wp2_with fail; go_roundw
    case rel =>
     have hqq := ((HC5.out.2.setI 0 (.string (S ++ T))).setI 1 (.int .i64 ((n : Int) + (bx : Int)))).alloc (.cells #[.string T, .int .i64 (bx : Nat)] 46); have hq0 := ((HC5.out.1.setOther ⟨w.heap.size + 1, 0, none⟩ (.string (S ++ T)) (by show w.heap.size + 1 ≠ _; omega)).setOther ⟨w.heap.size + 1, 1, none⟩ (.int .i64 ((n : Int) + (bx : Int))) (by show w.heap.size + 1 ≠ _; omega)).alloc (.cells #[.string T, .int .i64 (bx : Nat)] 46)
     refine ⟨1, n + bx, S ++ T, by go_num, hjl, by rw [Int.natCast_add]; exact hqq, hq0, Lib.hid ⟨?_, ?_, ret2_below HB5.out _ _ _⟩⟩
     ·rw [app_list, HI.out.1, HSS.out.1, HSS.out.2.2, if_pos (by simp)]
      rfl
     ·rw [HSS.out.2.1, HI.out.2.1]
    case measure => simp [intOf]; omega
   ·have hjp : (0 : Int) < (j : Int) := by omega
    go_wp2_with fail; go_roundw
    case rel =>
     have hqq := (((HC5.out.2.setI 0 (.string (S ++ ⟨#[44, 32]⟩))).setI 0 (.string (S ++ ⟨#[44, 32]⟩ ++ T))).setI 1 (.int .i64 ((n : Int) + (bx : Int)))).alloc (.cells #[.string T, .int .i64 (bx : Nat)] 46); have hq0 := (((HC5.out.1.setOther ⟨w.heap.size + 1, 0, none⟩ (.string (S ++ ⟨#[44, 32]⟩)) (by show w.heap.size + 1 ≠ _; omega)).setOther ⟨w.heap.size + 1, 0, none⟩ (.string (S ++ ⟨#[44, 32]⟩ ++ T)) (by show w.heap.size + 1 ≠ _; omega)).setOther ⟨w.heap.size + 1, 1, none⟩ (.int .i64 ((n : Int) + (bx : Int))) (by show w.heap.size + 1 ≠ _; omega)).alloc (.cells #[.string T, .int .i64 (bx : Nat)] 46)
     refine ⟨j + 1, n + bx, S ++ ⟨#[44, 32]⟩ ++ T, by go_num, hjl, by rw [Int.natCast_add]; exact hqq, hq0, Lib.hid ⟨?_, ?_, ret3_below HB5.out _ _ _ _⟩⟩
     ·rw [app_list, app_list, HI.out.1, HSS.out.1, HSS.out.2.2, if_neg (by intro e; have := congrArg List.length e; rw [List.length_take, List.length_nil] at this; omega), catP_app, catP_app, catP_app]
      simp only [List.append_assoc]; rfl
     ·rw [HSS.out.2.1, HI.out.2.1]
    case measure => simp [intOf]; omega
  ·obtain rfl : j = kids.length := by omega
   rw [List.take_length] at HI; have hc1c0 := hc1.cell 0 _ rfl; have hc1f0 := hc1.frozen 0; have hc1c1 := hc1.cell 1 _ rfl; have hc1f1 := hc1.frozen 1; have hc0c0 := hc0.cell 0 _ rfl; have hc0f0 := hc0.frozen 0; have hc0c1 := hc0.cell 1 _ rfl; have hc0f1 := hc0.frozen 1; have HC := Lib.hid (And.intro hc0 hc1); clear hc0 hc1; go_wp2_with fail; have hq := (HC.out.1.setI 0 (.string S)).setI 1 (.int .i64 (n : Nat)); have zz0 := hq.cell 0 _ rfl; have zz1 := hq.cell 1 _ rfl; refine bodyPost_ret (v := .agg #[.string S, .int .i64 (n : Nat)]) (by simp [results, Tryz.results31, go_sem, zz0, zz1]) rfl ?_
   refine ofP_same HI.out.1 (by rw [HI.out.2.1]) ?_
   exact (HI.out.2.2.setCell (by show w.heap.size <= w.heap.size; omega) _).setCell (by show w.heap.size <= w.heap.size; omega) _
abbrev ofW (w : World) (o t : ByteArray) (s : Value) : World := (w.alloc (.cells #[.string o, .string t, s] 24)).alloc (.cells #[.string ⟨#[]⟩, .int .i64 0] 46)
theorem ofW_below (w : World) (o t : ByteArray) (s : Value) : Below w.heap.size w (ofW w o t s) := ((Below.refl _ w).alloc (Nat.le_refl _) _).alloc (by simp) _
theorem ofW_e (w : World) (o t : ByteArray) (s : Value) : Cells (ofW w o t s) w.heap.size #[.string o, .string t, s] 24 := (Cells.new w _ _).alloc _
theorem ofW_r (w : World) (o t : ByteArray) (s : Value) : Cells (ofW w o t s) (w.heap.size + 1) #[.string ⟨#[]⟩, .int .i64 0] 46 := by
 have h := Cells.new (w.alloc (.cells #[.string o, .string t, s] 24)) #[.string ⟨#[]⟩, .int .i64 0] 46; simp only [World.size_alloc] at h; exact h
section
variable (w : World) (o t : ByteArray) (a : Option Addr) (k c : Nat)
theorem of_name (text : ByteArray) (hX : ExpAt w (.mk oName text []) (expV o t (.slice a k c))) :
  Calls Tryz.prog 16 #[exV o t (.slice a k c)] w (OfP (pcX (.mk oName text [])) (brX (.mk oName text [])) w) := by
 obtain ⟨rfl, rfl, a', c', hsl, hkc, hcm⟩ := exp_top hX; cases hsl
 rw [pc_name, show brX (.mk oName t []) = 0 from rfl]; have HB := Lib.hid ((((Below.refl _ w).alloc (Nat.le_refl _) (.cells #[.string oName, .string t, .slice a 0 c] 24))).alloc (by simp) (.cells #[.string t, .int .i64 0] 46))
 have hq := Cells.new (w.alloc (.cells #[.string oName, .string t, .slice a 0 c] 24)) #[.string t, .int .i64 0] 46; have HQ := Lib.hid hq; clear hX hq; go_enter Tryz.func16, Tryz.ntmps16; go_wp2_with fail; have hq := HQ.out; simp only [World.size_alloc] at hq; have zz0 := hq.cell 0 _ rfl; have zz1 := hq.cell 1 _ rfl; refine bodyPost_ret (v := .agg #[.string t, .int .i64 0]) (by simp [results, Tryz.results16, go_sem, zz0, zz1]) rfl ?_
 refine ofP_same ?_ rfl HB.out; simp [catP]
theorem of_num (text : ByteArray) (hX : ExpAt w (.mk oNum text []) (expV o t (.slice a k c))) :
  Calls Tryz.prog 16 #[exV o t (.slice a k c)] w (OfP (pcX (.mk oNum text [])) (brX (.mk oNum text [])) w) := by
 obtain ⟨rfl, rfl, a', c', hsl, hkc, hcm⟩ := exp_top hX; cases hsl
 rw [pc_num, show brX (.mk oNum t []) = 0 from rfl]; have HB := Lib.hid ((((Below.refl _ w).alloc (Nat.le_refl _) (.cells #[.string oNum, .string t, .slice a 0 c] 24))).alloc (by simp) (.cells #[.string t, .int .i64 0] 46))
 have hq := Cells.new (w.alloc (.cells #[.string oNum, .string t, .slice a 0 c] 24)) #[.string t, .int .i64 0] 46; have HQ := Lib.hid hq; clear hX hq; go_enter Tryz.func16, Tryz.ntmps16; go_wp2_with fail; have hq := HQ.out; simp only [World.size_alloc] at hq; have zz0 := hq.cell 0 _ rfl; have zz1 := hq.cell 1 _ rfl; refine bodyPost_ret (v := .agg #[.string t, .int .i64 0]) (by simp [results, Tryz.results16, go_sem, zz0, zz1]) rfl ?_
 refine ofP_same ?_ rfl HB.out; simp [catP]
theorem of_text (text : ByteArray) (hs : text.size <= 1048576) (hX : ExpAt w (.mk oText text []) (expV o t (.slice a k c))) :
  Calls Tryz.prog 16 #[exV o t (.slice a k c)] w (OfP (pcX (.mk oText text [])) (brX (.mk oText text [])) w) := by
 obtain ⟨rfl, rfl, a', c', hsl, hkc, hcm⟩ := exp_top hX; cases hsl
 rw [pc_text, show brX (.mk oText t []) = 0 from rfl]; have hp := qrPrint_any t (ofW w oText t (.slice a 0 c)) hs; change Calls _ _ _ _ (fun e w' => e = .returned (.string (quoS t)) /\ _) at hp; unfold ofW at hp; clear hX; go_enter Tryz.func16, Tryz.ntmps16; go_wp2_with fail; refine hp.mono ?_; clear hp; rintro _ w5 ⟨rfl, hb5⟩; have hc0 := (ofW_e w oText t (.slice a 0 c)).below hb5 (ofW_e w oText t (.slice a 0 c)).lt; have hc1 := (ofW_r w oText t (.slice a 0 c)).below hb5 (ofW_r w oText t (.slice a 0 c)).lt; have HB5 := Lib.hid ((ofW_below w oText t (.slice a 0 c)).trans (hb5.mono (ofW_below w oText t (.slice a 0 c)).size)); have hl0 := hc0.lt; have hl1 := hc1.lt; have HC5 := Lib.hid hc1; clear hb5; have hc0c0 := hc0.cell 0 _ rfl; have hc0f0 := hc0.frozen 0; have hc0c1 := hc0.cell 1 _ rfl; have hc0f1 := hc0.frozen 1; have hc0c2 := hc0.cell 2 _ rfl; have hc0f2 := hc0.frozen 2; have hc1c0 := hc1.cell 0 _ rfl; have hc1f0 := hc1.frozen 0; have hc1c1 := hc1.cell 1 _ rfl; have hc1f1 := hc1.frozen 1; clear hc0 hc1; go_wp2_with fail; have hq := (HC5.out.setI 0 (.string (quoS t))).setI 1 (.int .i64 0); have zz0 := hq.cell 0 _ rfl; have zz1 := hq.cell 1 _ rfl; refine bodyPost_ret (v := .agg #[.string (quoS t), .int .i64 0]) (by simp [results, Tryz.results16, go_sem, zz0, zz1]) rfl ?_
 refine ofP_same ?_ rfl ((HB5.out.setCell (by show w.heap.size <= w.heap.size + 1; omega) _).setCell (by show w.heap.size <= w.heap.size + 1; omega) _)
 simp [catP]
theorem of_call (text : ByteArray) (kids : List Exp) (hE : ∀ k ∈ kids, OfC k) (hX : ExpAt w (.mk oCall text kids) (expV o t (.slice a k c))) (hw : wt (pcX (.mk oCall text kids)) <= 500000) (ht : text.size <= 1048576) :
  Calls Tryz.prog 16 #[exV o t (.slice a k c)] w (OfP (pcX (.mk oCall text kids)) (brX (.mk oCall text kids)) w) := by
 obtain ⟨rfl, rfl, a', c', hsl, hkc, hcm⟩ := exp_top hX; cases hsl
 rw [pc_call] at hw ⊢; rw [show brX (.mk oCall t kids) = sumB kids from rfl]; change wt (some ⟨1, t, 0⟩ :: pS sLp :: (comP kids ++ [pS sRp])) <= 500000 at hw; show Calls _ _ _ _ (OfP (some ⟨1, t, 0⟩ :: pS sLp :: (comP kids ++ [pS sRp])) (sumB kids) w); have hwk : wt (comP kids) <= 500000 := by simp only [wt_some, wt_app, wt_nil] at hw; omega
 have hp := rMany_any (ofW w oCall t (.slice a kids.length c)) a c oCall t kids hE (ExpAt.below (ofW_below _ _ _ _) _ _ hX) hwk; have hss := ptS_list (comP kids); have hs1 : (ptS (comP kids)).size <= 500000 := Nat.le_trans (ptS_size _) hwk; have HSS := Lib.hid hss; have hbx2 : sumB kids <= 500000 := Nat.le_trans (sumB_le kids) hwk; unfold OfP at hp; generalize ptS (comP kids) = S at *; generalize sumB kids = bx at *; unfold ofW at hp; clear hX hE hw hwk hss; go_enter Tryz.func16, Tryz.ntmps16; go_wp2_with fail; refine hp.mono ?_; clear hp; rintro _ w5 ⟨rfl, hb5⟩; have hc0 := (ofW_e w oCall t (.slice a kids.length c)).below hb5 (ofW_e w oCall t (.slice a kids.length c)).lt; have hc1 := (ofW_r w oCall t (.slice a kids.length c)).below hb5 (ofW_r w oCall t (.slice a kids.length c)).lt; have HB5 := Lib.hid ((ofW_below w oCall t (.slice a kids.length c)).trans (hb5.mono (ofW_below w oCall t (.slice a kids.length c)).size)); have hl0 := hc0.lt; have hl1 := hc1.lt; have HC5 := Lib.hid hc1; clear hb5; have hc0c0 := hc0.cell 0 _ rfl; have hc0f0 := hc0.frozen 0; have hc0c1 := hc0.cell 1 _ rfl; have hc0f1 := hc0.frozen 1; have hc0c2 := hc0.cell 2 _ rfl; have hc0f2 := hc0.frozen 2; have hc1c0 := hc1.cell 0 _ rfl; have hc1f0 := hc1.frozen 0; have hc1c1 := hc1.cell 1 _ rfl; have hc1f1 := hc1.frozen 1; clear hc0 hc1; go_wp2_with fail; have hq := ((HC5.out.setI 0 (.string (t ++ ⟨#[40]⟩ ++ S ++ ⟨#[41]⟩))).setI 1 (.int .i64 (bx : Nat))).alloc (.cells #[.string S, .int .i64 (bx : Nat)] 46); have zz0 := hq.cell 0 _ rfl
 have zz1 := hq.cell 1 _ rfl; refine bodyPost_ret (v := .agg #[.string (t ++ ⟨#[40]⟩ ++ S ++ ⟨#[41]⟩), .int .i64 (bx : Nat)]) (by simp [results, Tryz.results16, go_sem, zz0, zz1]) rfl ?_
 refine ofP_same ?_ rfl (ret2_below HB5.out _ _ _); simp only [app_list, HSS.out, catP, catP_app, List.append_assoc, List.append_nil]; rfl
theorem of_list (text : ByteArray) (kids : List Exp) (hE : ∀ k ∈ kids, OfC k) (hX : ExpAt w (.mk oList text kids) (expV o t (.slice a k c))) (hw : wt (pcX (.mk oList text kids)) <= 500000) (ht : text.size <= 1048576) :
  Calls Tryz.prog 16 #[exV o t (.slice a k c)] w (OfP (pcX (.mk oList text kids)) (brX (.mk oList text kids)) w) := by
 obtain ⟨rfl, rfl, a', c', hsl, hkc, hcm⟩ := exp_top hX; cases hsl
 rw [pc_list] at hw ⊢; rw [show brX (.mk oList t kids) = sumB kids from rfl]; change wt (pS sLb :: (comP kids ++ [pS sRb])) <= 500000 at hw; show Calls _ _ _ _ (OfP (pS sLb :: (comP kids ++ [pS sRb])) (sumB kids) w); have hwk : wt (comP kids) <= 500000 := by simp only [wt_some, wt_app, wt_nil] at hw; omega
 have hp := rMany_any (ofW w oList t (.slice a kids.length c)) a c oList t kids hE (ExpAt.below (ofW_below _ _ _ _) _ _ hX) hwk; have hss := ptS_list (comP kids); have hs1 : (ptS (comP kids)).size <= 500000 := Nat.le_trans (ptS_size _) hwk; have HSS := Lib.hid hss; have hbx2 : sumB kids <= 500000 := Nat.le_trans (sumB_le kids) hwk; unfold OfP at hp; generalize ptS (comP kids) = S at *; generalize sumB kids = bx at *; unfold ofW at hp; clear hX hE hw hwk hss; go_enter Tryz.func16, Tryz.ntmps16; go_wp2_with fail; refine hp.mono ?_; clear hp; rintro _ w5 ⟨rfl, hb5⟩; have hc0 := (ofW_e w oList t (.slice a kids.length c)).below hb5 (ofW_e w oList t (.slice a kids.length c)).lt; have hc1 := (ofW_r w oList t (.slice a kids.length c)).below hb5 (ofW_r w oList t (.slice a kids.length c)).lt; have HB5 := Lib.hid ((ofW_below w oList t (.slice a kids.length c)).trans (hb5.mono (ofW_below w oList t (.slice a kids.length c)).size)); have hl0 := hc0.lt; have hl1 := hc1.lt; have HC5 := Lib.hid hc1; clear hb5; have hc0c0 := hc0.cell 0 _ rfl; have hc0f0 := hc0.frozen 0; have hc0c1 := hc0.cell 1 _ rfl; have hc0f1 := hc0.frozen 1; have hc0c2 := hc0.cell 2 _ rfl; have hc0f2 := hc0.frozen 2; have hc1c0 := hc1.cell 0 _ rfl; have hc1f0 := hc1.frozen 0; have hc1c1 := hc1.cell 1 _ rfl; have hc1f1 := hc1.frozen 1; clear hc0 hc1; go_wp2_with fail; have hq := ((HC5.out.setI 0 (.string (⟨#[91]⟩ ++ S ++ ⟨#[93]⟩))).setI 1 (.int .i64 (bx : Nat))).alloc (.cells #[.string S, .int .i64 (bx : Nat)] 46); have zz0 := hq.cell 0 _ rfl
 have zz1 := hq.cell 1 _ rfl; refine bodyPost_ret (v := .agg #[.string (⟨#[91]⟩ ++ S ++ ⟨#[93]⟩), .int .i64 (bx : Nat)]) (by simp [results, Tryz.results16, go_sem, zz0, zz1]) rfl ?_
 refine ofP_same ?_ rfl (ret2_below HB5.out _ _ _); simp only [app_list, HSS.out, catP, catP_app, List.append_assoc, List.append_nil]; rfl
theorem of_get (text : ByteArray) (e0 : Exp) (hE0 : OfC e0) (hX : ExpAt w (.mk oGet text [e0]) (expV o t (.slice a k c))) (hw : wt (pcX (.mk oGet text [e0])) <= 500000) (ht : text.size <= 1048576) :
  Calls Tryz.prog 16 #[exV o t (.slice a k c)] w (OfP (pcX (.mk oGet text [e0])) (brX (.mk oGet text [e0])) w) := by
 obtain ⟨rfl, rfl, a', c', hsl, hkc, hcm⟩ := exp_top hX; cases hsl
 rw [pc_get] at hw ⊢; rw [show brX (.mk oGet t [e0]) = brkN 8 (lvN e0.op, brX e0) from rfl]; obtain ⟨b0, off0, ko0, kt0, ka0, kn0, kc0, he0, hlt0, hq0, hX0, -⟩ := kid_cells hX (i := 0) (by simp)
 simp only [Nat.reduceMul, Nat.zero_mul, Nat.one_mul, Nat.add_zero] at hq0; subst he0; have hwk : wt (brk 8 (lvN e0.op, pcX e0)) <= 500000 := by simp only [wt_some, wt_app, wt_nil] at hw; omega
 have hp := rLeast_any hE0 (ofW w oGet t (.slice (some ⟨b0, off0, none⟩) 1 c)) ko0 kt0 ka0 kn0 kc0 8 (ExpAt.below (ofW_below _ _ _ _) _ _ hX0) (by omega)
 obtain ⟨r0, r1, r2⟩ := hq0 _ (ofW_below w oGet t (.slice (some ⟨b0, off0, none⟩) 1 c)); have hss := ptS_list (brk 8 (lvN e0.op, pcX e0)); have hs1 : (ptS (brk 8 (lvN e0.op, pcX e0))).size <= 500000 := Nat.le_trans (ptS_size _) hwk; have HSS := Lib.hid hss; have hbx2 : brkN 8 (lvN e0.op, brX e0) <= 500000 := Nat.le_trans (brkN_le (brX_le e0)) hwk; unfold OfP at hp; generalize ptS (brk 8 (lvN e0.op, pcX e0)) = S at *; generalize brkN 8 (lvN e0.op, brX e0) = bx at *; unfold ofW at hp r0 r1 r2; clear hX hE0 hw hwk hss hq0 hX0; go_enter Tryz.func16, Tryz.ntmps16; go_wp2_with fail; clear r0 r1 r2; refine hp.mono ?_; clear hp; rintro _ w5 ⟨rfl, hb5⟩; have hc0 := (ofW_e w oGet t (.slice (some ⟨b0, off0, none⟩) 1 c)).below hb5 (ofW_e w oGet t (.slice (some ⟨b0, off0, none⟩) 1 c)).lt; have hc1 := (ofW_r w oGet t (.slice (some ⟨b0, off0, none⟩) 1 c)).below hb5 (ofW_r w oGet t (.slice (some ⟨b0, off0, none⟩) 1 c)).lt; have HB5 := Lib.hid ((ofW_below w oGet t (.slice (some ⟨b0, off0, none⟩) 1 c)).trans (hb5.mono (ofW_below w oGet t (.slice (some ⟨b0, off0, none⟩) 1 c)).size)); have hl0 := hc0.lt; have hl1 := hc1.lt; have HC5 := Lib.hid hc1; clear hb5; have hc0c0 := hc0.cell 0 _ rfl; have hc0f0 := hc0.frozen 0; have hc0c1 := hc0.cell 1 _ rfl; have hc0f1 := hc0.frozen 1; have hc0c2 := hc0.cell 2 _ rfl; have hc0f2 := hc0.frozen 2; have hc1c0 := hc1.cell 0 _ rfl; have hc1f0 := hc1.frozen 0; have hc1c1 := hc1.cell 1 _ rfl; have hc1f1 := hc1.frozen 1; clear hc0 hc1; go_wp2_with fail; have hq := ((HC5.out.setI 0 (.string (S ++ ⟨#[46]⟩ ++ t))).setI 1 (.int .i64 (bx : Nat))).alloc (.cells #[.string S, .int .i64 (bx : Nat)] 46)
 have zz0 := hq.cell 0 _ rfl; have zz1 := hq.cell 1 _ rfl; refine bodyPost_ret (v := .agg #[.string (S ++ ⟨#[46]⟩ ++ t), .int .i64 (bx : Nat)]) (by simp [results, Tryz.results16, go_sem, zz0, zz1]) rfl ?_
 refine ofP_same ?_ rfl (ret2_below HB5.out _ _ _); simp only [app_list, HSS.out, catP, catP_app, List.append_assoc, List.append_nil]; rfl
theorem of_bang (text : ByteArray) (e0 : Exp) (hE0 : OfC e0) (hX : ExpAt w (.mk sBang text [e0]) (expV o t (.slice a k c))) (hw : wt (pcX (.mk sBang text [e0])) <= 500000) (ht : text.size <= 1048576) :
  Calls Tryz.prog 16 #[exV o t (.slice a k c)] w (OfP (pcX (.mk sBang text [e0])) (brX (.mk sBang text [e0])) w) := by
 obtain ⟨rfl, rfl, a', c', hsl, hkc, hcm⟩ := exp_top hX; cases hsl
 rw [pc_bang] at hw ⊢; rw [show brX (.mk sBang t [e0]) = brkN 7 (lvN e0.op, brX e0) from rfl]; obtain ⟨b0, off0, ko0, kt0, ka0, kn0, kc0, he0, hlt0, hq0, hX0, -⟩ := kid_cells hX (i := 0) (by simp)
 simp only [Nat.reduceMul, Nat.zero_mul, Nat.one_mul, Nat.add_zero] at hq0; subst he0; have hwk : wt (brk 7 (lvN e0.op, pcX e0)) <= 500000 := by simp only [wt_some, wt_app, wt_nil] at hw; omega
 have hp := rLeast_any hE0 (ofW w sBang t (.slice (some ⟨b0, off0, none⟩) 1 c)) ko0 kt0 ka0 kn0 kc0 7 (ExpAt.below (ofW_below _ _ _ _) _ _ hX0) (by omega)
 obtain ⟨r0, r1, r2⟩ := hq0 _ (ofW_below w sBang t (.slice (some ⟨b0, off0, none⟩) 1 c)); have hss := ptS_list (brk 7 (lvN e0.op, pcX e0)); have hs1 : (ptS (brk 7 (lvN e0.op, pcX e0))).size <= 500000 := Nat.le_trans (ptS_size _) hwk; have HSS := Lib.hid hss; have hbx2 : brkN 7 (lvN e0.op, brX e0) <= 500000 := Nat.le_trans (brkN_le (brX_le e0)) hwk; unfold OfP at hp; generalize ptS (brk 7 (lvN e0.op, pcX e0)) = S at *; generalize brkN 7 (lvN e0.op, brX e0) = bx at *; unfold ofW at hp r0 r1 r2; clear hX hE0 hw hwk hss hq0 hX0; go_enter Tryz.func16, Tryz.ntmps16; go_wp2_with fail; clear r0 r1 r2; refine hp.mono ?_; clear hp; rintro _ w5 ⟨rfl, hb5⟩; have hc0 := (ofW_e w sBang t (.slice (some ⟨b0, off0, none⟩) 1 c)).below hb5 (ofW_e w sBang t (.slice (some ⟨b0, off0, none⟩) 1 c)).lt; have hc1 := (ofW_r w sBang t (.slice (some ⟨b0, off0, none⟩) 1 c)).below hb5 (ofW_r w sBang t (.slice (some ⟨b0, off0, none⟩) 1 c)).lt; have HB5 := Lib.hid ((ofW_below w sBang t (.slice (some ⟨b0, off0, none⟩) 1 c)).trans (hb5.mono (ofW_below w sBang t (.slice (some ⟨b0, off0, none⟩) 1 c)).size)); have hl0 := hc0.lt; have hl1 := hc1.lt; have HC5 := Lib.hid hc1; clear hb5; have hc0c0 := hc0.cell 0 _ rfl; have hc0f0 := hc0.frozen 0; have hc0c1 := hc0.cell 1 _ rfl; have hc0f1 := hc0.frozen 1; have hc0c2 := hc0.cell 2 _ rfl; have hc0f2 := hc0.frozen 2; have hc1c0 := hc1.cell 0 _ rfl; have hc1f0 := hc1.frozen 0; have hc1c1 := hc1.cell 1 _ rfl; have hc1f1 := hc1.frozen 1; clear hc0 hc1; go_wp2_with fail; have hq := ((HC5.out.setI 0 (.string (⟨#[33]⟩ ++ S))).setI 1 (.int .i64 (bx : Nat))).alloc (.cells #[.string S, .int .i64 (bx : Nat)] 46)
 have zz0 := hq.cell 0 _ rfl; have zz1 := hq.cell 1 _ rfl; refine bodyPost_ret (v := .agg #[.string (⟨#[33]⟩ ++ S), .int .i64 (bx : Nat)]) (by simp [results, Tryz.results16, go_sem, zz0, zz1]) rfl ?_
 refine ofP_same ?_ rfl (ret2_below HB5.out _ _ _); simp only [app_list, HSS.out, catP, catP_app, List.append_assoc, List.append_nil]; rfl
theorem of_neg (text : ByteArray) (e0 : Exp) (hE0 : OfC e0) (hX : ExpAt w (.mk oNeg text [e0]) (expV o t (.slice a k c))) (hw : wt (pcX (.mk oNeg text [e0])) <= 500000) (ht : text.size <= 1048576) :
  Calls Tryz.prog 16 #[exV o t (.slice a k c)] w (OfP (pcX (.mk oNeg text [e0])) (brX (.mk oNeg text [e0])) w) := by
 obtain ⟨rfl, rfl, a', c', hsl, hkc, hcm⟩ := exp_top hX; cases hsl
 rw [pc_neg] at hw ⊢; rw [show brX (.mk oNeg t [e0]) = brkN 7 (lvN e0.op, brX e0) from rfl]; obtain ⟨b0, off0, ko0, kt0, ka0, kn0, kc0, he0, hlt0, hq0, hX0, -⟩ := kid_cells hX (i := 0) (by simp)
 simp only [Nat.reduceMul, Nat.zero_mul, Nat.one_mul, Nat.add_zero] at hq0; subst he0; have hwk : wt (brk 7 (lvN e0.op, pcX e0)) <= 500000 := by simp only [wt_some, wt_app, wt_nil] at hw; omega
 have hp := rLeast_any hE0 (ofW w oNeg t (.slice (some ⟨b0, off0, none⟩) 1 c)) ko0 kt0 ka0 kn0 kc0 7 (ExpAt.below (ofW_below _ _ _ _) _ _ hX0) (by omega)
 obtain ⟨r0, r1, r2⟩ := hq0 _ (ofW_below w oNeg t (.slice (some ⟨b0, off0, none⟩) 1 c)); have hss := ptS_list (brk 7 (lvN e0.op, pcX e0)); have hs1 : (ptS (brk 7 (lvN e0.op, pcX e0))).size <= 500000 := Nat.le_trans (ptS_size _) hwk; have HSS := Lib.hid hss; have hbx2 : brkN 7 (lvN e0.op, brX e0) <= 500000 := Nat.le_trans (brkN_le (brX_le e0)) hwk; unfold OfP at hp; generalize ptS (brk 7 (lvN e0.op, pcX e0)) = S at *; generalize brkN 7 (lvN e0.op, brX e0) = bx at *; unfold ofW at hp r0 r1 r2; clear hX hE0 hw hwk hss hq0 hX0; go_enter Tryz.func16, Tryz.ntmps16; go_wp2_with fail; clear r0 r1 r2; refine hp.mono ?_; clear hp; rintro _ w5 ⟨rfl, hb5⟩; have hc0 := (ofW_e w oNeg t (.slice (some ⟨b0, off0, none⟩) 1 c)).below hb5 (ofW_e w oNeg t (.slice (some ⟨b0, off0, none⟩) 1 c)).lt; have hc1 := (ofW_r w oNeg t (.slice (some ⟨b0, off0, none⟩) 1 c)).below hb5 (ofW_r w oNeg t (.slice (some ⟨b0, off0, none⟩) 1 c)).lt; have HB5 := Lib.hid ((ofW_below w oNeg t (.slice (some ⟨b0, off0, none⟩) 1 c)).trans (hb5.mono (ofW_below w oNeg t (.slice (some ⟨b0, off0, none⟩) 1 c)).size)); have hl0 := hc0.lt; have hl1 := hc1.lt; have HC5 := Lib.hid hc1; clear hb5; have hc0c0 := hc0.cell 0 _ rfl; have hc0f0 := hc0.frozen 0; have hc0c1 := hc0.cell 1 _ rfl; have hc0f1 := hc0.frozen 1; have hc0c2 := hc0.cell 2 _ rfl; have hc0f2 := hc0.frozen 2; have hc1c0 := hc1.cell 0 _ rfl; have hc1f0 := hc1.frozen 0; have hc1c1 := hc1.cell 1 _ rfl; have hc1f1 := hc1.frozen 1; clear hc0 hc1; go_wp2_with fail; have hq := ((HC5.out.setI 0 (.string (⟨#[45]⟩ ++ S))).setI 1 (.int .i64 (bx : Nat))).alloc (.cells #[.string S, .int .i64 (bx : Nat)] 46)
 have zz0 := hq.cell 0 _ rfl; have zz1 := hq.cell 1 _ rfl; refine bodyPost_ret (v := .agg #[.string (⟨#[45]⟩ ++ S), .int .i64 (bx : Nat)]) (by simp [results, Tryz.results16, go_sem, zz0, zz1]) rfl ?_
 refine ofP_same ?_ rfl (ret2_below HB5.out _ _ _); simp only [app_list, HSS.out, catP, catP_app, List.append_assoc, List.append_nil]; rfl
end
def cntF : Nat -> (Nat -> Bool) -> Nat
 | 0, _ => 0
 | n + 1, δ => cntF n δ + (if δ n then 0 else 1)
abbrev updF {α : Type} (f : Nat -> α) (k : Nat) (v : α) : Nat -> α := fun j => if j = k then v else f j
theorem cntF_far : ∀ (n : Nat) (δ : Nat -> Bool) (k : Nat), n <= k -> cntF n (updF δ k true) = cntF n δ
 | 0, _, _, _ => rfl
 | n + 1, δ, k, h => by
  have e : updF δ k true n = δ n := if_neg (by omega)
  rw [cntF, cntF, cntF_far n δ k (by omega), e]
theorem cntF_upd : ∀ (n : Nat) (δ : Nat -> Bool) (k : Nat), k < n -> δ k = false -> cntF n (updF δ k true) + 1 = cntF n δ
 | n + 1, δ, k, h, hd => by
  rw [cntF, cntF]
  by_cases hk : k = n
  ·subst hk
   have e : updF δ k true k = true := if_pos rfl; rw [cntF_far k δ k (Nat.le_refl _), e, hd]; simp
  ·have e : updF δ k true n = δ n := if_neg (by omega)
   have := cntF_upd n δ k (by omega) hd
   rw [e]; omega
theorem cntF_zero : ∀ (n : Nat) (δ : Nat -> Bool), cntF n δ = 0 -> ∀ k, k < n -> δ k = true
 | n + 1, δ, h, k, hk => by
  rw [cntF] at h
  by_cases e : k = n
  ·subst e
   cases hd : δ k
   ·rw [hd] at h; simp at h
   ·rfl
  ·exact cntF_zero n δ (by omega) k (by omega)
def FloG (w0 : World) (isA : Nat -> Bool) (V : Nat -> Value) (Z : Nat -> Array Value) (T : Nat -> TypeId) (k : Nat) (v : Value) (w : World) : Prop :=
 if isA k then ∃ g, v = .pointer (some ⟨g, 0, none⟩) /\ w0.heap.size <= g /\ Cells w g (Z k) (T k) else v = V k
theorem flo_call {w0 : World} {isA : Nat -> Bool} {V : Nat -> Value} {Z : Nat -> Array Value} {T : Nat -> TypeId} {k : Nat} {v : Value} {w : World} (hA : isA k = false) (h : v = V k) : FloG w0 isA V Z T k v w := by
 unfold FloG; rw [if_neg (by rw [hA]; decide)]; exact h
theorem flo_alloc {w0 : World} {isA : Nat -> Bool} {V : Nat -> Value} {Z : Nat -> Array Value} {T : Nat -> TypeId} {k : Nat} {w : World} (hA : isA k = true) (h : Cells w w0.heap.size (Z k) (T k)) : FloG w0 isA V Z T k (.pointer (some ⟨w0.heap.size, 0, none⟩)) w := by
 unfold FloG; rw [if_pos hA]; exact ⟨_, rfl, Nat.le_refl _, h⟩
theorem FloG.val {w0 : World} {isA : Nat -> Bool} {V : Nat -> Value} {Z : Nat -> Array Value} {T : Nat -> TypeId} {k : Nat} {v : Value} {w : World} (h : FloG w0 isA V Z T k v w) (hA : isA k = false) : v = V k := by
 unfold FloG at h; rw [if_neg (by rw [hA]; decide)] at h; exact h
theorem FloG.ptr {w0 : World} {isA : Nat -> Bool} {V : Nat -> Value} {Z : Nat -> Array Value} {T : Nat -> TypeId} {k : Nat} {v : Value} {w : World} (h : FloG w0 isA V Z T k v w) (hA : isA k = true) : ∃ g, v = .pointer (some ⟨g, 0, none⟩) /\ w0.heap.size <= g /\ Cells w g (Z k) (T k) := by
 unfold FloG at h; rw [if_pos hA] at h; exact h
structure FloI (w0 : World) (isA : Nat -> Bool) (V : Nat -> Value) (Z : Nat -> Array Value) (T : Nat -> TypeId) (n : Nat) (δ : Nat -> Bool) (σ : Nat -> Value) (w : World) : Prop where
 below : Below w0.heap.size w0 w
 good : ∀ k, k < n -> δ k = true -> FloG w0 isA V Z T k (σ k) w
 apart : ∀ k j, k < n -> j < n -> k ≠ j -> δ k = true -> δ j = true -> isA k = true -> isA j = true -> σ k ≠ σ j
theorem FloG.below {w0 : World} {isA : Nat -> Bool} {V : Nat -> Value} {Z : Nat -> Array Value} {T : Nat -> TypeId} {k : Nat} {v : Value} {w w' : World} (h : FloG w0 isA V Z T k v w) (hb : Below w.heap.size w w') : FloG w0 isA V Z T k v w' := by
 unfold FloG at h ⊢; split at h
 ·rename_i hA
  rw [if_pos hA]; obtain ⟨g, h1, h2, h3⟩ := h; exact ⟨g, h1, h2, h3.below hb h3.lt⟩
 ·rename_i hA
  rw [if_neg hA]; exact h
theorem FloI.step {w0 : World} {isA : Nat -> Bool} {V : Nat -> Value} {Z : Nat -> Array Value} {T : Nat -> TypeId} {n : Nat} {δ : Nat -> Bool} {σ : Nat -> Value} {w w' : World} (h : FloI w0 isA V Z T n δ σ w) {k : Nat} {v : Value} (hd : δ k = false) (hb : Below w.heap.size w w')
  (hv : FloG w isA V Z T k v w') : FloI w0 isA V Z T n (updF δ k true) (updF σ k v) w' := by
 have hlt : ∀ j, j < n -> δ j = true -> isA j = true -> ∃ g, σ j = .pointer (some ⟨g, 0, none⟩) /\ g < w.heap.size := fun j hj hdj hA => by
  have := h.good j hj hdj; unfold FloG at this; rw [if_pos hA] at this; obtain ⟨g, h1, h2, h3⟩ := this; exact ⟨g, h1, h3.lt⟩
 have hge : isA k = true -> ∃ g, v = .pointer (some ⟨g, 0, none⟩) /\ w.heap.size <= g := fun hA => by
  unfold FloG at hv; rw [if_pos hA] at hv; obtain ⟨g, h1, h2, h3⟩ := hv; exact ⟨g, h1, h2⟩
 refine ⟨h.below.trans (hb.mono h.below.size), fun j hj hdj => ?_, fun i j hi hj hne hdi hdj hAi hAj => ?_⟩
 ·by_cases e : j = k
  ·subst e
   simp only [updF, if_pos]; unfold FloG at hv ⊢; split at hv
   ·rename_i hA
    rw [if_pos hA]; obtain ⟨g, h1, h2, h3⟩ := hv; exact ⟨g, h1, Nat.le_trans h.below.size h2, h3⟩
   ·rename_i hA
    rw [if_neg hA]; exact hv
  ·simp only [updF, if_neg e] at hdj ⊢
   exact (h.good j hj hdj).below hb
 ·have far : ∀ {g g' : Nat}, g < w.heap.size -> w.heap.size <= g' -> (Value.pointer (some ⟨g, 0, none⟩)) ≠ .pointer (some ⟨g', 0, none⟩) := fun h1 h2 e => by
   simp only [Value.pointer.injEq, Option.some.injEq, Addr.mk.injEq] at e; omega
  by_cases ei : i = k
  ·subst ei
   have ej : ¬ j = i := fun e => hne e.symm; simp only [updF, if_neg ej] at hdj; obtain ⟨g, h1, h2⟩ := hlt j hj hdj hAj; obtain ⟨g', h3, h4⟩ := hge hAi; simp only [updF, if_pos, if_neg ej]; rw [h1, h3]; exact fun e => far h2 h4 e.symm
  ·simp only [updF, if_neg ei] at hdi ⊢
   by_cases ej : j = k
   ·subst ej
    obtain ⟨g, h1, h2⟩ := hlt i hi hdi hAi; obtain ⟨g', h3, h4⟩ := hge hAj; simp only [if_pos]; rw [h1, h3]; exact far h2 h4
   ·simp only [if_neg ej] at hdj ⊢
    exact h.apart i j hi hj hne hdi hdj hAi hAj
section
variable {P : Program} {md : Region.Mode} {ops : Array Oper} {Q : Exit -> Act -> World -> Prop} {S : World -> Prop}
def floL (L : Array Bool) : List Nat -> (Nat -> Bool) -> Nat -> Array Bool
 | [], _, _ => L
 | i :: r, δ, k => floL (L.setIfInBounds i (δ k)) r δ (k + 1)
def floA (a : Act) : List Nat -> (Nat -> Value) -> Nat -> Act
 | [], _, _ => a
 | d :: r, σ, k => floA (a.put (some d) (σ k)) r σ (k + 1)
theorem wpAnyH_flow (w0 : World) (n f0 : Nat) (isA : Nat -> Bool) (V : Nat -> Value) (Z : Nat -> Array Value) (T : Nat -> TypeId) (Lf : (Nat -> Bool) -> Array Bool) (af : (Nat -> Value) -> Act) (ix : Nat -> Nat) (ord : List (Nat × Nat))
  (hS : ∀ w, Below w0.heap.size w0 w -> S w)
  (hL : ∀ δ δ', (∀ k, k < n -> δ k = δ' k) -> Lf δ = Lf δ')
  (hset : ∀ δ k, k < n -> (Lf δ).setIfInBounds (ix k) true = Lf (updF δ k true))
  (hready : ∀ δ k0, k0 < n -> δ k0 = false -> (∀ p ∈ ord, δ p.2 = true -> δ p.1 = true) -> Region.ready md ops (Lf δ) ≠ [] /\ ∀ i ∈ Region.ready md ops (Lf δ), ∃ k, k < n /\ i = ix k /\ δ k = false /\ ∀ p ∈ ord, p.2 = k -> δ p.1 = true)
  (hop : ∀ k, k < n -> ∀ σ w, Below w0.heap.size w0 w -> wpOp P ops Q (ix k) (fun a' w' => ∃ v, a' = af (updF σ k v) /\ Below w.heap.size w w' /\ FloG w isA V Z T k v w') (af σ) w)
  (hend : ∀ σ w, FloI w0 isA V Z T n (fun _ => true) σ w -> wpAnyH P md ops Q S f0 (Lf (fun _ => true)) (af σ) w) :
  ∀ (m : Nat) (δ : Nat -> Bool) (σ : Nat -> Value) (w : World), cntF n δ = m -> (∀ p ∈ ord, δ p.2 = true -> δ p.1 = true) -> FloI w0 isA V Z T n δ σ w -> wpAnyH P md ops Q S (f0 + m) (Lf δ) (af σ) w
 | 0, δ, σ, w, hm, _, hI => by
  have hall := cntF_zero n δ hm; rw [hL δ (fun _ => true) hall]; exact hend σ w ⟨hI.below, fun k hk _ => hI.good k hk (hall k hk), fun k j hk hj hne _ _ => hI.apart k j hk hj hne (hall k hk) (hall j hj)⟩
 | m + 1, δ, σ, w, hm, hO, hI => by
  have hex : ∃ k0, k0 < n /\ δ k0 = false := by
   by_cases h : ∃ k0, k0 < n /\ δ k0 = false
   ·exact h
   ·exfalso
    have : ∀ n', n' <= n -> cntF n' δ = 0 := by
     intro n'
     induction n' with
     | zero => intro _; rfl
     | succ n' ih =>
      intro hn; rw [cntF, ih (by omega)]
      cases hd : δ n'
      ·exact absurd ⟨n', by omega, hd⟩ h
      ·rfl
    rw [this n (Nat.le_refl _)] at hm; omega
  obtain ⟨k0, hk0, hd0⟩ := hex; obtain ⟨h1, h2⟩ := hready δ k0 hk0 hd0 hO; refine wpAnyH_all (fuel := f0 + m) rfl h1 (fun i hi => ?_); obtain ⟨k, hk, rfl, hd, ho⟩ := h2 i hi; refine wpOp_mono ?_ (hop k hk σ w hI.below); rintro a' w' ⟨v, rfl, hb, hG⟩; have hI' := hI.step hd hb hG; refine ⟨hS w' hI'.below, ?_⟩; rw [hset δ k hk]; refine wpAnyH_flow w0 n f0 isA V Z T Lf af ix ord hS hL hset hready hop hend m _ _ w' (by have := cntF_upd n δ k hk hd; omega) (fun p hp h => ?_) hI'
  by_cases e1 : p.1 = k
  ·exact if_pos e1
  ·simp only [updF, if_neg e1]
   by_cases e2 : p.2 = k
   ·exact ho p hp e2
   ·simp only [updF, if_neg e2] at h
    exact hO p hp h
theorem floL_congr : ∀ (ixs : List Nat) (L : Array Bool) (δ δ' : Nat -> Bool) (s : Nat), (∀ k, k < ixs.length -> δ (s + k) = δ' (s + k)) -> floL L ixs δ s = floL L ixs δ' s
 | [], _, _, _, _, _ => rfl
 | i :: r, L, δ, δ', s, h => by
  have h0 := h 0 (by simp)
  rw [Nat.add_zero] at h0; rw [floL, floL, h0]; refine floL_congr r _ δ δ' (s + 1) (fun k hk => ?_); have := h (k + 1) (by simpa using hk)
  rw [show s + 1 + k = s + (k + 1) by omega]
  exact this
def allB : Nat -> List (List Bool)
 | 0 => [[]]
 | n + 1 => (allB n).flatMap fun bs => [true :: bs, false :: bs]
theorem mem_allB : ∀ (bs : List Bool), bs ∈ allB bs.length
 | [] => by simp [allB]
 | b :: r => by
  have h := mem_allB r; simp only [List.length_cons, allB, List.mem_flatMap]; exact ⟨r, h, by cases b <;> simp⟩
def chkF (md : Region.Mode) (ops : Array Oper) (L : Array Bool) (ixs : List Nat) (ord : List (Nat × Nat)) : Bool :=
 (allB ixs.length).all fun bs =>
  (bs.all id || ord.any (fun p => bs.getD p.2 false && !bs.getD p.1 false)) || ((Region.ready md ops (floL L ixs (fun k => bs.getD k false) 0)).all (fun i => (List.range ixs.length).any fun k => (ixs.getD k 0 == i) && (!bs.getD k false && ord.all (fun p => !(p.2 == k) || bs.getD p.1 false))) &&
   !(Region.ready md ops (floL L ixs (fun k => bs.getD k false) 0)).isEmpty)
theorem chkF_spec {L : Array Bool} {ixs : List Nat} {ord : List (Nat × Nat)} (hord : ord.all (fun p => decide (p.1 < ixs.length) && decide (p.2 < ixs.length)) = true) (h : chkF md ops L ixs ord = true) (δ : Nat -> Bool) (k0 : Nat) (hk0 : k0 < ixs.length) (hd0 : δ k0 = false) (hO : ∀ p ∈ ord, δ p.2 = true -> δ p.1 = true) :
  Region.ready md ops (floL L ixs δ 0) ≠ [] /\ ∀ i ∈ Region.ready md ops (floL L ixs δ 0), ∃ k, k < ixs.length /\ i = ixs.getD k 0 /\ δ k = false /\ ∀ p ∈ ord, p.2 = k -> δ p.1 = true := by
 have hlen : ((List.range ixs.length).map δ).length = ixs.length := by simp
 have hmem := mem_allB ((List.range ixs.length).map δ); rw [hlen] at hmem; have hget : ∀ k, k < ixs.length -> ((List.range ixs.length).map δ).getD k false = δ k := fun k hk => by simp [List.getD_eq_getElem?_getD, hk]
 have hlt : ∀ p ∈ ord, p.1 < ixs.length /\ p.2 < ixs.length := fun p hp => by
  have := List.all_eq_true.1 hord p hp
  simpa using this
 have he : floL L ixs (fun k => ((List.range ixs.length).map δ).getD k false) 0 = floL L ixs δ 0 := floL_congr _ _ _ _ _ (fun k hk => by simp only [Nat.zero_add]; exact hget k hk)
 have h1 := List.all_eq_true.1 h _ hmem; rw [he, Bool.or_eq_true, Bool.or_eq_true, Bool.and_eq_true] at h1; rcases h1 with (h3 | h3) | ⟨h2, h3⟩
 ·have := List.all_eq_true.1 h3 (δ k0) (List.mem_map.2 ⟨k0, by simpa using hk0, rfl⟩)
  rw [hd0] at this; cases this
 ·obtain ⟨p, hp, h4⟩ := List.any_eq_true.1 h3
  rw [hget _ (hlt p hp).1, hget _ (hlt p hp).2, Bool.and_eq_true] at h4; have := hO p hp h4.1; rw [this] at h4; simp at h4
 constructor
 ·intro e
  rw [e] at h3; simp at h3
 ·intro i hi
  have h4 := List.all_eq_true.1 h2 i hi; obtain ⟨k, hk, h5⟩ := List.any_eq_true.1 h4; rw [List.mem_range] at hk; rw [Bool.and_eq_true, Bool.and_eq_true, hget k hk] at h5; refine ⟨k, hk, (beq_iff_eq.1 h5.1).symm, by simpa using h5.2.1, fun p hp e => ?_⟩
  have h6 := List.all_eq_true.1 h5.2.2 p hp; rw [hget _ (hlt p hp).1] at h6
  simpa [e] using h6
theorem floA_congr : ∀ (ds : List Nat) (a : Act) (σ σ' : Nat -> Value) (s : Nat), (∀ k, k < ds.length -> σ (s + k) = σ' (s + k)) -> floA a ds σ s = floA a ds σ' s
 | [], _, _, _, _, _ => rfl
 | d :: r, a, σ, σ', s, h => by
  have h0 := h 0 (by simp)
  rw [Nat.add_zero] at h0; rw [floA, floA, h0]; refine floA_congr r _ σ σ' (s + 1) (fun k hk => ?_); have := h (k + 1) (by simpa using hk)
  rw [show s + 1 + k = s + (k + 1) by omega]
  exact this
abbrev floV (isA : Nat -> Bool) (V : Nat -> Value) (q : Nat -> Nat) (k : Nat) : Value := if isA k then .pointer (some ⟨q k, 0, none⟩) else V k
theorem FloI.all {w0 : World} {isA : Nat -> Bool} {V : Nat -> Value} {Z : Nat -> Array Value} {T : Nat -> TypeId} {n : Nat} {σ : Nat -> Value} {w : World} (h : FloI w0 isA V Z T n (fun _ => true) σ w) :
  ∃ q : Nat -> Nat, (∀ k, k < n -> σ k = floV isA V q k) /\ (∀ k, k < n -> isA k = true -> w0.heap.size <= q k /\ Cells w (q k) (Z k) (T k)) /\ (∀ k j, k < n -> j < n -> k ≠ j -> isA k = true -> isA j = true -> q k ≠ q j) := by
 have hex : ∀ k, ∃ g, k < n -> isA k = true -> σ k = .pointer (some ⟨g, 0, none⟩) /\ w0.heap.size <= g /\ Cells w g (Z k) (T k) := fun k => by
  by_cases hk : k < n /\ isA k = true
  ·obtain ⟨g, h1, h2, h3⟩ := (h.good k hk.1 rfl).ptr hk.2
   exact ⟨g, fun _ _ => ⟨h1, h2, h3⟩⟩
  ·exact ⟨0, fun h1 h2 => absurd ⟨h1, h2⟩ hk⟩
 refine ⟨fun k => Classical.choose (hex k), fun k hk => ?_, fun k hk hA => (Classical.choose_spec (hex k) hk hA).2, fun k j hk hj hne hA hB e => ?_⟩
 ·unfold floV
  by_cases hA : isA k = true
  ·rw [if_pos hA]
   exact (Classical.choose_spec (hex k) hk hA).1
  ·rw [if_neg hA]
   exact (h.good k hk rfl).val (by simpa using hA)
 ·refine h.apart k j hk hj hne rfl rfl hA hB ?_
  rw [(Classical.choose_spec (hex k) hk hA).1, (Classical.choose_spec (hex j) hj hB).1]; simp only at e; rw [e]
theorem wpAnyH_flo {a : Act} {L : Array Bool} {fuel : Nat} {w : World} (w0 : World) (ds ixs : List Nat) (f0 : Nat) (isA : Nat -> Bool) (V : Nat -> Value) (Z : Nat -> Array Value) (T : Nat -> TypeId) (σ0 : Nat -> Value)
  (hw : Below w0.heap.size w0 w) (hfuel : fuel = f0 + cntF ixs.length (fun _ => false)) (hS : ∀ w, Below w0.heap.size w0 w -> S w) (ord : List (Nat × Nat)) (hord : ord.all (fun p => decide (p.1 < ixs.length) && decide (p.2 < ixs.length)) = true) (hchk : chkF md ops L ixs ord = true)
  (hLf : floL L ixs (fun _ => false) 0 = L) (haf : floA a ds σ0 0 = a) (hds : ds.length = ixs.length)
  (hset : ∀ δ k, k < ixs.length -> (floL L ixs δ 0).setIfInBounds (ixs.getD k 0) true = floL L ixs (updF δ k true) 0)
  (hop : ∀ k, k < ixs.length -> ∀ σ w, Below w0.heap.size w0 w -> wpOp P ops Q (ixs.getD k 0) (fun a' w' => ∃ v, a' = floA a ds (updF σ k v) 0 /\ Below w.heap.size w w' /\ FloG w isA V Z T k v w') (floA a ds σ 0) w)
  (hend : ∀ (q : Nat -> Nat) w, Below w0.heap.size w0 w -> (∀ k, k < ixs.length -> isA k = true -> w0.heap.size <= q k /\ Cells w (q k) (Z k) (T k)) -> (∀ k j, k < ixs.length -> j < ixs.length -> k ≠ j -> isA k = true -> isA j = true -> q k ≠ q j) ->
   wpAnyH P md ops Q S f0 (floL L ixs (fun _ => true) 0) (floA a ds (floV isA V q) 0) w) : wpAnyH P md ops Q S fuel L a w := by
 have h := wpAnyH_flow (P := P) (md := md) (ops := ops) (Q := Q) (S := S) w0 ixs.length f0 isA V Z T (fun δ => floL L ixs δ 0) (fun σ => floA a ds σ 0) (fun k => ixs.getD k 0) ord hS
  (fun δ δ' h => floL_congr _ _ _ _ _ (fun k hk => by rw [Nat.zero_add]; exact h k hk)) hset (fun δ k0 hk0 hd0 hO => chkF_spec hord hchk δ k0 hk0 hd0 hO) hop (fun σ w hI => by
   obtain ⟨q, h1, h2, h3⟩ := hI.all; have e : floA a ds σ 0 = floA a ds (floV isA V q) 0 := floA_congr _ _ _ _ _ (fun k hk => by rw [Nat.zero_add]; exact h1 k (by omega))
   show wpAnyH P md ops Q S f0 _ (floA a ds σ 0) w; rw [e]
   exact hend q w hI.below h2 h3) _ (fun _ => false) σ0 w rfl (fun _ _ h => by cases h)
  ⟨hw, (fun _ _ h => by cases h), (fun _ _ _ _ _ h => by cases h)⟩
 rw [hLf, haf, <- hfuel] at h; exact h
end
section
variable (w : World) (o t : ByteArray) (a : Option Addr) (k c : Nat)
theorem of_at (text : ByteArray) (e0 e1 : Exp) (hE0 : OfC e0) (hE1 : OfC e1) (hX : ExpAt w (.mk oAt text [e0, e1]) (expV o t (.slice a k c))) (hw : wt (pcX (.mk oAt text [e0, e1])) <= 500000) :
  Calls Tryz.prog 16 #[exV o t (.slice a k c)] w (OfP (pcX (.mk oAt text [e0, e1])) (brX (.mk oAt text [e0, e1])) w) := by
 obtain ⟨rfl, rfl, a', c', hsl, hkc, hcm⟩ := exp_top hX; cases hsl
 rw [pc_at] at hw ⊢; rw [show brX (.mk oAt t [e0, e1]) = brkN 8 (lvN e0.op, brX e0) + brX e1 from rfl]; obtain ⟨b0, off0, ko0, kt0, ka0, kn0, kc0, he0, hlt0, hq0, hX0, -⟩ := kid_cells hX (i := 0) (by simp)
 simp only [Nat.reduceMul, Nat.zero_mul, Nat.one_mul, Nat.add_zero] at hq0; obtain ⟨b1, off1, ko1, kt1, ka1, kn1, kc1, he1, hlt1, hq1, hX1, -⟩ := kid_cells hX (i := 1) (by simp)
 simp only [Nat.reduceMul, Nat.zero_mul, Nat.one_mul, Nat.add_zero] at hq1; subst he0; cases he1
 have hw0 : wt (brk 8 (lvN e0.op, pcX e0)) <= 500000 := by simp only [wt_some, wt_none, wt_app, wt_nil] at hw; omega
 have hw1 : wt (pcX e1) <= 500000 := by simp only [wt_some, wt_none, wt_app, wt_nil] at hw; omega
 have hp0 := fun (W : World) (hW : Below w.heap.size w W) => rLeast_any hE0 W ko0 kt0 ka0 kn0 kc0 8 (ExpAt.below hW _ _ hX0) (by omega)
 have hp1 := fun (W : World) (hW : Below w.heap.size w W) => hE1 W ko1 kt1 ka1 kn1 kc1 (ExpAt.below hW _ _ hX1) (by omega)
 have HS0 := Lib.hid (ptS_list (brk 8 (lvN e0.op, pcX e0))); have hs0 : (ptS (brk 8 (lvN e0.op, pcX e0))).size <= 500000 := Nat.le_trans (ptS_size _) hw0; have hn0 : brkN 8 (lvN e0.op, brX e0) <= 500000 := Nat.le_trans (brkN_le (brX_le e0)) hw0; have HS1 := Lib.hid (ptS_list (pcX e1)); have hs1 : (ptS (pcX e1)).size <= 500000 := Nat.le_trans (ptS_size _) hw1; have hn1 : brX e1 <= 500000 := Nat.le_trans (brX_le e1) hw1; unfold OfP at hp0 hp1; generalize ptS (brk 8 (lvN e0.op, pcX e0)) = S0 at *; generalize brkN 8 (lvN e0.op, brX e0) = x0 at *; generalize ptS (pcX e1) = S1 at *; generalize brX e1 = x1 at *; have hbA := ofW_below w oAt t (.slice (some ⟨b0, off0, none⟩) 2 c); have heA := ofW_e w oAt t (.slice (some ⟨b0, off0, none⟩) 2 c); have hrA := ofW_r w oAt t (.slice (some ⟨b0, off0, none⟩) 2 c); obtain ⟨r00, r01, r02⟩ := hq0 _ hbA; obtain ⟨r10, r11, r12⟩ := hq1 _ hbA; have hszA : (ofW w oAt t (.slice (some ⟨b0, off0, none⟩) 2 c)).heap.size = w.heap.size + 2 := by simp
 have HQ0 := Lib.hid hq0; have HQ1 := Lib.hid hq1; have g0 := heA.cell 0 _ rfl; have g1 := heA.cell 1 _ rfl; have g2 := heA.cell 2 _ rfl; unfold ofW at hbA heA hrA r00 r01 r02 r10 r11 r12 hszA g0 g1 g2; clear hE0 hX0 hw0 hq0 hE1 hX1 hw1 hq1 hX hw; go_enter Tryz.func16, Tryz.ntmps16; go_wp2_with fail; generalize (w.alloc (.cells #[.string oAt, .string t, .slice (some ⟨b0, off0, none⟩) 2 c] 24)).alloc (.cells #[.string ⟨#[]⟩, .int .i64 0] 46) = wA at *; have hlA := heA.lt; have HA := Lib.hid (And.intro hbA (And.intro heA hrA)); have hlt0 : b0 < wA.heap.size := by omega
 clear hbA heA hrA
 have HSof := Lib.hid (fun (w' : World) (hw' : Below wA.heap.size wA w') => (show w'.cell? ⟨w.heap.size, 2, none⟩ = some (.slice (some ⟨b0, off0, none⟩) 2 c) /\ w'.cell? ⟨b0, off0, none⟩ = some (.string ko0) /\ w'.cell? ⟨b0, off0 + 1, none⟩ = some (.string kt0) /\ w'.cell? ⟨b0, off0 + 2, none⟩ = some (.slice ka0 kn0 kc0) /\ w'.cell? ⟨b0, off0 + 3, none⟩ = some (.string ko1) /\ w'.cell? ⟨b0, off0 + 3 + 1, none⟩ = some (.string kt1) /\ w'.cell? ⟨b0, off0 + 3 + 2, none⟩ = some (.slice ka1 kn1 kc1) from by
  have h1 := (HA.out.2.1.below hw' hlA).cell 2 _ rfl; obtain ⟨a00, a01, a02⟩ := HQ0.out _ (HA.out.1.trans (hw'.mono HA.out.1.size)); obtain ⟨a10, a11, a12⟩ := HQ1.out _ (HA.out.1.trans (hw'.mono HA.out.1.size))
  exact ⟨h1, a00, a01, a02, a10, a11, a12⟩))
 have hpA0 := fun (W : World) (hW : Below wA.heap.size wA W) => hp0 W (HA.out.1.trans (hW.mono HA.out.1.size)); have hpA1 := fun (W : World) (hW : Below wA.heap.size wA W) => hp1 W (HA.out.1.trans (hW.mono HA.out.1.size)); have hB0 := Below.refl wA.heap.size wA; clear hp0 hp1; go_cut [6, 7] (fun y0 y1 wc => ∃ p0 p1 : Nat, y0 = .pointer (some ⟨p0, 0, none⟩) /\ y1 = .pointer (some ⟨p1, 0, none⟩) /\ Cells wc p0 (ppV S0 x0) 46 /\ Cells wc p1 (ppV S1 x1) 46 /\ Below wA.heap.size wA wc)
 case first =>
  refine wp_region_noPanic ?_; refine wp_region_held_drew (S := (fun w' => w'.cell? ⟨w.heap.size, 2, none⟩ = some (.slice (some ⟨b0, off0, none⟩) 2 c) /\ w'.cell? ⟨b0, off0, none⟩ = some (.string ko0) /\ w'.cell? ⟨b0, off0 + 1, none⟩ = some (.string kt0) /\ w'.cell? ⟨b0, off0 + 2, none⟩ = some (.slice ka0 kn0 kc0) /\ w'.cell? ⟨b0, off0 + 3, none⟩ = some (.string ko1) /\ w'.cell? ⟨b0, off0 + 3 + 1, none⟩ = some (.string kt1) /\ w'.cell? ⟨b0, off0 + 3 + 2, none⟩ = some (.slice ka1 kn1 kc1))) (by kernel_rfl) (HSof.out _ hB0.drew) (fun hHeld => ?_)
  refine wpAnyH_take (i := 0) (v := ?_) rfl (by kernel_rfl) (by kernel_rfl) (by kernel_rfl) (fun _ _ _ h => h) (Or.inl ⟨by rfl, ?_⟩) hHeld ?_
  rotate_left
  ·intro w hSw
   (try dsimp only at hSw)
   go_simp
   (try with_reducible rfl)
  simp only [Act.put, List.setIfInBounds_toArray, List.set_cons_zero, List.set_cons_succ]; refine wpAnyH_take (i := 1) (v := ?_) rfl (by kernel_rfl) (by kernel_rfl) (by kernel_rfl) (fun _ _ _ h => h) (Or.inl ⟨by rfl, ?_⟩) hHeld ?_
  rotate_left
  ·intro w hSw
   (try dsimp only at hSw)
   go_simp
   (try with_reducible rfl)
  simp only [Act.put, List.setIfInBounds_toArray, List.set_cons_zero, List.set_cons_succ]; refine wpAnyH_take (i := 2) (v := ?_) rfl (by kernel_rfl) (by kernel_rfl) (by kernel_rfl) (fun _ _ _ h => h) (Or.inl ⟨by rfl, ?_⟩) hHeld ?_
  rotate_left
  ·intro w hSw
   (try dsimp only at hSw)
   go_simp
   (try with_reducible rfl)
  simp only [Act.put, List.setIfInBounds_toArray, List.set_cons_zero, List.set_cons_succ]; refine wpAnyH_take (i := 3) (v := ?_) rfl (by kernel_rfl) (by kernel_rfl) (by kernel_rfl) (fun _ _ _ h => h) (Or.inl ⟨by rfl, ?_⟩) hHeld ?_
  rotate_left
  ·intro w hSw
   (try dsimp only at hSw)
   go_simp
   (try with_reducible rfl)
  simp only [Act.put, List.setIfInBounds_toArray, List.set_cons_zero, List.set_cons_succ]; refine wpAnyH_take (i := 5) (v := ?_) rfl (by kernel_rfl) (by kernel_rfl) (by kernel_rfl) (fun _ _ _ h => h) (Or.inl ⟨by rfl, ?_⟩) hHeld ?_
  rotate_left
  ·intro w hSw
   (try dsimp only at hSw)
   go_simp
   (try with_reducible rfl)
  simp only [Act.put, List.setIfInBounds_toArray, List.set_cons_zero, List.set_cons_succ]; refine wpAnyH_take (i := 6) (v := ?_) rfl (by kernel_rfl) (by kernel_rfl) (by kernel_rfl) (fun _ _ _ h => h) (Or.inl ⟨by rfl, ?_⟩) hHeld ?_
  rotate_left
  ·intro w hSw
   (try dsimp only at hSw)
   go_simp
   (try with_reducible rfl)
  simp only [Act.put, List.setIfInBounds_toArray, List.set_cons_zero, List.set_cons_succ]; refine wpAnyH_take (i := 7) (v := ?_) rfl (by kernel_rfl) (by kernel_rfl) (by kernel_rfl) (fun _ _ _ h => h) (Or.inl ⟨by rfl, ?_⟩) hHeld ?_
  rotate_left
  ·intro w hSw
   (try dsimp only at hSw)
   go_simp
   (try with_reducible rfl)
  simp only [Act.put, List.setIfInBounds_toArray, List.set_cons_zero, List.set_cons_succ]; refine wpAnyH_take (i := 8) (v := ?_) rfl (by kernel_rfl) (by kernel_rfl) (by kernel_rfl) (fun _ _ _ h => h) (Or.inl ⟨by rfl, ?_⟩) hHeld ?_
  rotate_left
  ·intro w hSw
   (try dsimp only at hSw)
   go_simp
   (try with_reducible rfl)
  simp only [Act.put, List.setIfInBounds_toArray, List.set_cons_zero, List.set_cons_succ]
  refine wpAnyH_flo wA [79, 84, 6, 7] [4, 9, 10, 11] 2 (fun k => decide (2 <= k)) (fun k => if k = 0 then .agg (ppV S0 x0) else .agg (ppV S1 x1)) (fun _ => #[.string ⟨#[]⟩, .int .i64 0]) (fun _ => 46) (fun k => undef)
   hB0.drew (by kernel_rfl) HSof.out [(0, 1)] (by decide) (by kernel_rfl) (by kernel_rfl) (by kernel_rfl) rfl ?_ ?_ ?_
  ·intro δ k hk
   rcases k with _ | _ | _ | _ | k
   ·kernel_rfl
   ·kernel_rfl
   ·kernel_rfl
   ·kernel_rfl
   ·simp at hk; omega
  ·intro k hk σ W hW
   rcases k with _ | _ | _ | _ | k
   ·refine wpOp_step rfl (fun K' hK => ?_)
    have HK := Lib.hid hK; clear hK; simp only [floA, Act.put, List.setIfInBounds_toArray, List.set_cons_zero, List.set_cons_succ]; go_simp
    go_at_call 32
    refine (hpA0 W hW).mono ?_; rintro _ W' ⟨rfl, hB'⟩; go_simp
    exact HK.out _ _ ⟨.agg (ppV S0 x0), by kernel_rfl, hB', flo_call rfl rfl⟩
   ·refine wpOp_step rfl (fun K' hK => ?_)
    have HK := Lib.hid hK; clear hK; simp only [floA, Act.put, List.setIfInBounds_toArray, List.set_cons_zero, List.set_cons_succ]; go_simp
    go_at_call 16
    refine (hpA1 W hW).mono ?_; rintro _ W' ⟨rfl, hB'⟩; go_simp
    exact HK.out _ _ ⟨.agg (ppV S1 x1), by kernel_rfl, hB', flo_call rfl rfl⟩
   ·refine wpOp_step rfl (fun K' hK => ?_)
    have HK := Lib.hid hK; clear hK; simp only [floA, Act.put, List.setIfInBounds_toArray, List.set_cons_zero, List.set_cons_succ]; go_simp
    exact HK.out _ _ ⟨.pointer (some ⟨W.heap.size, 0, none⟩), by kernel_rfl, (Below.refl _ W).alloc (Nat.le_refl _) _, flo_alloc rfl (Cells.new W _ _)⟩
   ·refine wpOp_step rfl (fun K' hK => ?_)
    have HK := Lib.hid hK; clear hK; simp only [floA, Act.put, List.setIfInBounds_toArray, List.set_cons_zero, List.set_cons_succ]; go_simp
    exact HK.out _ _ ⟨.pointer (some ⟨W.heap.size, 0, none⟩), by kernel_rfl, (Below.refl _ W).alloc (Nat.le_refl _) _, flo_alloc rfl (Cells.new W _ _)⟩
   ·simp at hk; omega
  ·intro q W hB hI hne
   have hc0 := (hI 2 (by decide) rfl).2
   have hc1 := (hI 3 (by decide) rfl).2
   have hne01 : ¬ q 2 = q 3 := hne 2 3 (by decide) (by decide) (by decide) rfl rfl
   have hne10 : ¬ q 3 = q 2 := hne 3 2 (by decide) (by decide) (by decide) rfl rfl
   have hg0 := (hI 2 (by decide) rfl).1
   have hg1 := (hI 3 (by decide) rfl).1
   have hsz := hB.size; change Cells W (q 2) #[.string ⟨#[]⟩, .int .i64 0] 46 at hc0; change Cells W (q 3) #[.string ⟨#[]⟩, .int .i64 0] 46 at hc1; simp only [floA, floV, Nat.reduceLeDiff, Nat.reduceEqDiff, Nat.reduceAdd, decide_true, decide_false, if_true, if_false, reduceIte, reduceCtorEq, Bool.false_eq_true, Nat.le_refl, Nat.zero_add, Act.put, List.setIfInBounds_toArray, List.set_cons_zero, List.set_cons_succ]; have HC0 := Lib.hid hc0; have hl0 := hc0.lt; have HC1 := Lib.hid hc1; have hl1 := hc1.lt; have hc0c0 := hc0.cell 0 _ rfl; have hc0f0 := hc0.frozen 0; have hc0c1 := hc0.cell 1 _ rfl; have hc0f1 := hc0.frozen 1; have hc1c0 := hc1.cell 0 _ rfl; have hc1f0 := hc1.frozen 0; have hc1c1 := hc1.cell 1 _ rfl; have hc1f1 := hc1.frozen 1; clear hc0 hc1 hI hne; refine wpAnyH_ready (rs := [12]) (by kernel_rfl) (by simp) ?_
   refine AllReadyH.cons rfl (fun K hK => ?_) AllReadyH.nil; go_simp
   refine hK.out _ _ ?_ (fun hHeld => ?_)
   ·exact HSof.out _ (by (repeat' first | with_reducible refine Below.setCell ?_ ?_ _ | with_reducible refine Below.alloc ?_ ?_ _ | with_reducible refine Below.drew ?_ | with_reducible refine below_drewN ?_ _ | with_reducible assumption | with_reducible exact Below.refl _ _ | (simp only [World.size_alloc, World.size_setCell, World.size_drew]; first | done | omega) | omega))
   clear hK K; try simp only [Act.put, List.setIfInBounds_toArray, List.set_cons_zero, List.set_cons_succ]
   refine wpAnyH_ready (rs := [13]) (by kernel_rfl) (by simp) ?_
   refine AllReadyH.cons rfl (fun K hK => ?_) AllReadyH.nil; go_simp
   refine hK.out _ _ ?_ (fun hHeld => ?_)
   ·exact HSof.out _ (by (repeat' first | with_reducible refine Below.setCell ?_ ?_ _ | with_reducible refine Below.alloc ?_ ?_ _ | with_reducible refine Below.drew ?_ | with_reducible refine below_drewN ?_ _ | with_reducible assumption | with_reducible exact Below.refl _ _ | (simp only [World.size_alloc, World.size_setCell, World.size_drew]; first | done | omega) | omega))
   clear hK K; try simp only [Act.put, List.setIfInBounds_toArray, List.set_cons_zero, List.set_cons_succ]
   refine wpAnyH_done (by kernel_rfl) ?_ _
   refine NoPanic.normal ?_; go_wp2_with fail; go_meet
   case rel => exact ⟨q 2, q 3, rfl, rfl, ((((HC0.out.setI 0 (.string S0)).setI 1 (.int .i64 (x0 : Nat))).setOther _ _ hne10).setOther _ _ hne10), ((((HC1.out.setOther _ _ hne01).setOther _ _ hne01).setI 0 (.string S1)).setI 1 (.int .i64 (x1 : Nat))), by (repeat' first | with_reducible refine Below.setCell ?_ ?_ _ | with_reducible refine Below.alloc ?_ ?_ _ | with_reducible refine Below.drew ?_ | with_reducible refine below_drewN ?_ _ | with_reducible assumption | with_reducible exact Below.refl _ _ | (simp only [World.size_alloc, World.size_setCell, World.size_drew]; first | done | omega) | omega)⟩
 case rest =>
  obtain ⟨p0, p1, rfl, rfl, hc0, hc1, hbc⟩ := hcut; have hcr := HA.out.2.2.below hbc HA.out.2.2.lt; have hce := HA.out.2.1.below hbc HA.out.2.1.lt; have HBC := Lib.hid (HA.out.1.trans (hbc.mono HA.out.1.size)); have HCR := Lib.hid hcr; have hl0 := hc0.lt; have hl1 := hc1.lt; have hlr := hcr.lt; have hc0c0 := hc0.cell 0 _ rfl; have hc0f0 := hc0.frozen 0; have hc0c1 := hc0.cell 1 _ rfl; have hc0f1 := hc0.frozen 1; have hc1c0 := hc1.cell 0 _ rfl; have hc1f0 := hc1.frozen 0; have hc1c1 := hc1.cell 1 _ rfl; have hc1f1 := hc1.frozen 1; have hcrc0 := hcr.cell 0 _ rfl; have hcrf0 := hcr.frozen 0; have hcrc1 := hcr.cell 1 _ rfl; have hcrf1 := hcr.frozen 1; have hcec0 := hce.cell 0 _ rfl; have hcef0 := hce.frozen 0; have hcec1 := hce.cell 1 _ rfl; have hcef1 := hce.frozen 1; have hcec2 := hce.cell 2 _ rfl; have hcef2 := hce.frozen 2; clear hc0 hc1 hcr hce hbc hpA0 hpA1 HSof r00 r01 r02 r10 r11 r12 g0 g1 g2; go_wp2_with fail; have hq := (HCR.out.setI 0 (.string (S0 ++ ⟨#[91]⟩ ++ S1 ++ ⟨#[93]⟩))).setI 1 (.int .i64 ((x0 : Int) + (x1 : Int))); have zz0 := hq.cell 0 _ rfl; have zz1 := hq.cell 1 _ rfl; refine bodyPost_ret (v := .agg #[.string (S0 ++ ⟨#[91]⟩ ++ S1 ++ ⟨#[93]⟩), .int .i64 ((x0 : Int) + (x1 : Int))]) (by simp [results, Tryz.results16, go_sem, zz0, zz1]) rfl ?_
  refine ofP_same ?_ (by omega) ((HBC.out.setCell (by show w.heap.size <= w.heap.size + 1; omega) _).setCell (by show w.heap.size <= w.heap.size + 1; omega) _)
  simp only [app_list, HS0.out, HS1.out, catP, catP_app, List.append_assoc, List.append_nil]; rfl
end
theorem two_ne {o : ByteArray} (h : o ∈ ([[124, 124], [38, 38], [61, 61], [33, 61], [60], [62], [60, 61], [62, 61], [43], [45], [42], [47], [37]] : List Bs).map strL) :
  (o.toList == [110, 97, 109, 101]) = false /\ (o.toList == [110, 117, 109]) = false /\ (o.toList == [116, 101, 120, 116]) = false /\ (o.toList == [99, 97, 108, 108]) = false /\ (o.toList == [108, 105, 115, 116]) = false /\ (o.toList == [103, 101, 116]) = false /\ (o.toList == [97, 116]) = false /\ (o.toList == [33]) = false /\ (o.toList == [110, 101, 103]) = false /\ (o.toList == [63]) = false := by
 obtain ⟨l, hl, rfl⟩ := List.mem_map.1 h; have e : (strL l).toList = l := by rw [ByteArray.toList_eq]; rfl
 rw [e]; clear h e
 revert l
 decide
theorem two_size {o : ByteArray} (h : o ∈ ([[124, 124], [38, 38], [61, 61], [33, 61], [60], [62], [60, 61], [62, 61], [43], [45], [42], [47], [37]] : List Bs).map strL) : o.size <= 2 := by
 obtain ⟨l, hl, rfl⟩ := List.mem_map.1 h; rw [size_strL]; clear h
 revert l
 decide
section
variable (w : World) (o t : ByteArray) (a : Option Addr) (k c : Nat)
theorem of_two (text : ByteArray) (op : ByteArray) (lv : Nat) (e0 e1 : Exp) (hop : op ≠ oName /\ op ≠ oNum /\ op ≠ oText /\ op ≠ oCall /\ op ≠ oList /\ op ≠ oAt) (hlv : lvN op = (lv : Int)) (h1 : 1 <= lv) (h6 : lv <= 6) (hm : op ∈ ([[124, 124], [38, 38], [61, 61], [33, 61], [60], [62], [60, 61], [62, 61], [43], [45], [42], [47], [37]] : List Bs).map strL) (hE0 : OfC e0) (hE1 : OfC e1) (hX : ExpAt w (.mk op text [e0, e1]) (expV o t (.slice a k c))) (hw : wt (pcX (.mk op text [e0, e1])) <= 500000) :
  Calls Tryz.prog 16 #[exV o t (.slice a k c)] w (OfP (pcX (.mk op text [e0, e1])) (brX (.mk op text [e0, e1])) w) := by
 have hbr : brX (.mk op text [e0, e1]) = brkN (lvN op) (lvN e0.op, brX e0) + brkN (lvN op + 1) (lvN e1.op, brX e1) := by
  simp only [brX, brs]; unfold brK; rw [if_neg hop.1, if_neg hop.2.1, if_neg hop.2.2.1, if_neg hop.2.2.2.1, if_neg hop.2.2.2.2.1]; simp only; rw [if_neg hop.2.2.2.2.2]
 rw [pc_two text e0 e1 hop] at hw ⊢; rw [hbr]; clear hbr; have hLv := fun W => rLevel_any op W; rw [hlv] at hw ⊢ hLv; obtain ⟨n0, n1, n2, n3, n4, n5, n6, n7, n8, n9⟩ := two_ne hm; have hos := two_size hm; obtain ⟨rfl, rfl, a', c', hsl, hkc, hcm⟩ := exp_top hX; cases hsl
 clear hop hm hlv; obtain ⟨b0, off0, ko0, kt0, ka0, kn0, kc0, he0, hlt0, hq0, hX0, -⟩ := kid_cells hX (i := 0) (by simp)
 simp only [Nat.reduceMul, Nat.zero_mul, Nat.one_mul, Nat.add_zero] at hq0; obtain ⟨b1, off1, ko1, kt1, ka1, kn1, kc1, he1, hlt1, hq1, hX1, -⟩ := kid_cells hX (i := 1) (by simp)
 simp only [Nat.reduceMul, Nat.zero_mul, Nat.one_mul, Nat.add_zero] at hq1; subst he0; cases he1
 have hw0 : wt (brk (lv : Int) (lvN e0.op, pcX e0)) <= 500000 := by simp only [wt_some, wt_none, wt_app, wt_nil] at hw; omega
 have hw1 : wt (brk ((lv : Int) + 1) (lvN e1.op, pcX e1)) <= 500000 := by simp only [wt_some, wt_none, wt_app, wt_nil] at hw; omega
 have hp0 := fun (W : World) (hW : Below w.heap.size w W) => rLeast_any hE0 W ko0 kt0 ka0 kn0 kc0 (lv : Int) (ExpAt.below hW _ _ hX0) (by omega)
 have hp1 := fun (W : World) (hW : Below w.heap.size w W) => rLeast_any hE1 W ko1 kt1 ka1 kn1 kc1 ((lv : Int) + 1) (ExpAt.below hW _ _ hX1) (by omega)
 have HS0 := Lib.hid (ptS_list (brk (lv : Int) (lvN e0.op, pcX e0))); have hs0 : (ptS (brk (lv : Int) (lvN e0.op, pcX e0))).size <= 500000 := Nat.le_trans (ptS_size _) hw0; have hn0 : brkN (lv : Int) (lvN e0.op, brX e0) <= 500000 := Nat.le_trans (brkN_le (brX_le e0)) hw0; have HS1 := Lib.hid (ptS_list (brk ((lv : Int) + 1) (lvN e1.op, pcX e1))); have hs1 : (ptS (brk ((lv : Int) + 1) (lvN e1.op, pcX e1))).size <= 500000 := Nat.le_trans (ptS_size _) hw1; have hn1 : brkN ((lv : Int) + 1) (lvN e1.op, brX e1) <= 500000 := Nat.le_trans (brkN_le (brX_le e1)) hw1; unfold OfP at hp0 hp1; generalize ptS (brk (lv : Int) (lvN e0.op, pcX e0)) = S0 at *; generalize brkN (lv : Int) (lvN e0.op, brX e0) = x0 at *; generalize ptS (brk ((lv : Int) + 1) (lvN e1.op, pcX e1)) = S1 at *; generalize brkN ((lv : Int) + 1) (lvN e1.op, brX e1) = x1 at *; have hbA := ofW_below w o t (.slice (some ⟨b0, off0, none⟩) 2 c); have heA := ofW_e w o t (.slice (some ⟨b0, off0, none⟩) 2 c); have hrA := ofW_r w o t (.slice (some ⟨b0, off0, none⟩) 2 c); obtain ⟨r00, r01, r02⟩ := hq0 _ hbA; obtain ⟨r10, r11, r12⟩ := hq1 _ hbA; have hszA : (ofW w o t (.slice (some ⟨b0, off0, none⟩) 2 c)).heap.size = w.heap.size + 2 := by simp
 have HQ0 := Lib.hid hq0; have HQ1 := Lib.hid hq1; have g0 := heA.cell 0 _ rfl; have g1 := heA.cell 1 _ rfl; have g2 := heA.cell 2 _ rfl; unfold ofW at hbA heA hrA r00 r01 r02 r10 r11 r12 hszA g0 g1 g2; clear hE0 hX0 hw0 hq0 hE1 hX1 hw1 hq1 hX hw; have hwp : IntKind.i64.wrap ((lv : Int) + 1) = (lv : Int) + 1 := IntWalk.i64_in _ (by omega)
 go_enter Tryz.func16, Tryz.ntmps16; go_wp2_with (go_at_call 33; refine (hLv _).mono ?_; rintro _ _ ⟨rfl, rfl⟩)
 generalize (w.alloc (.cells #[.string o, .string t, .slice (some ⟨b0, off0, none⟩) 2 c] 24)).alloc (.cells #[.string ⟨#[]⟩, .int .i64 0] 46) = wA at *; have hlA := heA.lt; have HA := Lib.hid (And.intro hbA (And.intro heA hrA)); have hlt0 : b0 < wA.heap.size := by omega
 clear hbA heA hrA
 have HSof := Lib.hid (fun (w' : World) (hw' : Below wA.heap.size wA w') => (show w'.cell? ⟨w.heap.size, 2, none⟩ = some (.slice (some ⟨b0, off0, none⟩) 2 c) /\ w'.cell? ⟨b0, off0, none⟩ = some (.string ko0) /\ w'.cell? ⟨b0, off0 + 1, none⟩ = some (.string kt0) /\ w'.cell? ⟨b0, off0 + 2, none⟩ = some (.slice ka0 kn0 kc0) /\ w'.cell? ⟨b0, off0 + 3, none⟩ = some (.string ko1) /\ w'.cell? ⟨b0, off0 + 3 + 1, none⟩ = some (.string kt1) /\ w'.cell? ⟨b0, off0 + 3 + 2, none⟩ = some (.slice ka1 kn1 kc1) from by
  have h1 := (HA.out.2.1.below hw' hlA).cell 2 _ rfl; obtain ⟨a00, a01, a02⟩ := HQ0.out _ (HA.out.1.trans (hw'.mono HA.out.1.size)); obtain ⟨a10, a11, a12⟩ := HQ1.out _ (HA.out.1.trans (hw'.mono HA.out.1.size))
  exact ⟨h1, a00, a01, a02, a10, a11, a12⟩))
 have hpA0 := fun (W : World) (hW : Below wA.heap.size wA W) => hp0 W (HA.out.1.trans (hW.mono HA.out.1.size)); have hpA1 := fun (W : World) (hW : Below wA.heap.size wA W) => hp1 W (HA.out.1.trans (hW.mono HA.out.1.size)); have hB0 := Below.refl wA.heap.size wA; clear hp0 hp1; go_cut [14, 15] (fun y0 y1 wc => ∃ p0 p1 : Nat, y0 = .pointer (some ⟨p0, 0, none⟩) /\ y1 = .pointer (some ⟨p1, 0, none⟩) /\ Cells wc p0 (ppV S0 x0) 46 /\ Cells wc p1 (ppV S1 x1) 46 /\ Below wA.heap.size wA wc)
 case first =>
  refine wp_region_noPanic ?_; refine wp_region_held_drew (S := (fun w' => w'.cell? ⟨w.heap.size, 2, none⟩ = some (.slice (some ⟨b0, off0, none⟩) 2 c) /\ w'.cell? ⟨b0, off0, none⟩ = some (.string ko0) /\ w'.cell? ⟨b0, off0 + 1, none⟩ = some (.string kt0) /\ w'.cell? ⟨b0, off0 + 2, none⟩ = some (.slice ka0 kn0 kc0) /\ w'.cell? ⟨b0, off0 + 3, none⟩ = some (.string ko1) /\ w'.cell? ⟨b0, off0 + 3 + 1, none⟩ = some (.string kt1) /\ w'.cell? ⟨b0, off0 + 3 + 2, none⟩ = some (.slice ka1 kn1 kc1))) (by kernel_rfl) (HSof.out _ hB0.drew) (fun hHeld => ?_)
  refine wpAnyH_take (i := 0) (v := ?_) rfl (by kernel_rfl) (by kernel_rfl) (by kernel_rfl) (fun _ _ _ h => h) (Or.inl ⟨by rfl, ?_⟩) hHeld ?_
  rotate_left
  ·intro w hSw
   (try dsimp only at hSw)
   go_simp
   (try with_reducible rfl)
  simp only [Act.put, List.setIfInBounds_toArray, List.set_cons_zero, List.set_cons_succ]; refine wpAnyH_take (i := 1) (v := ?_) rfl (by kernel_rfl) (by kernel_rfl) (by kernel_rfl) (fun _ _ _ h => h) (Or.inl ⟨by rfl, ?_⟩) hHeld ?_
  rotate_left
  ·intro w hSw
   (try dsimp only at hSw)
   go_simp
   (try with_reducible rfl)
  simp only [Act.put, List.setIfInBounds_toArray, List.set_cons_zero, List.set_cons_succ]; refine wpAnyH_take (i := 2) (v := ?_) rfl (by kernel_rfl) (by kernel_rfl) (by kernel_rfl) (fun _ _ _ h => h) (Or.inl ⟨by rfl, ?_⟩) hHeld ?_
  rotate_left
  ·intro w hSw
   (try dsimp only at hSw)
   go_simp
   (try with_reducible rfl)
  simp only [Act.put, List.setIfInBounds_toArray, List.set_cons_zero, List.set_cons_succ]; refine wpAnyH_take (i := 3) (v := ?_) rfl (by kernel_rfl) (by kernel_rfl) (by kernel_rfl) (fun _ _ _ h => h) (Or.inl ⟨by rfl, ?_⟩) hHeld ?_
  rotate_left
  ·intro w hSw
   (try dsimp only at hSw)
   go_simp
   (try with_reducible rfl)
  simp only [Act.put, List.setIfInBounds_toArray, List.set_cons_zero, List.set_cons_succ]; refine wpAnyH_take (i := 4) (v := ?_) rfl (by kernel_rfl) (by kernel_rfl) (by kernel_rfl) (fun _ _ _ h => h) (Or.inl ⟨by rfl, ?_⟩) hHeld ?_
  rotate_left
  ·intro w hSw
   (try dsimp only at hSw)
   go_simp
   (try with_reducible rfl)
  simp only [Act.put, List.setIfInBounds_toArray, List.set_cons_zero, List.set_cons_succ]; refine wpAnyH_take (i := 6) (v := ?_) rfl (by kernel_rfl) (by kernel_rfl) (by kernel_rfl) (fun _ _ _ h => h) (Or.inl ⟨by rfl, ?_⟩) hHeld ?_
  rotate_left
  ·intro w hSw
   (try dsimp only at hSw)
   go_simp
   (try with_reducible rfl)
  simp only [Act.put, List.setIfInBounds_toArray, List.set_cons_zero, List.set_cons_succ]; refine wpAnyH_take (i := 7) (v := ?_) rfl (by kernel_rfl) (by kernel_rfl) (by kernel_rfl) (fun _ _ _ h => h) (Or.inl ⟨by rfl, ?_⟩) hHeld ?_
  rotate_left
  ·intro w hSw
   (try dsimp only at hSw)
   go_simp
   (try with_reducible rfl)
  simp only [Act.put, List.setIfInBounds_toArray, List.set_cons_zero, List.set_cons_succ]; refine wpAnyH_take (i := 8) (v := ?_) rfl (by kernel_rfl) (by kernel_rfl) (by kernel_rfl) (fun _ _ _ h => h) (Or.inl ⟨by rfl, ?_⟩) hHeld ?_
  rotate_left
  ·intro w hSw
   (try dsimp only at hSw)
   go_simp
   (try with_reducible rfl)
  simp only [Act.put, List.setIfInBounds_toArray, List.set_cons_zero, List.set_cons_succ]; refine wpAnyH_take (i := 9) (v := ?_) rfl (by kernel_rfl) (by kernel_rfl) (by kernel_rfl) (fun _ _ _ h => h) (Or.inl ⟨by rfl, ?_⟩) hHeld ?_
  rotate_left
  ·intro w hSw
   (try dsimp only at hSw)
   go_simp
   (try with_reducible rfl)
  simp only [Act.put, List.setIfInBounds_toArray, List.set_cons_zero, List.set_cons_succ]; refine wpAnyH_take (i := 10) (v := ?_) rfl (by kernel_rfl) (by kernel_rfl) (by kernel_rfl) (fun _ _ _ h => h) (Or.inl ⟨by rfl, ?_⟩) hHeld ?_
  rotate_left
  ·intro w hSw
   (try dsimp only at hSw)
   go_simp
   (try with_reducible rfl)
  simp only [Act.put, List.setIfInBounds_toArray, List.set_cons_zero, List.set_cons_succ]; refine wpAnyH_take (i := 11) (v := ?_) rfl (by kernel_rfl) (by kernel_rfl) (by kernel_rfl) (fun _ _ _ h => h) (Or.inl ⟨by rfl, ?_⟩) hHeld ?_
  rotate_left
  ·intro w hSw
   (try dsimp only at hSw)
   go_simp
   (try with_reducible rfl)
  simp only [Act.put, List.setIfInBounds_toArray, List.set_cons_zero, List.set_cons_succ]
  refine wpAnyH_flo wA [168, 175, 14, 15] [5, 12, 13, 14] 2 (fun k => decide (2 <= k)) (fun k => if k = 0 then .agg (ppV S0 x0) else .agg (ppV S1 x1)) (fun _ => #[.string ⟨#[]⟩, .int .i64 0]) (fun _ => 46) (fun k => undef)
   hB0.drew (by kernel_rfl) HSof.out [(0, 1)] (by decide) (by kernel_rfl) (by kernel_rfl) (by kernel_rfl) rfl ?_ ?_ ?_
  ·intro δ k hk
   rcases k with _ | _ | _ | _ | k
   ·kernel_rfl
   ·kernel_rfl
   ·kernel_rfl
   ·kernel_rfl
   ·simp at hk; omega
  ·intro k hk σ W hW
   rcases k with _ | _ | _ | _ | k
   ·refine wpOp_step rfl (fun K' hK => ?_)
    have HK := Lib.hid hK; clear hK; simp only [floA, Act.put, List.setIfInBounds_toArray, List.set_cons_zero, List.set_cons_succ]; go_simp
    go_at_call 32
    refine (hpA0 W hW).mono ?_; rintro _ W' ⟨rfl, hB'⟩; go_simp
    exact HK.out _ _ ⟨.agg (ppV S0 x0), by kernel_rfl, hB', flo_call rfl rfl⟩
   ·refine wpOp_step rfl (fun K' hK => ?_)
    have HK := Lib.hid hK; clear hK; simp only [floA, Act.put, List.setIfInBounds_toArray, List.set_cons_zero, List.set_cons_succ]; go_simp
    go_at_call 32
    refine (hpA1 W hW).mono ?_; rintro _ W' ⟨rfl, hB'⟩; go_simp
    exact HK.out _ _ ⟨.agg (ppV S1 x1), by kernel_rfl, hB', flo_call rfl rfl⟩
   ·refine wpOp_step rfl (fun K' hK => ?_)
    have HK := Lib.hid hK; clear hK; simp only [floA, Act.put, List.setIfInBounds_toArray, List.set_cons_zero, List.set_cons_succ]; go_simp
    exact HK.out _ _ ⟨.pointer (some ⟨W.heap.size, 0, none⟩), by kernel_rfl, (Below.refl _ W).alloc (Nat.le_refl _) _, flo_alloc rfl (Cells.new W _ _)⟩
   ·refine wpOp_step rfl (fun K' hK => ?_)
    have HK := Lib.hid hK; clear hK; simp only [floA, Act.put, List.setIfInBounds_toArray, List.set_cons_zero, List.set_cons_succ]; go_simp
    exact HK.out _ _ ⟨.pointer (some ⟨W.heap.size, 0, none⟩), by kernel_rfl, (Below.refl _ W).alloc (Nat.le_refl _) _, flo_alloc rfl (Cells.new W _ _)⟩
   ·simp at hk; omega
  ·intro q W hB hI hne
   have hc0 := (hI 2 (by decide) rfl).2
   have hc1 := (hI 3 (by decide) rfl).2
   have hne01 : ¬ q 2 = q 3 := hne 2 3 (by decide) (by decide) (by decide) rfl rfl
   have hne10 : ¬ q 3 = q 2 := hne 3 2 (by decide) (by decide) (by decide) rfl rfl
   have hg0 := (hI 2 (by decide) rfl).1
   have hg1 := (hI 3 (by decide) rfl).1
   have hsz := hB.size; change Cells W (q 2) #[.string ⟨#[]⟩, .int .i64 0] 46 at hc0; change Cells W (q 3) #[.string ⟨#[]⟩, .int .i64 0] 46 at hc1; simp only [floA, floV, Nat.reduceLeDiff, Nat.reduceEqDiff, Nat.reduceAdd, decide_true, decide_false, if_true, if_false, reduceIte, reduceCtorEq, Bool.false_eq_true, Nat.le_refl, Nat.zero_add, Act.put, List.setIfInBounds_toArray, List.set_cons_zero, List.set_cons_succ]; have HC0 := Lib.hid hc0; have hl0 := hc0.lt; have HC1 := Lib.hid hc1; have hl1 := hc1.lt; have hc0c0 := hc0.cell 0 _ rfl; have hc0f0 := hc0.frozen 0; have hc0c1 := hc0.cell 1 _ rfl; have hc0f1 := hc0.frozen 1; have hc1c0 := hc1.cell 0 _ rfl; have hc1f0 := hc1.frozen 0; have hc1c1 := hc1.cell 1 _ rfl; have hc1f1 := hc1.frozen 1; clear hc0 hc1 hI hne; refine wpAnyH_ready (rs := [15]) (by kernel_rfl) (by simp) ?_
   refine AllReadyH.cons rfl (fun K hK => ?_) AllReadyH.nil; go_simp
   refine hK.out _ _ ?_ (fun hHeld => ?_)
   ·exact HSof.out _ (by (repeat' first | with_reducible refine Below.setCell ?_ ?_ _ | with_reducible refine Below.alloc ?_ ?_ _ | with_reducible refine Below.drew ?_ | with_reducible refine below_drewN ?_ _ | with_reducible assumption | with_reducible exact Below.refl _ _ | (simp only [World.size_alloc, World.size_setCell, World.size_drew]; first | done | omega) | omega))
   clear hK K; try simp only [Act.put, List.setIfInBounds_toArray, List.set_cons_zero, List.set_cons_succ]
   refine wpAnyH_ready (rs := [16]) (by kernel_rfl) (by simp) ?_
   refine AllReadyH.cons rfl (fun K hK => ?_) AllReadyH.nil; go_simp
   refine hK.out _ _ ?_ (fun hHeld => ?_)
   ·exact HSof.out _ (by (repeat' first | with_reducible refine Below.setCell ?_ ?_ _ | with_reducible refine Below.alloc ?_ ?_ _ | with_reducible refine Below.drew ?_ | with_reducible refine below_drewN ?_ _ | with_reducible assumption | with_reducible exact Below.refl _ _ | (simp only [World.size_alloc, World.size_setCell, World.size_drew]; first | done | omega) | omega))
   clear hK K; try simp only [Act.put, List.setIfInBounds_toArray, List.set_cons_zero, List.set_cons_succ]
   refine wpAnyH_done (by kernel_rfl) ?_ _
   refine NoPanic.normal ?_; go_wp2_with fail; go_meet
   case rel => exact ⟨q 2, q 3, rfl, rfl, ((((HC0.out.setI 0 (.string S0)).setI 1 (.int .i64 (x0 : Nat))).setOther _ _ hne10).setOther _ _ hne10), ((((HC1.out.setOther _ _ hne01).setOther _ _ hne01).setI 0 (.string S1)).setI 1 (.int .i64 (x1 : Nat))), by (repeat' first | with_reducible refine Below.setCell ?_ ?_ _ | with_reducible refine Below.alloc ?_ ?_ _ | with_reducible refine Below.drew ?_ | with_reducible refine below_drewN ?_ _ | with_reducible assumption | with_reducible exact Below.refl _ _ | (simp only [World.size_alloc, World.size_setCell, World.size_drew]; first | done | omega) | omega)⟩
 case rest =>
  obtain ⟨p0, p1, rfl, rfl, hc0, hc1, hbc⟩ := hcut; have hcr := HA.out.2.2.below hbc HA.out.2.2.lt; have hce := HA.out.2.1.below hbc HA.out.2.1.lt; have HBC := Lib.hid (HA.out.1.trans (hbc.mono HA.out.1.size)); have HCR := Lib.hid hcr; have hl0 := hc0.lt; have hl1 := hc1.lt; have hlr := hcr.lt; have hc0c0 := hc0.cell 0 _ rfl; have hc0f0 := hc0.frozen 0; have hc0c1 := hc0.cell 1 _ rfl; have hc0f1 := hc0.frozen 1; have hc1c0 := hc1.cell 0 _ rfl; have hc1f0 := hc1.frozen 0; have hc1c1 := hc1.cell 1 _ rfl; have hc1f1 := hc1.frozen 1; have hcrc0 := hcr.cell 0 _ rfl; have hcrf0 := hcr.frozen 0; have hcrc1 := hcr.cell 1 _ rfl; have hcrf1 := hcr.frozen 1; have hcec0 := hce.cell 0 _ rfl; have hcef0 := hce.frozen 0; have hcec1 := hce.cell 1 _ rfl; have hcef1 := hce.frozen 1; have hcec2 := hce.cell 2 _ rfl; have hcef2 := hce.frozen 2; clear hc0 hc1 hcr hce hbc hpA0 hpA1 HSof r00 r01 r02 r10 r11 r12 g0 g1 g2; go_wp2_with fail; have hq := (HCR.out.setI 0 (.string (S0 ++ ⟨#[32]⟩ ++ o ++ ⟨#[32]⟩ ++ S1))).setI 1 (.int .i64 ((x0 : Int) + (x1 : Int))); have zz0 := hq.cell 0 _ rfl; have zz1 := hq.cell 1 _ rfl; refine bodyPost_ret (v := .agg #[.string (S0 ++ ⟨#[32]⟩ ++ o ++ ⟨#[32]⟩ ++ S1), .int .i64 ((x0 : Int) + (x1 : Int))]) (by simp [results, Tryz.results16, go_sem, zz0, zz1]) rfl ?_
  refine ofP_same ?_ (by omega) ((HBC.out.setCell (by show w.heap.size <= w.heap.size + 1; omega) _).setCell (by show w.heap.size <= w.heap.size + 1; omega) _)
  simp only [app_list, HS0.out, HS1.out, catP, catP_app, List.append_assoc, List.append_nil]; rfl
end
end Go.Proofs.YthbhknfhmkhfgaaGreatDoor
