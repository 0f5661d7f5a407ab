/- Texts of this claim, one behind the other: RfG, RfH, ShT, ShV, ShE, ShB, ShLt, ToX. -/
import Derived.Test.YthbhknfhmkhfgaaGreatDoorMgb
import Derived.Test.YthbhknfhmkhfgaaGreatDoorMgf
import Derived.Test.YthbhknfhmkhfgaaGreatDoorMgi
import Derived.Test.YthbhknfhmkhfgaaGreatDoorMgj
import Derived.Test.YthbhknfhmkhfgaaGreatDoorMgl
import Derived.Test.YthbhknfhmkhfgaaGreatDoorMgn
import Derived.Test.YthbhknfhmkhfgaaGreatDoorMgo
set_option linter.unusedSimpArgs false
set_option linter.unusedVariables false
namespace Go.Proofs.YthbhknfhmkhfgaaGreatDoor
set_option maxRecDepth 100000
set_option maxHeartbeats 20000000
open Go.RowKit Go.Tab
theorem mloop_no : ∀ (m : Nat) (s : ByteArray) (L : List Exp) (r : List Tok) (d : Nat), (parX m (.mloop s L) r d).2.2 = 0 -> ∃ ks, (parX m (.mloop s L) r d).1 = .mk oNo oNo ks
 | 0, s, L, r, d, h => by rw [parX] at h; cases h
 | m + 1, s, L, r, d, h => by
  rw [parX] at h ⊢
  by_cases h1 : (parX m .choice r (d + 1)).2.2 = 0
  ·rw [andX_ok h1] at h ⊢
   by_cases h2 : isS (r.drop (parX m .choice r (d + 1)).2.1) sComma = true
   ·rw [if_pos h2] at h ⊢
    exact mloop_no m s _ _ _ h
   ·rw [if_neg h2] at h ⊢
    by_cases h3 : isS (r.drop (parX m .choice r (d + 1)).2.1) s = true
    ·rw [if_pos h3]; exact ⟨_, rfl⟩
    ·rw [if_neg h3] at h
     unfold badX at h; split at h <;> cases h
  ·rw [andX_bad h1] at h
   exact absurd h h1
theorem many_no (m : Nat) (s : ByteArray) (r : List Tok) (d : Nat) (h : (parX m (.many s) r d).2.2 = 0) : ∃ ks, (parX m (.many s) r d).1 = .mk oNo oNo ks := by
 cases m with
 | zero => rw [parX] at h; cases h
 | succ m =>
  rw [parX] at h ⊢
  by_cases h1 : 64 <= d
  ·rw [if_pos h1] at h; cases h
  ·rw [if_neg h1] at h ⊢
   by_cases h2 : isS (r.drop 1) s = true
   ·rw [if_pos h2]; exact ⟨_, rfl⟩
   ·rw [if_neg h2] at h ⊢
    exact mloop_no m s _ _ _ h
theorem ExpIn.named {P : Nat -> Prop} {w : World} {o t o1 t1 : ByteArray} {ks : List Exp} {sl : Value} (h : ExpIn P w (.mk o t ks) (expV o1 t1 sl)) (o2 t2 : ByteArray) : ExpIn P w (.mk o2 t2 ks) (expV o2 t2 sl) := by
 simp only [ExpIn] at h ⊢; obtain ⟨a, cap, h1, h2⟩ := h; simp only [List.cons.injEq, and_true] at h1; obtain ⟨-, -, rfl⟩ := h1; exact ⟨a, cap, rfl, h2⟩
theorem ExpIn.words {P : Nat -> Prop} {w : World} {o t o1 t1 : ByteArray} {ks : List Exp} {sl : Value} (h : ExpIn P w (.mk o t ks) (expV o1 t1 sl)) : o1 = o /\ t1 = t := by
 simp only [ExpIn] at h; obtain ⟨a, cap, h1, h2⟩ := h; simp only [List.cons.injEq, and_true, Value.string.injEq] at h1; exact ⟨h1.1, h1.2.1⟩
theorem quo_scan (s x : ByteArray) (h : quoX s = some x) : ∃ p e : Int, partV (scanQ (bs s)) = .agg #[.string x, .int .i64 p, .int .i64 e] := by
 unfold quoX at h; unfold partV; rw [show bs s = nb s.data.toList from rfl]; split at h
 ·simp only [Option.some.injEq] at h
  subst h; exact ⟨_, _, rfl⟩
 ·cases h
theorem rfPrime_step (m : Nat) (hM : MC m) (hC : CC m) : QC (m + 1) := by
 intro w lv l k d h hk hd hne; obtain ⟨a, c, rfl, hlc, hcm⟩ := h.sl; have hfew := h.few; unfold maxLen at hcm; have hA0 := At4.start h; obtain ⟨R, hR⟩ : ∃ R, R = parX (m + 1) .prime (l.drop k) d := ⟨_, rfl⟩; rw [<- hR] at hne ⊢; have hbad := rfBad_any (w.alloc (.cells zeroG 39)) (.slice a l.length c) l k hA0.l.toks hfew hk; have hbz : Hid ((badX (l.drop k) 0).2.2 ≠ 0) := Lib.hid (by unfold badX; split <;> simp)
 by_cases hkl : k < l.length
 ·have hdr : l.drop k = l[k] :: l.drop (k + 1) := List.drop_eq_getElem_cons hkl
  have hsg0 := fun s => rfSign_any (w.alloc (.cells zeroG 39)) (.slice a l.length c) l k s hA0.l.toks hfew (by omega)
  have hsg1 := fun s => rfSign_any (w.alloc (.cells zeroG 39)) (.slice a l.length c) l (k + 1) s hA0.l.toks hfew (by omega)
  rw [show ((k + 1 : Nat) : Int) = (k : Int) + 1 by omega] at hsg1
  obtain ⟨bb, off, rfl, hlt, q0, q1, q2⟩ := h.toks.get hkl; have hquo := h.quo l[k] (List.getElem_mem hkl); have hsh := h.short l[k] (List.getElem_mem hkl); have his : ∀ s, isS (l.drop k) s = (decide (l[k].kind = 4) && decide (l[k].text = s)) := fun s => by rw [hdr]; rfl
  rw [hdr, parX, <- hdr] at hR; obtain ⟨kd, hkd⟩ : ∃ z, l[k].kind = z := ⟨_, rfl⟩; obtain ⟨tx, htx⟩ : ∃ z, l[k].text = z := ⟨_, rfl⟩; simp only [hkd, htx] at hR his hquo hsh q0 q1; clear q2 hkd htx hdr; have HA0 := Lib.hid hA0; clear h hA0
  by_cases k1 : kd = 1
  ·subst k1
   have hlp : isS (l.drop k) sLp = false := by rw [his]; rfl
   have hlb : isS (l.drop k) sLb = false := by rw [his]; rfl
   rw [if_pos rfl] at hR
   by_cases hp1 : isS (l.drop (k + 1)) sLp = true
   ·rw [if_pos hp1] at hR
    have hk1 := isS_ltR hp1
    have hr2 : (parX m (.many sRp) (l.drop (k + 1)) d).2.2 ≠ -1 := by
     rw [hR] at hne; exact andX_ne2 (g := upX 1 (parX m (.many sRp) (l.drop (k + 1)) d)) hne
    have hno := many_no m sRp (l.drop (k + 1)) d; have hC2 := hM _ _ l (k + 1) d sRp HA0.out.l hk1 hd (.inl rfl) hr2; rw [show ((k + 1 : Nat) : Int) = (k : Int) + 1 by omega] at hC2
    generalize parX m (.many sRp) (l.drop (k + 1)) d = R2 at *; obtain ⟨x2, n2, e2⟩ := R2; simp only at hno hr2; have HR := Lib.hid hR; have HNO := Lib.hid hno; clear hR hno hr2 hne hbad his hquo hsh; go_enter Tryz.func127, Tryz.ntmps127; go_wp2_with (go_at_call 50; (first | with_reducible refine (hsg0 _).mono ?_ | with_reducible refine (hsg1 _).mono ?_); rintro _ _ ⟨rfl, rfl⟩; simp only [hlp, hlb, hp1])
    clear hsg0 hsg1; refine (hC2).mono ?_; clear hC2; rintro _ w6 ⟨hbX, o2, t2, a2, m2, c2, heX, hXX⟩; simp only at heX hXX; obtain ⟨p2, hp2⟩ : ∃ pz : Nat, pz = k + 1 + n2 := ⟨_, rfl⟩; rw [<- hp2] at heX; subst heX; have HP2 := Lib.hid hp2; clear hp2; have hA6 := HA0.out.go hbX; have hq6 := hA6.q; have hl6 := hq6.lt; have q6 := (hbX.cell (p := ⟨bb, off + k * 3 + 1, none⟩) (by simp only [World.size_alloc]; omega)).trans ((World.cell?_alloc_past _ _ _ hlt).trans q1)
    have hlt6 : bb < w6.heap.size := by have := hA6.b.size; omega
    have HX2 := Lib.hid (fun h => HA0.out.exp (hXX h)); have H6 := Lib.hid hA6; clear hbX hXX HA0 hA6 q0 q1
    by_cases he2 : e2 = 0
    ·subst he2
     obtain ⟨ks, hks⟩ := HNO.out (by first | trivial | rfl)
     subst hks; have hRR : Hid (R = (.mk oCall tx ks, 1 + n2, 0)) := Lib.hid (by rw [HR.out, andX_ok (by rfl)]; rfl)
     have hXn := (HX2.out (by first | trivial | rfl)).named oCall tx
     have HXn := Lib.hid hXn; clear HR hXn; have hq6c0 := hq6.cell 0 _ rfl; have hq6f0 := hq6.frozen 0; have hq6c1 := hq6.cell 1 _ rfl; have hq6f1 := hq6.frozen 1; have hq6c2 := hq6.cell 2 _ rfl; have hq6f2 := hq6.frozen 2; have hq6c3 := hq6.cell 3 _ rfl; have hq6f3 := hq6.frozen 3; have hq6c4 := hq6.cell 4 _ rfl; have hq6f4 := hq6.frozen 4; clear hq6; go_wp2_with fail; have hq := (((((H6.out.q.setI 0 (.string oCall)).setI 1 (.string tx)).setI 2 (.slice a2 m2 c2)).setI 3 (.int .i64 p2)).setI 4 (.int .i64 0)).alloc (.cells (gotA oCall tx (.slice a2 m2 c2) p2 0) 39); have hbb := far_one (vs := [.string oCall, .string tx, .slice a2 m2 c2, .int .i64 p2, .int .i64 0]) H6.out.b (.cells (gotA oCall tx (.slice a2 m2 c2) p2 0) 39); have zz0 := hq.cell 0 _ rfl; have zz1 := hq.cell 1 _ rfl; have zz2 := hq.cell 2 _ rfl; have zz3 := hq.cell 3 _ rfl; have zz4 := hq.cell 4 _ rfl; refine bodyPost_ret (v := .agg (#[.string oCall, .string tx, .slice a2 m2 c2, .int .i64 p2, .int .i64 0])) (by simp [results, Tryz.results127, go_sem, zz0, zz1, zz2, zz3, zz4]) rfl ?_
     rw [hRR.out]; have hxx := far_exp1 (vs := [.string oCall, .string tx, .slice a2 m2 c2, .int .i64 p2, .int .i64 0]) HXn.out (.cells (gotA oCall tx (.slice a2 m2 c2) p2 0) 39); exact gp_mk (r := (.mk oCall tx ks, 1 + n2, 0)) (by simp only; have := HP2.out; omega) rfl hbb (fun _ => hxx)
    ·have e0 : (e2 == 0) = false := by simpa using he2
     have hRR : Hid (R = (zeroX, 1 + n2, e2)) := Lib.hid (by rw [HR.out, andX_bad (by exact he2)]; rfl)
     clear HR; have hq6c0 := hq6.cell 0 _ rfl; have hq6f0 := hq6.frozen 0; have hq6c1 := hq6.cell 1 _ rfl; have hq6f1 := hq6.frozen 1; have hq6c2 := hq6.cell 2 _ rfl; have hq6f2 := hq6.frozen 2; have hq6c3 := hq6.cell 3 _ rfl; have hq6f3 := hq6.frozen 3; have hq6c4 := hq6.cell 4 _ rfl; have hq6f4 := hq6.frozen 4; clear hq6; go_wp2_with fail; have hq := (((((H6.out.q.setI 0 (.string o2)).setI 1 (.string t2)).setI 2 (.slice a2 m2 c2)).setI 3 (.int .i64 p2)).setI 4 (.int .i64 e2)).alloc (.cells (gotA o2 t2 (.slice a2 m2 c2) p2 e2) 39); have hbb := far_one (vs := [.string o2, .string t2, .slice a2 m2 c2, .int .i64 p2, .int .i64 e2]) H6.out.b (.cells (gotA o2 t2 (.slice a2 m2 c2) p2 e2) 39); have zz0 := hq.cell 0 _ rfl; have zz1 := hq.cell 1 _ rfl; have zz2 := hq.cell 2 _ rfl; have zz3 := hq.cell 3 _ rfl; have zz4 := hq.cell 4 _ rfl; refine bodyPost_ret (v := .agg (#[.string o2, .string t2, .slice a2 m2 c2, .int .i64 p2, .int .i64 e2])) (by simp [results, Tryz.results127, go_sem, zz0, zz1, zz2, zz3, zz4]) rfl ?_
     rw [hRR.out]; exact gp_mk (r := (zeroX, 1 + n2, e2)) (by simp only; have := HP2.out; omega) rfl hbb (fun h => absurd h he2)
   ·have hp1 : isS (l.drop (k + 1)) sLp = false := by simpa using hp1
    rw [if_neg (by rw [hp1]; decide)] at hR
    have HR := Lib.hid hR; clear hR hne hbad his hquo hsh; go_enter Tryz.func127, Tryz.ntmps127; go_wp2_with (go_at_call 50; (first | with_reducible refine (hsg0 _).mono ?_ | with_reducible refine (hsg1 _).mono ?_); rintro _ _ ⟨rfl, rfl⟩; simp only [hlp, hlb, hp1])
    have hq := Cells.new w (gotA oName tx (.slice none 0 0) ((k : Int) + 1) 0) 39; have zz0 := hq.cell 0 _ rfl; have zz1 := hq.cell 1 _ rfl; have zz2 := hq.cell 2 _ rfl; have zz3 := hq.cell 3 _ rfl; have zz4 := hq.cell 4 _ rfl; refine bodyPost_ret (v := .agg (gotA oName tx (.slice none 0 0) ((k : Int) + 1) 0)) (by simp [results, Tryz.results127, go_sem, zz0, zz1, zz2, zz3, zz4]) rfl ?_
    rw [HR.out]; exact gp_mk (r := (.mk oName tx [], 1, 0)) (by simp only; omega) rfl ((Below.refl _ w).alloc (Nat.le_refl _) _) (fun _ => ExpIn.leaf _ _ _ _)
  ·rw [if_neg k1] at hR
   have k1b : (kd == 1) = false := by simpa using k1
   by_cases k2 : kd = 2
   ·subst k2
    have hlp : isS (l.drop k) sLp = false := by rw [his]; rfl
    have hlb : isS (l.drop k) sLb = false := by rw [his]; rfl
    rw [if_pos rfl] at hR; have HR := Lib.hid hR; clear hR hne hbad his hquo hsh hsg1 k1b k1; go_enter Tryz.func127, Tryz.ntmps127; go_wp2_with (go_at_call 50; (first | with_reducible refine (hsg0 _).mono ?_ | with_reducible refine (hsg1 _).mono ?_); rintro _ _ ⟨rfl, rfl⟩; simp only [hlp, hlb])
    have hq := Cells.new w (gotA oNum tx (.slice none 0 0) ((k : Int) + 1) 0) 39; have zz0 := hq.cell 0 _ rfl; have zz1 := hq.cell 1 _ rfl; have zz2 := hq.cell 2 _ rfl; have zz3 := hq.cell 3 _ rfl; have zz4 := hq.cell 4 _ rfl; refine bodyPost_ret (v := .agg (gotA oNum tx (.slice none 0 0) ((k : Int) + 1) 0)) (by simp [results, Tryz.results127, go_sem, zz0, zz1, zz2, zz3, zz4]) rfl ?_
    rw [HR.out]; exact gp_mk (r := (.mk oNum tx [], 1, 0)) (by simp only; omega) rfl ((Below.refl _ w).alloc (Nat.le_refl _) _) (fun _ => ExpIn.leaf _ _ _ _)
   ·rw [if_neg k2] at hR
    have k2b : (kd == 2) = false := by simpa using k2
    by_cases k3 : kd = 3
    ·subst k3
     have hlp : isS (l.drop k) sLp = false := by rw [his]; rfl
     have hlb : isS (l.drop k) sLb = false := by rw [his]; rfl
     rw [if_pos rfl] at hR
     obtain ⟨x, hx⟩ : ∃ x, quoX tx = some x := by
      cases hq : quoX tx with
      | none => exact absurd hq (hquo rfl)
      | some x => exact ⟨x, rfl⟩
     rw [hx] at hR; simp only at hR; obtain ⟨pp, ee, hpe⟩ := quo_scan tx x hx; have hsc := qrScan_any tx (w.alloc (.cells zeroG 39)) hsh; rw [hpe] at hsc; have HR := Lib.hid hR; clear hR hne hbad his hquo hsh hsg1 k1b k1 k2b k2 hx hpe; go_enter Tryz.func127, Tryz.ntmps127; go_wp2_with (go_at_call 50; (first | with_reducible refine (hsg0 _).mono ?_ | with_reducible refine (hsg1 _).mono ?_); rintro _ _ ⟨rfl, rfl⟩; simp only [hlp, hlb])
     refine hsc.mono ?_; clear hsc hsg0; have hfd : ∀ w : World, (Instr.field 87 (.agg #[.string x, .int .i64 pp, .int .i64 ee]) 0).run Tryz.prog w = .ok (.string x) w := fun _ => by kernel_rfl
     rintro _ w4 ⟨rfl, hbX⟩; have hA4 := HA0.out.go hbX; have hq4 := hA4.q; have hl4 := hq4.lt; have H4 := Lib.hid hA4; clear hA4 hbX q0 q1 HA0; have hq4c0 := hq4.cell 0 _ rfl; have hq4f0 := hq4.frozen 0; have hq4c1 := hq4.cell 1 _ rfl; have hq4f1 := hq4.frozen 1; have hq4c2 := hq4.cell 2 _ rfl; have hq4f2 := hq4.frozen 2; have hq4c3 := hq4.cell 3 _ rfl; have hq4f3 := hq4.frozen 3; have hq4c4 := hq4.cell 4 _ rfl; have hq4f4 := hq4.frozen 4; clear hq4; go_wp2_with fail; have hq := ((((H4.out.q.setI 0 (.string oText)).setI 1 (.string x)).setI 2 (.slice none 0 0)).setI 3 (.int .i64 ((k : Int) + 1))).setI 4 (.int .i64 0); have hbb := set_below H4.out.b [.string oText, .string x, .slice none 0 0, .int .i64 ((k : Int) + 1), .int .i64 0]; have zz0 := hq.cell 0 _ rfl; have zz1 := hq.cell 1 _ rfl; have zz2 := hq.cell 2 _ rfl; have zz3 := hq.cell 3 _ rfl; have zz4 := hq.cell 4 _ rfl; refine bodyPost_ret (v := .agg (#[.string oText, .string x, .slice none 0 0, .int .i64 ((k : Int) + 1), .int .i64 0])) (by simp [results, Tryz.results127, go_sem, zz0, zz1, zz2, zz3, zz4]) rfl ?_
     rw [HR.out]; exact gp_mk (r := (.mk oText x [], 1, 0)) (by simp only; omega) rfl hbb (fun _ => ExpIn.leaf _ _ _ _)
    ·rw [if_neg k3] at hR
     have k3b : (kd == 3) = false := by simpa using k3
     clear hsg1
     by_cases hlb : isS (l.drop k) sLb = true
     ·have hlp : isS (l.drop k) sLp = false := by
       rw [his] at hlb ⊢; simp only [Bool.and_eq_true, decide_eq_true_eq] at hlb; rw [hlb.2, hlb.1]; decide
      rw [if_pos hlb] at hR
      have hr2 : (parX m (.many sRb) (l.drop k) d).2.2 ≠ -1 := by
       rw [hR] at hne; exact andX_ne2 hne
      have hno := many_no m sRb (l.drop k) d; have hC2 := hM _ _ l k d sRb HA0.out.l hkl hd (.inr rfl) hr2; generalize parX m (.many sRb) (l.drop k) d = R2 at *; obtain ⟨x2, n2, e2⟩ := R2; simp only at hno hr2; have HR := Lib.hid hR; have HNO := Lib.hid hno; clear hR hno hr2 hne hbad his hquo hsh; go_enter Tryz.func127, Tryz.ntmps127; go_wp2_with (go_at_call 50; (first | with_reducible refine (hsg0 _).mono ?_ | with_reducible refine (hsg1 _).mono ?_); rintro _ _ ⟨rfl, rfl⟩; simp only [hlp, hlb])
      clear hsg0; refine (hC2).mono ?_; clear hC2; rintro _ w6 ⟨hbX, o2, t2, a2, m2, c2, heX, hXX⟩; simp only at heX hXX; obtain ⟨p2, hp2⟩ : ∃ pz : Nat, pz = k + n2 := ⟨_, rfl⟩; rw [<- hp2] at heX; subst heX; have HP2 := Lib.hid hp2; clear hp2; have hA6 := HA0.out.go hbX; have hq6 := hA6.q; have hl6 := hq6.lt; have HX2 := Lib.hid (fun h => HA0.out.exp (hXX h)); have H6 := Lib.hid hA6; clear hbX hXX HA0 hA6 q0 q1
      by_cases he2 : e2 = 0
      ·subst he2
       obtain ⟨ks, hks⟩ := HNO.out (by first | trivial | rfl)
       subst hks; obtain ⟨-, ht2⟩ := (HX2.out (by first | trivial | rfl)).words
       subst ht2; have hRR : Hid (R = (.mk oList oNo ks, n2, 0)) := Lib.hid (by rw [HR.out, andX_ok (by rfl)]; rfl)
       have hXn := (HX2.out (by first | trivial | rfl)).named oList oNo
       have HXn := Lib.hid hXn; clear HR hXn; have hq6c0 := hq6.cell 0 _ rfl; have hq6f0 := hq6.frozen 0; have hq6c1 := hq6.cell 1 _ rfl; have hq6f1 := hq6.frozen 1; have hq6c2 := hq6.cell 2 _ rfl; have hq6f2 := hq6.frozen 2; have hq6c3 := hq6.cell 3 _ rfl; have hq6f3 := hq6.frozen 3; have hq6c4 := hq6.cell 4 _ rfl; have hq6f4 := hq6.frozen 4; clear hq6; go_wp2_with fail; have hq := (((((H6.out.q.setI 0 (.string oList)).setI 1 (.string oNo)).setI 2 (.slice a2 m2 c2)).setI 3 (.int .i64 p2)).setI 4 (.int .i64 0)).alloc (.cells (gotA oList oNo (.slice a2 m2 c2) p2 0) 39); have hbb := far_one (vs := [.string oList, .string oNo, .slice a2 m2 c2, .int .i64 p2, .int .i64 0]) H6.out.b (.cells (gotA oList oNo (.slice a2 m2 c2) p2 0) 39); have zz0 := hq.cell 0 _ rfl; have zz1 := hq.cell 1 _ rfl; have zz2 := hq.cell 2 _ rfl; have zz3 := hq.cell 3 _ rfl; have zz4 := hq.cell 4 _ rfl; refine bodyPost_ret (v := .agg (#[.string oList, .string oNo, .slice a2 m2 c2, .int .i64 p2, .int .i64 0])) (by simp [results, Tryz.results127, go_sem, zz0, zz1, zz2, zz3, zz4]) rfl ?_
       rw [hRR.out]; have hxx := far_exp1 (vs := [.string oList, .string oNo, .slice a2 m2 c2, .int .i64 p2, .int .i64 0]) HXn.out (.cells (gotA oList oNo (.slice a2 m2 c2) p2 0) 39); exact gp_mk (r := (.mk oList oNo ks, n2, 0)) (by simp only; have := HP2.out; omega) rfl hbb (fun _ => hxx)
      ·have e0 : (e2 == 0) = false := by simpa using he2
       have hRR : Hid (R = (zeroX, n2, e2)) := Lib.hid (by rw [HR.out, andX_bad (by exact he2)])
       clear HR; have hq6c0 := hq6.cell 0 _ rfl; have hq6f0 := hq6.frozen 0; have hq6c1 := hq6.cell 1 _ rfl; have hq6f1 := hq6.frozen 1; have hq6c2 := hq6.cell 2 _ rfl; have hq6f2 := hq6.frozen 2; have hq6c3 := hq6.cell 3 _ rfl; have hq6f3 := hq6.frozen 3; have hq6c4 := hq6.cell 4 _ rfl; have hq6f4 := hq6.frozen 4; clear hq6; go_wp2_with fail; have hq := (((((H6.out.q.setI 0 (.string o2)).setI 1 (.string t2)).setI 2 (.slice a2 m2 c2)).setI 3 (.int .i64 p2)).setI 4 (.int .i64 e2)).alloc (.cells (gotA o2 t2 (.slice a2 m2 c2) p2 e2) 39); have hbb := far_one (vs := [.string o2, .string t2, .slice a2 m2 c2, .int .i64 p2, .int .i64 e2]) H6.out.b (.cells (gotA o2 t2 (.slice a2 m2 c2) p2 e2) 39); have zz0 := hq.cell 0 _ rfl; have zz1 := hq.cell 1 _ rfl; have zz2 := hq.cell 2 _ rfl; have zz3 := hq.cell 3 _ rfl; have zz4 := hq.cell 4 _ rfl; refine bodyPost_ret (v := .agg (#[.string o2, .string t2, .slice a2 m2 c2, .int .i64 p2, .int .i64 e2])) (by simp [results, Tryz.results127, go_sem, zz0, zz1, zz2, zz3, zz4]) rfl ?_
       rw [hRR.out]; exact gp_mk (r := (zeroX, n2, e2)) (by simp only; have := HP2.out; omega) rfl hbb (fun h => absurd h he2)
     ·have hlb : isS (l.drop k) sLb = false := by simpa using hlb
      rw [if_neg (by rw [hlb]; decide)] at hR
      by_cases hlp : isS (l.drop k) sLp = true
      ·rw [if_pos hlp] at hR
       by_cases hd64 : 64 <= d
       ·have hRR : Hid (R = (zeroX, 0, 5)) := Lib.hid (by rw [hR, if_pos hd64]; rfl)
        clear hR hne hbad his hquo hsh; go_enter Tryz.func127, Tryz.ntmps127; go_wp2_with (go_at_call 50; (first | with_reducible refine (hsg0 _).mono ?_ | with_reducible refine (hsg1 _).mono ?_); rintro _ _ ⟨rfl, rfl⟩; simp only [hlp])
        have hq := Cells.new w (gotA ⟨#[]⟩ ⟨#[]⟩ (.slice none 0 0) (k : Int) 5) 39; have zz0 := hq.cell 0 _ rfl; have zz1 := hq.cell 1 _ rfl; have zz2 := hq.cell 2 _ rfl; have zz3 := hq.cell 3 _ rfl; have zz4 := hq.cell 4 _ rfl; refine bodyPost_ret (v := .agg (gotA ⟨#[]⟩ ⟨#[]⟩ (.slice none 0 0) (k : Int) 5)) (by simp [results, Tryz.results127, go_sem, zz0, zz1, zz2, zz3, zz4]) rfl ?_
        rw [hRR.out]; exact gp_mk (r := (zeroX, 0, 5)) (by simp) rfl ((Below.refl _ w).alloc (Nat.le_refl _) _) (fun h => by cases h)
       ·rw [if_neg hd64] at hR
        have hr2 : (parX m .choice (l.drop (k + 1)) (d + 1)).2.2 ≠ -1 := by
         rw [hR] at hne; exact andX_ne2 (g := upX 1 (parX m .choice (l.drop (k + 1)) (d + 1))) hne
        have hle2 := (parX_le m .choice (l.drop (k + 1)) (d + 1) trivial hr2).1; rw [List.length_drop] at hle2; have hC2 := hC _ _ l (k + 1) (d + 1) HA0.out.l (by omega) (by omega) hr2
        rw [show ((k + 1 : Nat) : Int) = (k : Int) + 1 by omega, show ((d + 1 : Nat) : Int) = (d : Int) + 1 by omega] at hC2
        generalize parX m .choice (l.drop (k + 1)) (d + 1) = R2 at *; obtain ⟨x2, n2, e2⟩ := R2; simp only at hr2 hle2; have HR := Lib.hid hR; clear hR hr2 hne hbad his hquo hsh; go_enter Tryz.func127, Tryz.ntmps127; go_wp2_with (go_at_call 50; (first | with_reducible refine (hsg0 _).mono ?_ | with_reducible refine (hsg1 _).mono ?_); rintro _ _ ⟨rfl, rfl⟩; simp only [hlp])
        clear hsg0; refine (hC2).mono ?_; clear hC2; rintro _ w6 ⟨hbX, o2, t2, a2, m2, c2, heX, hXX⟩; simp only at heX hXX; obtain ⟨p2, hp2⟩ : ∃ pz : Nat, pz = k + 1 + n2 := ⟨_, rfl⟩; rw [<- hp2] at heX; subst heX; have HP2 := Lib.hid hp2; clear hp2; have hA6 := HA0.out.go hbX; have hq6 := hA6.q; have hl6 := hq6.lt; have HX2 := Lib.hid (fun h => HA0.out.exp (hXX h)); have H6 := Lib.hid hA6; clear hbX hXX HA0 hA6 q0 q1
        by_cases he2 : e2 = 0
        ·subst he2
         have hp2l : p2 <= l.length := by have := HP2.out; omega
         have hsg := fun s => rfSign_any (w6.alloc (.cells (gotA o2 t2 (.slice a2 m2 c2) p2 0) 39)) (.slice (some ⟨bb, off, none⟩) l.length c) l p2 s (H6.out.next _).l.toks hfew (by omega)
         have hbad := rfBad_any (w6.alloc (.cells (gotA o2 t2 (.slice a2 m2 c2) p2 0) 39)) (.slice (some ⟨bb, off, none⟩) l.length c) l p2 (H6.out.next _).l.toks hfew hp2l
         have HR2 : Hid (R = if isS (l.drop p2) sRp = false then badX (l.drop p2) (1 + n2) else (x2, 1 + n2 + 1, 0)) := Lib.hid (by
          have hp2 := HP2.out; rw [HR.out, andX_ok (by rfl)]
          simp only [List.drop_drop, upX]
          rw [show k + (1 + n2) = p2 by omega])
         clear HR
         by_cases hrp : isS (l.drop p2) sRp = false
         ·have hRR : Hid (R = (zeroX, 1 + n2, (badX (l.drop p2) 0).2.2)) := Lib.hid (by rw [HR2.out, if_pos hrp, badX_n])
          have hbz : Hid ((badX (l.drop p2) 0).2.2 ≠ 0) := Lib.hid (by unfold badX; split <;> simp)
          generalize (badX (l.drop p2) 0).2.2 = eb at *; clear HR2; have hq6c0 := hq6.cell 0 _ rfl; have hq6f0 := hq6.frozen 0; have hq6c1 := hq6.cell 1 _ rfl; have hq6f1 := hq6.frozen 1; have hq6c2 := hq6.cell 2 _ rfl; have hq6f2 := hq6.frozen 2; have hq6c3 := hq6.cell 3 _ rfl; have hq6f3 := hq6.frozen 3; have hq6c4 := hq6.cell 4 _ rfl; have hq6f4 := hq6.frozen 4; clear hq6; go_wp2_with (go_at_call 50; refine (hsg _).mono ?_; rintro _ _ ⟨rfl, rfl⟩; simp only [hrp])
          refine hbad.mono ?_; clear hbad hsg hq6c0 hq6c1 hq6c2 hq6c3 hq6c4 hq6f0 hq6f1 hq6f2 hq6f3 hq6f4; rintro _ w8 ⟨rfl, hb8⟩; have hA8 := (H6.out.next (.cells (gotA o2 t2 (.slice a2 m2 c2) p2 0) 39)).go hb8; have hq8 := hA8.q; have hl8 := hq8.lt; have HA8 := Lib.hid hA8; clear hA8 hb8; have hq8c0 := hq8.cell 0 _ rfl; have hq8f0 := hq8.frozen 0; have hq8c1 := hq8.cell 1 _ rfl; have hq8f1 := hq8.frozen 1; have hq8c2 := hq8.cell 2 _ rfl; have hq8f2 := hq8.frozen 2; have hq8c3 := hq8.cell 3 _ rfl; have hq8f3 := hq8.frozen 3; have hq8c4 := hq8.cell 4 _ rfl; have hq8f4 := hq8.frozen 4; clear hq8; go_wp2_with fail; have hq := ((((HA8.out.q.setI 0 (.string ⟨#[]⟩)).setI 1 (.string ⟨#[]⟩)).setI 2 (.slice none 0 0)).setI 3 (.int .i64 p2)).setI 4 (.int .i64 eb); have hbb := set_below HA8.out.b [.string ⟨#[]⟩, .string ⟨#[]⟩, .slice none 0 0, .int .i64 p2, .int .i64 eb]; have zz0 := hq.cell 0 _ rfl; have zz1 := hq.cell 1 _ rfl; have zz2 := hq.cell 2 _ rfl; have zz3 := hq.cell 3 _ rfl; have zz4 := hq.cell 4 _ rfl; refine bodyPost_ret (v := .agg (#[.string ⟨#[]⟩, .string ⟨#[]⟩, .slice none 0 0, .int .i64 p2, .int .i64 eb])) (by simp [results, Tryz.results127, go_sem, zz0, zz1, zz2, zz3, zz4]) rfl ?_
          rw [hRR.out]; exact gp_mk (r := (zeroX, 1 + n2, eb)) (by simp only; have := HP2.out; omega) rfl hbb (fun h => absurd h hbz.out)
         ·have hrp : isS (l.drop p2) sRp = true := by simpa using hrp
          have hRR : Hid (R = (x2, 1 + n2 + 1, 0)) := Lib.hid (by rw [HR2.out, if_neg (by rw [hrp]; decide)])
          have HXn := Lib.hid (HX2.out (by first | trivial | rfl))
          clear HR2 hbad; have hq6c0 := hq6.cell 0 _ rfl; have hq6f0 := hq6.frozen 0; have hq6c1 := hq6.cell 1 _ rfl; have hq6f1 := hq6.frozen 1; have hq6c2 := hq6.cell 2 _ rfl; have hq6f2 := hq6.frozen 2; have hq6c3 := hq6.cell 3 _ rfl; have hq6f3 := hq6.frozen 3; have hq6c4 := hq6.cell 4 _ rfl; have hq6f4 := hq6.frozen 4; clear hq6; go_wp2_with (go_at_call 50; refine (hsg _).mono ?_; rintro _ _ ⟨rfl, rfl⟩; simp only [hrp])
          have hq := (((((H6.out.q.setI 0 (.string o2)).setI 1 (.string t2)).setI 2 (.slice a2 m2 c2)).setI 3 (.int .i64 ((p2 : Int) + 1))).setI 4 (.int .i64 0)).alloc (.cells (gotA o2 t2 (.slice a2 m2 c2) p2 0) 39); have hbb := far_one (vs := [.string o2, .string t2, .slice a2 m2 c2, .int .i64 ((p2 : Int) + 1), .int .i64 0]) H6.out.b (.cells (gotA o2 t2 (.slice a2 m2 c2) p2 0) 39); have zz0 := hq.cell 0 _ rfl; have zz1 := hq.cell 1 _ rfl; have zz2 := hq.cell 2 _ rfl; have zz3 := hq.cell 3 _ rfl; have zz4 := hq.cell 4 _ rfl; refine bodyPost_ret (v := .agg (#[.string o2, .string t2, .slice a2 m2 c2, .int .i64 ((p2 : Int) + 1), .int .i64 0])) (by simp [results, Tryz.results127, go_sem, zz0, zz1, zz2, zz3, zz4]) rfl ?_
          rw [hRR.out]; have hxx := far_exp1 (vs := [.string o2, .string t2, .slice a2 m2 c2, .int .i64 ((p2 : Int) + 1), .int .i64 0]) HXn.out (.cells (gotA o2 t2 (.slice a2 m2 c2) p2 0) 39); exact gp_mk (r := (x2, 1 + n2 + 1, 0)) (by simp only; have := HP2.out; omega) rfl hbb (fun _ => hxx)
        ·have e0 : (e2 != 0) = true := by simpa using he2
         have hRR : Hid (R = (zeroX, 1 + n2, e2)) := Lib.hid (by rw [HR.out, andX_bad (by exact he2)]; rfl)
         clear HR; have hq6c0 := hq6.cell 0 _ rfl; have hq6f0 := hq6.frozen 0; have hq6c1 := hq6.cell 1 _ rfl; have hq6f1 := hq6.frozen 1; have hq6c2 := hq6.cell 2 _ rfl; have hq6f2 := hq6.frozen 2; have hq6c3 := hq6.cell 3 _ rfl; have hq6f3 := hq6.frozen 3; have hq6c4 := hq6.cell 4 _ rfl; have hq6f4 := hq6.frozen 4; clear hq6; go_wp2_with fail; have hq := (((((H6.out.q.setI 0 (.string o2)).setI 1 (.string t2)).setI 2 (.slice a2 m2 c2)).setI 3 (.int .i64 p2)).setI 4 (.int .i64 e2)).alloc (.cells (gotA o2 t2 (.slice a2 m2 c2) p2 e2) 39); have hbb := far_one (vs := [.string o2, .string t2, .slice a2 m2 c2, .int .i64 p2, .int .i64 e2]) H6.out.b (.cells (gotA o2 t2 (.slice a2 m2 c2) p2 e2) 39); have zz0 := hq.cell 0 _ rfl; have zz1 := hq.cell 1 _ rfl; have zz2 := hq.cell 2 _ rfl; have zz3 := hq.cell 3 _ rfl; have zz4 := hq.cell 4 _ rfl; refine bodyPost_ret (v := .agg (#[.string o2, .string t2, .slice a2 m2 c2, .int .i64 p2, .int .i64 e2])) (by simp [results, Tryz.results127, go_sem, zz0, zz1, zz2, zz3, zz4]) rfl ?_
         rw [hRR.out]; exact gp_mk (r := (zeroX, 1 + n2, e2)) (by simp only; have := HP2.out; omega) rfl hbb (fun h => absurd h he2)
      ·have hlp : isS (l.drop k) sLp = false := by simpa using hlp
       rw [if_neg (by rw [hlp]; decide)] at hR
       have hRR : Hid (R = (zeroX, 0, (badX (l.drop k) 0).2.2)) := Lib.hid (by rw [hR, badX_n])
       generalize (badX (l.drop k) 0).2.2 = eb at *; clear hR hne his hquo hsh; go_enter Tryz.func127, Tryz.ntmps127; go_wp2_with (go_at_call 50; (first | with_reducible refine (hsg0 _).mono ?_ | with_reducible refine (hsg1 _).mono ?_); rintro _ _ ⟨rfl, rfl⟩; simp only [hlp, hlb])
       refine hbad.mono ?_; clear hbad hsg0; rintro _ w8 ⟨rfl, hb8⟩; have hA8 := HA0.out.go hb8; have hq8 := hA8.q; have hl8 := hq8.lt; have HA8 := Lib.hid hA8; clear hA8 hb8 q0 q1; have hq8c0 := hq8.cell 0 _ rfl; have hq8f0 := hq8.frozen 0; have hq8c1 := hq8.cell 1 _ rfl; have hq8f1 := hq8.frozen 1; have hq8c2 := hq8.cell 2 _ rfl; have hq8f2 := hq8.frozen 2; have hq8c3 := hq8.cell 3 _ rfl; have hq8f3 := hq8.frozen 3; have hq8c4 := hq8.cell 4 _ rfl; have hq8f4 := hq8.frozen 4; clear hq8; go_wp2_with fail; have hq := ((((HA8.out.q.setI 0 (.string ⟨#[]⟩)).setI 1 (.string ⟨#[]⟩)).setI 2 (.slice none 0 0)).setI 3 (.int .i64 (k : Nat))).setI 4 (.int .i64 eb); have hbb := set_below HA8.out.b [.string ⟨#[]⟩, .string ⟨#[]⟩, .slice none 0 0, .int .i64 (k : Nat), .int .i64 eb]; have zz0 := hq.cell 0 _ rfl; have zz1 := hq.cell 1 _ rfl; have zz2 := hq.cell 2 _ rfl; have zz3 := hq.cell 3 _ rfl; have zz4 := hq.cell 4 _ rfl; refine bodyPost_ret (v := .agg (#[.string ⟨#[]⟩, .string ⟨#[]⟩, .slice none 0 0, .int .i64 (k : Nat), .int .i64 eb])) (by simp [results, Tryz.results127, go_sem, zz0, zz1, zz2, zz3, zz4]) rfl ?_
       rw [hRR.out]; exact gp_mk (r := (zeroX, 0, eb)) (by simp) rfl hbb (fun h => absurd h hbz.out)
 ·have hke : l.drop k = [] := List.drop_eq_nil_of_le (by omega)
  have hRR : Hid (R = (zeroX, 0, (badX (l.drop k) 0).2.2)) := Lib.hid (by rw [hR, hke, parX, badX_n])
  generalize (badX (l.drop k) 0).2.2 = eb at *; have HA0 := Lib.hid hA0; clear hR hne hA0 h; go_enter Tryz.func127, Tryz.ntmps127; go_wp2_with fail; refine hbad.mono ?_; clear hbad; rintro _ w8 ⟨rfl, hb8⟩; have hA8 := HA0.out.go hb8; have hq8 := hA8.q; have hl8 := hq8.lt; have HA8 := Lib.hid hA8; clear hA8 hb8; have hq8c0 := hq8.cell 0 _ rfl; have hq8f0 := hq8.frozen 0; have hq8c1 := hq8.cell 1 _ rfl; have hq8f1 := hq8.frozen 1; have hq8c2 := hq8.cell 2 _ rfl; have hq8f2 := hq8.frozen 2; have hq8c3 := hq8.cell 3 _ rfl; have hq8f3 := hq8.frozen 3; have hq8c4 := hq8.cell 4 _ rfl; have hq8f4 := hq8.frozen 4; clear hq8; go_wp2_with fail; have hq := ((((HA8.out.q.setI 0 (.string ⟨#[]⟩)).setI 1 (.string ⟨#[]⟩)).setI 2 (.slice none 0 0)).setI 3 (.int .i64 (k : Nat))).setI 4 (.int .i64 eb); have hbb := set_below HA8.out.b [.string ⟨#[]⟩, .string ⟨#[]⟩, .slice none 0 0, .int .i64 (k : Nat), .int .i64 eb]; have zz0 := hq.cell 0 _ rfl; have zz1 := hq.cell 1 _ rfl; have zz2 := hq.cell 2 _ rfl; have zz3 := hq.cell 3 _ rfl; have zz4 := hq.cell 4 _ rfl; refine bodyPost_ret (v := .agg (#[.string ⟨#[]⟩, .string ⟨#[]⟩, .slice none 0 0, .int .i64 (k : Nat), .int .i64 eb])) (by simp [results, Tryz.results127, go_sem, zz0, zz1, zz2, zz3, zz4]) rfl ?_
  rw [hRR.out]; exact gp_mk (r := (zeroX, 0, eb)) (by simp) rfl hbb (fun h => absurd h hbz.out)
theorem rf_steps : ∀ m, CC m /\ TC m /\ XC m /\ PC m /\ QC m /\ MC m := by
 intro m
 induction m using Nat.strongRecOn with
 | ind m ih =>
  cases m with
  | zero =>
   refine ⟨?_, ?_, ?_, ?_, ?_, ?_⟩
   ·intro w lv l k d _ _ _ hne; exact absurd (out_no _ _ _) hne
   ·intro w lv l k d n _ _ _ _ _ hne; exact absurd (out_no _ _ _) hne
   ·intro w lv l k d _ _ _ hne; exact absurd (out_no _ _ _) hne
   ·intro w lv l k d _ _ _ hne; exact absurd (out_no _ _ _) hne
   ·intro w lv l k d _ _ _ hne; exact absurd (out_no _ _ _) hne
   ·intro w lv l k d s _ _ _ _ hne; exact absurd (out_no _ _ _) hne
  | succ m =>
   have hm := ih m (Nat.lt_succ_self m); have hc : ∀ j, j <= m -> CC j := fun j hj => (ih j (by omega)).1
   have ht : ∀ j, j <= m -> TC j := fun j hj => (ih j (by omega)).2.1
   exact ⟨rfChoice_step m hm.2.1 hm.1, rfTerm_step m hm.2.2.1 ht, rfPrefix_step m hm.2.2.2.1 hm.2.2.1, rfPost_step m hm.2.2.2.2.1 hc, rfPrime_step m hm.2.2.2.2.2 hm.1, rfMany_step m hc⟩
theorem rfParse_any (w : World) (lv : Value) (l : List Tok) (h : ToksAt w lv l) (hsh : ∀ t ∈ l, t.text.size <= 1048576) (hq : ∀ t ∈ l, t.kind = 3 -> quoX t.text ≠ none) :
  Calls Tryz.prog 12 #[lv] w (GP 0 (parE l) w) := by
 obtain ⟨a0, c0, rfl, hl1, hl2, -⟩ := h.len; unfold maxLen at hl2
 by_cases hbig : 1000 < l.length
 ·have hR : parE l = (zeroX, 1000, 4) := by unfold parE; rw [if_pos hbig]
  have HR := Lib.hid hR; clear hR h hsh hq; go_enter Tryz.func12, Tryz.ntmps12; go_wp2_with fail; have hq := Cells.new w (gotA ⟨#[]⟩ ⟨#[]⟩ (.slice none 0 0) 1000 4) 39; have zz0 := hq.cell 0 _ rfl; have zz1 := hq.cell 1 _ rfl; have zz2 := hq.cell 2 _ rfl; have zz3 := hq.cell 3 _ rfl; have zz4 := hq.cell 4 _ rfl; refine bodyPost_ret (v := .agg (gotA ⟨#[]⟩ ⟨#[]⟩ (.slice none 0 0) 1000 4)) (by simp [results, Tryz.results12, go_sem, zz0, zz1, zz2, zz3, zz4]) rfl ?_
  rw [HR.out]; exact gp_mk (r := (zeroX, 1000, 4)) (by simp) rfl ((Below.refl _ w).alloc (Nat.le_refl _) _) (fun h => by cases h)
 ·have hf := parX_fine (fuelX .choice l) .choice l 0 (Nat.le_refl _) (by simp only [Nt.okX])
  have hR : parE l = if (parX (fuelX .choice l) .choice l 0).2.2 = 0 then parX (fuelX .choice l) .choice l 0 else (zeroX, (parX (fuelX .choice l) .choice l 0).2) := by unfold parE; rw [if_neg hbig]
  have hA0 := At4.start (w := w) (lv := .slice a0 l.length c0) (l := l) ⟨h, by omega, hsh, hq⟩
  have hDD := (rf_steps (fuelX .choice l)).1 _ _ l 0 0 hA0.l (by omega) (by omega) (by rw [List.drop_zero]; exact hf.1)
  rw [List.drop_zero] at hDD; generalize parX (fuelX .choice l) .choice l 0 = r at *; obtain ⟨x1, n1, e1⟩ := r; simp only at hR; have HR := Lib.hid hR; have HA0 := Lib.hid hA0; clear hR hf h hsh hq hA0; go_enter Tryz.func12, Tryz.ntmps12; go_wp2_with fail; refine hDD.mono ?_; clear hDD; rintro _ w4 ⟨hbX, o1, t1, a1, m1, c1, heX, hXX⟩; simp only [Nat.zero_add] at heX hXX; subst heX; have hA4 := HA0.out.go hbX; have HX1 := Lib.hid (fun h => HA0.out.exp (hXX h)); have hq4 := hA4.q; have hl4 := hq4.lt; have HA4 := Lib.hid hA4; clear hbX hXX HA0 hA4; have hq4c0 := hq4.cell 0 _ rfl; have hq4f0 := hq4.frozen 0; have hq4c1 := hq4.cell 1 _ rfl; have hq4f1 := hq4.frozen 1; have hq4c2 := hq4.cell 2 _ rfl; have hq4f2 := hq4.frozen 2; have hq4c3 := hq4.cell 3 _ rfl; have hq4f3 := hq4.frozen 3; have hq4c4 := hq4.cell 4 _ rfl; have hq4f4 := hq4.frozen 4; clear hq4; go_wp2_with fail; have hq := ((((HA4.out.q.setI 0 (.string o1)).setI 1 (.string t1)).setI 2 (.slice a1 m1 c1)).setI 3 (.int .i64 n1)).setI 4 (.int .i64 e1); have hbb := set_below HA4.out.b [.string o1, .string t1, .slice a1 m1 c1, .int .i64 n1, .int .i64 e1]; have zz0 := hq.cell 0 _ rfl; have zz1 := hq.cell 1 _ rfl; have zz2 := hq.cell 2 _ rfl; have zz3 := hq.cell 3 _ rfl; have zz4 := hq.cell 4 _ rfl; refine bodyPost_ret (v := .agg (#[.string o1, .string t1, .slice a1 m1 c1, .int .i64 n1, .int .i64 e1])) (by simp [results, Tryz.results12, go_sem, zz0, zz1, zz2, zz3, zz4]) rfl ?_
  rw [HR.out]
  by_cases he : e1 = 0
  ·rw [if_pos he]
   exact gp_mk (r := (x1, n1, e1)) (by simp) rfl hbb (fun h => set_exp (vs := [.string o1, .string t1, .slice a1 m1 c1, .int .i64 n1, .int .i64 e1]) (HX1.out h))
  ·rw [if_neg he]
   exact gp_mk (r := (zeroX, n1, e1)) (by simp) rfl hbb (fun h => absurd h he)
theorem print_toks {x : Exp} (hr : rightX x = true) : ∃ toks : List Tok, lexL (catP (pcX x)) 0 = (toks, (lexL (catP (pcX x)) 0).2.1, 0) /\ lexP (catP (pcX x)) = (toks, -1, 0) /\ toks.map np = prX x /\ parE toks = parE (prX x) /\ toks.length = (prX x).length /\ (parE (prX x) = (x, toks.length, 0) \/ (parE (prX x)).2.2 ≠ 0) /\
  (∀ t ∈ toks, t.kind = 3 -> quoX t.text ≠ none) /\ (∀ t ∈ toks, t.text.size <= wt (pcX x)) /\ toks.length <= wt (pcX x) := by
 obtain ⟨toks, h1, h2⟩ := lex_print hr
 have hz : (lexL (catP (pcX x)) 0).2.2 = 0 := by
  unfold lexP at h1; split at h1
  ·next h => exact h
  ·next h =>
   exfalso
   simp only [Prod.mk.injEq] at h1; exact h (by rw [h1.2])
 have h3 : (lexL (catP (pcX x)) 0).1 = toks := by
  unfold lexP at h1; rw [if_pos hz] at h1; exact (Prod.mk.injEq _ _ _ _ ▸ h1).1
 have h4 : parE toks = parE (prX x) := by rw [<- h2, parE_map np_kt]
 have h5 : toks.length = (prX x).length := by rw [<- h2, List.length_map]
 refine ⟨toks, ?_, h1, h2, h4, h5, ?_, ?_, (np_size (P := pcX x) h2).1, (np_size (P := pcX x) h2).2⟩
 ·rw [<- h3, <- hz]
 ·rcases parE_print hr with h | h | h
  ·exact .inl (by rw [h, h5])
  ·exact .inr (by rw [h]; decide)
  ·exact .inr (by rw [h]; decide)
 ·intro t ht
  exact lexL_quo _ _ 0 (Nat.le_refl _) t (by rw [h3]; exact ht)
theorem int_eq0 (e : Int) : (e == 0) = decide (e = 0) := by
 by_cases h : e = 0
 ·subst h; rfl
 ·rw [decide_eq_false h]; simpa using h
theorem Taken_any (x : Exp) (hr : rightX x = true) (hs : wtX x <= 300 /\ ShortX x) (w : World) : Calls Tryz.prog 15 #[.string (ptS (pcX x))] w fun e w' => e = .returned (.bool (decide ((parE (prX x)).2.2 = 0))) /\ Below w.heap.size w w' := by
 have hwt := wt_small hr hs; have hsz := ptS_size (pcX x); have hL := rLex_any (ptS (pcX x)) w (by omega)
 rw [ptS_list] at hL; obtain ⟨toks, h1, -, -, h4, -, -, h7, h8, h9⟩ := print_toks hr; obtain ⟨z, hz⟩ : ∃ z, (lexL (catP (pcX x)) 0).2.1 = z := ⟨_, rfl⟩; rw [h1, hz] at hL; rw [<- h4]; have HP := Lib.hid (fun (W : World) (lv : Value) (h : ToksAt W lv toks) => rfParse_any W lv toks h (fun t ht => by have := h8 t ht; omega) h7)
 generalize ptS (pcX x) = S at *; generalize parE toks = r at HP ⊢; obtain ⟨px, pn, pe⟩ := r; have hie := int_eq0 pe; clear h1 h4 h7 h8 h9 hz hsz hwt; go_enter Tryz.func15, Tryz.ntmps15; go_wp2_with fail; refine hL.mono ?_; clear hL; rintro _ w5 ⟨v, rfl, hown, hb5⟩; obtain ⟨va, vc, rfl⟩ := hown.len; have hfd : ∀ W : World, (Instr.field 32 (.agg #[.slice va toks.length vc, .int .i64 z, .int .i64 0]) 0).run Tryz.prog W = .ok (.slice va toks.length vc) W := fun _ => by kernel_rfl
 have hP := HP.out w5 _ hown.toks; have HB5 := Lib.hid hb5; clear hown HP hb5; go_wp2_with fail; refine hP.mono ?_; clear hP hfd; rintro _ w6 ⟨hb6, o, t, a, n, c, rfl, -⟩; have hf2 : ∀ W : World, (Instr.field 39 (.agg (gotA o t (.slice a n c) (pn : Int) pe)) 2).run Tryz.prog W = .ok (.int .i64 pe) W := fun _ => by kernel_rfl
 go_wp2_with fail; go_ret; exact ⟨rfl, HB5.out.trans (hb6.mono HB5.out.size)⟩
def xOne : Exp := .mk oNum ⟨#[49]⟩ []
def xTwo : Exp := .mk oNum ⟨#[50]⟩ []
def xThree : Exp := .mk oNum ⟨#[51]⟩ []
def xSum : Exp := .mk ⟨#[43]⟩ oNo [xOne, xTwo]
def xAll : Exp := .mk ⟨#[42]⟩ oNo [xSum, xThree]
theorem ExpAt.node2 {w : World} {o t o1 t1 o2 t2 : ByteArray} {s1 s2 : Value} {e1 e2 : Exp} {g : Nat} {T : TypeId} (h : Cells w g #[.string o1, .string t1, s1, .string o2, .string t2, s2] T) (h1 : ExpAt w e1 [.string o1, .string t1, s1]) (h2 : ExpAt w e2 [.string o2, .string t2, s2]) :
  ExpAt w (.mk o t [e1, e2]) [.string o, .string t, .slice (some ⟨g, 0, none⟩) 2 2] := by
 simp only [ExpAt, ExpsAt]; refine ⟨some ⟨g, 0, none⟩, 2, rfl, Nat.le_refl _, by unfold maxLen; simp, (fun h => by cases h), fun x hx _ => ?_⟩
 cases hx
 refine ⟨rfl, h.lt, ⟨_, fun j u hu => ?_, h1⟩, ⟨_, fun j u hu => ?_, h2⟩, trivial⟩
 ·match j, hu with
  | 0, hu => exact h.cell 0 _ (by simpa using hu)
  | 1, hu => exact h.cell 1 _ (by simpa using hu)
  | 2, hu => exact h.cell 2 _ (by simpa using hu)
  | j + 3, hu => simp at hu
 ·match j, hu with
  | 0, hu => exact h.cell 3 _ (by simpa using hu)
  | 1, hu => exact h.cell 4 _ (by simpa using hu)
  | 2, hu => exact h.cell 5 _ (by simpa using hu)
  | j + 3, hu => simp at hu
theorem leaf_at (w : World) (o t : ByteArray) : ExpAt w (.mk o t []) [.string o, .string t, .slice none 0 0] := ExpIn.at _ _ (ExpIn.leaf (fun _ => True) w o t)
theorem xAll_small : wtX xAll <= 300 /\ ShortX xAll := by
 refine ⟨by decide, ?_⟩
 simp only [xAll, xSum, xOne, xTwo, xThree, ShortX, ShortXs]; decide
theorem xAll_right : rightX xAll = true := by kernel_rfl
theorem xAll_par : (parE (prX xAll)).2.2 = 0 := by kernel_rfl
theorem xAll_text : ptS (pcX xAll) = ⟨#[40, 49, 32, 43, 32, 50, 41, 32, 42, 32, 51]⟩ := by kernel_rfl
theorem xAll_br : brX xAll = 1 := by kernel_rfl
theorem xAll_S : shS xAll = ⟨#[40, 49, 32, 43, 32, 50, 41, 32, 42, 32, 51]⟩ := by
 unfold shS; rw [if_pos ⟨xAll_right, xAll_par⟩, xAll_text]
theorem xAll_E : shE xAll = 0 := by
 unfold shE; rw [if_pos xAll_right, if_pos xAll_par]
theorem xAll_N : shN xAll = 1 := by
 unfold shN; rw [if_pos xAll_right, xAll_br]
theorem lawNum_any (s : ByteArray) (w : World) : Calls Tryz.prog 20 #[.string s] w fun e w' => e = .returned (.agg #[.string oNum, .string s, .slice none 0 0]) /\ Below w.heap.size w w' := by
 have hq := Cells.new w #[.string oNum, .string s, .slice none 0 0] 24; have hb : Below w.heap.size w (w.alloc (.cells #[.string oNum, .string s, .slice none 0 0] 24)) := (Below.refl _ w).alloc (Nat.le_refl _) _; have HQ := Lib.hid (And.intro hq hb); clear hq hb; go_enter Tryz.func20, Tryz.ntmps20; go_wp2; have hx := HQ.out.1.cell 0 _ rfl; have hy := HQ.out.1.cell 1 _ rfl; have hz := HQ.out.1.cell 2 _ rfl; refine bodyPost_ret (v := .agg #[.string oNum, .string s, .slice none 0 0]) (by simp [results, Tryz.results20, go_sem, hx, hy, hz]) rfl ?_
 exact ⟨rfl, HQ.out.2⟩
theorem wakes14_any (w : World) (hT : LexT w) : Calls Tryz.prog 7 #[] w fun e w' => e = .returned (.bool true) /\ Below w.heap.size w w' := by
 have hN := fun s W => lawNum_any s W; go_enter Tryz.func7, Tryz.ntmps7; go_wp2_with fail; refine (hN _ _).mono ?_; rintro _ wa ⟨rfl, ha⟩; go_wp2_with fail; refine (hN _ _).mono ?_; rintro _ wb ⟨rfl, hb⟩; go_wp2_with fail; refine (hN _ _).mono ?_; rintro _ w1 ⟨rfl, hb1⟩; have hcA : Cells (wb.alloc (.cells #[.string oNum, .string ⟨#[49]⟩, .slice none 0 0, .string oNum, .string ⟨#[50]⟩, .slice none 0 0] 24)) wb.heap.size #[.string oNum, .string ⟨#[49]⟩, .slice none 0 0, .string oNum, .string ⟨#[50]⟩, .slice none 0 0] 24 := Cells.new _ _ _; have hbA := (ha.trans (hb.mono ha.size)).alloc (ha.trans (hb.mono ha.size)).size (.cells #[.string oNum, .string ⟨#[49]⟩, .slice none 0 0, .string oNum, .string ⟨#[50]⟩, .slice none 0 0] 24); have hcB := hcA.below hb1 hcA.lt; have hbB := hbA.trans (hb1.mono hbA.size); have hcC := ((hcB.alloc (.cells #[.string ⟨#[43]⟩, .string ⟨#[]⟩, .slice (some ⟨wb.heap.size, 0, none⟩) 2 2, .string oNum, .string ⟨#[51]⟩, .slice none 0 0] 24)).alloc (.cells #[.string ⟨#[42]⟩, .string ⟨#[]⟩, .slice (some ⟨w1.heap.size, 0, none⟩) 2 2] 24)); have hcD := (Cells.new w1 #[.string ⟨#[43]⟩, .string ⟨#[]⟩, .slice (some ⟨wb.heap.size, 0, none⟩) 2 2, .string oNum, .string ⟨#[51]⟩, .slice none 0 0] 24).alloc (.cells #[.string ⟨#[42]⟩, .string ⟨#[]⟩, .slice (some ⟨w1.heap.size, 0, none⟩) 2 2] 24); have hcE := Cells.new (w1.alloc (.cells #[.string ⟨#[43]⟩, .string ⟨#[]⟩, .slice (some ⟨wb.heap.size, 0, none⟩) 2 2, .string oNum, .string ⟨#[51]⟩, .slice none 0 0] 24)) #[.string ⟨#[42]⟩, .string ⟨#[]⟩, .slice (some ⟨w1.heap.size, 0, none⟩) 2 2] 24
 have hbC := (hbB.alloc hbB.size (.cells #[.string ⟨#[43]⟩, .string ⟨#[]⟩, .slice (some ⟨wb.heap.size, 0, none⟩) 2 2, .string oNum, .string ⟨#[51]⟩, .slice none 0 0] 24)).alloc (by have := hbB.size; simp only [World.size_alloc]; omega) (.cells #[.string ⟨#[42]⟩, .string ⟨#[]⟩, .slice (some ⟨w1.heap.size, 0, none⟩) 2 2] 24)
 have hv : ExpAt _ xAll [.string ⟨#[42]⟩, .string ⟨#[]⟩, .slice (some ⟨w1.heap.size, 0, none⟩) 2 2] := ExpAt.node2 hcD (ExpAt.node2 hcC (leaf_at _ _ _) (leaf_at _ _ _)) (leaf_at _ _ _); have hS := showExpr_any xAll xAll_small _ _ (hT.below hbC) hv; rw [xAll_S, xAll_E] at hS; simp only [World.size_alloc] at hcE; simp only [vX] at hS; have hl := hcE.lt; have H := Lib.hid (And.intro hbC (And.intro hv hcE)); go_wp2_with fail; clear ha hb hb1 hcA hbA hcB hbB hcC hcD hv hbC hcE hN; refine hS.mono ?_; clear hS; rintro _ w5 ⟨rfl, hb5⟩; obtain ⟨hbC, hv, hcE⟩ := H.out; have hb05 := hbC.trans (hb5.mono hbC.size); have hB := Braces_any xAll xAll_small _ _ (hT.below hb05) (ExpAt.below hb5 _ _ hv); rw [xAll_N] at hB; simp only [vX] at hB; have hc5 := hcE.below hb5 hl; have hl5 := hc5.lt; have HB := Lib.hid hb05; clear H hbC hv hcE hb5 hb05; have hc5c0 := hc5.cell 0 _ rfl; have hc5f0 := hc5.frozen 0; have hc5c1 := hc5.cell 1 _ rfl; have hc5f1 := hc5.frozen 1; have hc5c2 := hc5.cell 2 _ rfl; have hc5f2 := hc5.frozen 2; clear hc5; go_wp2_with fail; refine hB.mono ?_; rintro _ w6 ⟨rfl, hb6⟩; go_wp2; go_ret; exact ⟨rfl, HB.out.trans (hb6.mono HB.out.size)⟩
theorem ShowExprs_walk (c0 : List Value) (x0 : Exp) (w : World) (w0 : ExpAt w x0 c0) (hT : LexT w) (f0 : FitX x0) :
  Calls Tryz.prog 6 #[vX c0] w fun e w' => e = .returned (.bool true) /\ Below w.heap.size w w' := by
 have HV0 := Lib.hid w0; obtain ⟨o0, t0, s0, n0, k0, rfl⟩ := w0.shape; have hb1 : Below w.heap.size w (w.alloc (.cells #[.string o0, .string t0, .slice s0 n0 k0] 24)) := (Below.refl _ w).alloc (Nat.le_refl _) _; have hk1 := Cells.new w #[.string o0, .string t0, .slice s0 n0 k0] 24; have hW := wakes14_any _ (hT.below hb1); have HB1 := Lib.hid hb1; have HT := Lib.hid hT; simp only [vX]; clear hb1 hT w0; go_enter Tryz.func6, Tryz.ntmps6; go_wp2_with fail; refine hW.mono ?_; rintro _ w2 ⟨rfl, hb2⟩; have hc0 := hk1.below hb2 hk1.lt; have hz0 := hc0.lt; have HB2 := Lib.hid (HB1.out.trans (hb2.mono HB1.out.size)); have hG := GreatX_any x0 f0 w2 _ (ExpAt.below HB2.out _ _ HV0.out); have HC := Lib.hid hc0; clear hb2 hW HB1 hk1; have hc0c0 := hc0.cell 0 _ rfl; have hc0f0 := hc0.frozen 0; have hc0c1 := hc0.cell 1 _ rfl; have hc0f1 := hc0.frozen 1; have hc0c2 := hc0.cell 2 _ rfl; have hc0f2 := hc0.frozen 2; clear hc0; go_wp2_with fail; refine hG.mono ?_; rintro _ w3 ⟨⟨b, rfl, hbb⟩, hb3⟩; have hc0 := HC.out.below hb3 hz0; have HB3 := Lib.hid (HB2.out.trans (hb3.mono HB2.out.size)); clear hG hb3 hc0c0 hc0c1 hc0c2 hc0f0 hc0f1 hc0f2 HC HB2
 cases b with
 | true =>
  clear hc0; go_wp2_with fail; go_ret; exact ⟨rfl, HB3.out⟩
 | false =>
  have hs0 := hbb rfl; have HS := Lib.hid hs0; have hz3 := hc0.lt; have hSh := showExpr_any x0 hs0 w3 _ (HT.out.below HB3.out) (ExpAt.below HB3.out _ _ HV0.out); have HC := Lib.hid hc0; simp only [vX] at hSh; clear hbb hs0; have hc0c0 := hc0.cell 0 _ rfl; have hc0f0 := hc0.frozen 0; have hc0c1 := hc0.cell 1 _ rfl; have hc0f1 := hc0.frozen 1; have hc0c2 := hc0.cell 2 _ rfl; have hc0f2 := hc0.frozen 2; clear hc0; go_wp2_with fail; refine hSh.mono ?_; clear hSh hc0c0 hc0c1 hc0c2 hc0f0 hc0f1 hc0f2; rintro _ w4 ⟨rfl, hb4⟩; have hc0 := HC.out.below hb4 hz3; have HB4 := Lib.hid (HB3.out.trans (hb4.mono HB3.out.size)); have hz4 := hc0.lt; have hR := rRight_any x0 HS.out.2 w4 _ (ExpAt.below HB4.out _ _ HV0.out); have HC4 := Lib.hid hc0; simp only [vX] at hR; clear hb4 HC; obtain ⟨r, hr⟩ : ∃ b, rightX x0 = b := ⟨_, rfl⟩; rw [hr] at hR; have HR := Lib.hid hr; have HSh := Lib.hid (And.intro (show shS x0 = if rightX x0 = true /\ (parE (prX x0)).2.2 = 0 then ptS (pcX x0) else ⟨#[]⟩ from rfl) (And.intro (show shE x0 = if rightX x0 = true then (if (parE (prX x0)).2.2 = 0 then 0 else 4) else 1 from rfl) (show shN x0 = if rightX x0 = true then brX x0 else 0 from rfl))); have HBr := Lib.hid (fun (W : World) (hW : Below w4.heap.size w4 W) => Braces_any x0 HS.out W _ (HT.out.below (HB4.out.trans (hW.mono HB4.out.size))) (ExpAt.below (HB4.out.trans (hW.mono HB4.out.size)) _ _ HV0.out)); generalize shS x0 = ss at *; generalize shE x0 = se at *; generalize shN x0 = sn at *; clear hr; have hc0c0 := hc0.cell 0 _ rfl
  have hc0f0 := hc0.frozen 0; have hc0c1 := hc0.cell 1 _ rfl; have hc0f1 := hc0.frozen 1; have hc0c2 := hc0.cell 2 _ rfl; have hc0f2 := hc0.frozen 2; clear hc0; go_wp2_with fail; refine hR.mono ?_; clear hR hc0c0 hc0c1 hc0c2 hc0f0 hc0f1 hc0f2; rintro _ w5 ⟨rfl, hb5⟩; have hc0 := HC4.out.below hb5 hz4; have hz5 := hc0.lt; have HB5 := Lib.hid (HB4.out.trans (hb5.mono HB4.out.size)); have hbr := HBr.out w5 hb5; simp only [vX] at hbr; have HC5 := Lib.hid hc0
  cases r with
  | false =>
   have e1 : ss = ⟨#[]⟩ := by rw [HSh.out.1, HR.out]; rfl
   have e2 : se = 1 := by rw [HSh.out.2.1, HR.out]; rfl
   have e3 : sn = 0 := by rw [HSh.out.2.2, HR.out]; rfl
   subst e1 e2 e3; clear hb5 HBr HC4; have hc0c0 := hc0.cell 0 _ rfl; have hc0f0 := hc0.frozen 0; have hc0c1 := hc0.cell 1 _ rfl; have hc0f1 := hc0.frozen 1; have hc0c2 := hc0.cell 2 _ rfl; have hc0f2 := hc0.frozen 2; clear hc0; go_wp2_with fail; refine hbr.mono ?_; rintro _ w6 ⟨rfl, hb6⟩; have hb06 := HB5.out.trans (hb6.mono HB5.out.size); clear hbr hb6; go_wp2_with fail; go_ret; exact ⟨rfl, hb06⟩
  | true =>
   have hO := Of_any x0 HR.out HS.out w5 _ (ExpAt.below HB5.out _ _ HV0.out); simp only [vX] at hO; have HB45 := Lib.hid hb5; clear hb5 hbr; have e3 : sn = brX x0 := by rw [HSh.out.2.2, HR.out]; rfl
   subst e3; have hc0c0 := hc0.cell 0 _ rfl; have hc0f0 := hc0.frozen 0; have hc0c1 := hc0.cell 1 _ rfl; have hc0f1 := hc0.frozen 1; have hc0c2 := hc0.cell 2 _ rfl; have hc0f2 := hc0.frozen 2; clear hc0; go_wp2_with fail; refine hO.mono ?_; clear hO hc0c0 hc0c1 hc0c2 hc0f0 hc0f1 hc0f2; rintro _ w6 ⟨rfl, hb6⟩; have hss : ss = if (parE (prX x0)).2.2 = 0 then ptS (pcX x0) else ⟨#[]⟩ := by rw [HSh.out.1, HR.out]; simp
   have hse : se = if (parE (prX x0)).2.2 = 0 then 0 else 4 := by rw [HSh.out.2.1, HR.out]; rfl
   have HSS := Lib.hid (And.intro hss hse); have HTk := Lib.hid (fun W => Taken_any x0 HR.out HS.out W); have HSl := Lib.hid (ptS_list (pcX x0)); have hsz : (ptS (pcX x0)).size <= 60000 := Nat.le_trans (ptS_size _) (wt_small HR.out HS.out); have HTo := Lib.hid (print_toks HR.out); have HWt := Lib.hid (wt_small HR.out HS.out); generalize ptS (pcX x0) = S at *; generalize brX x0 = nb at *; clear hss hse HSh; have HB6 := Lib.hid (HB5.out.trans (hb6.mono HB5.out.size)); have hc7 := (HC5.out.below hb6 hz5).alloc (.cells (ppV S nb) 46); have hp7 := Cells.new w6 (ppV S nb) 46; have hb7 := HB6.out.alloc HB6.out.size (.cells (ppV S nb) 46); have hb46 := HB45.out.trans (hb6.mono HB45.out.size); have hb47 := hb46.alloc hb46.size (.cells (ppV S nb) 46); clear hb6 hb46; go_wp2_with fail; generalize w6.alloc (.cells (ppV S nb) 46) = w7 at *; generalize w6.heap.size = X at *; have hu0 := hc7.lt; have hu1 := hp7.lt; have hbr7 := fun x : Under w7 => Under.call x (HBr.out x.w (hb47.trans (x.below.mono hb47.size))); have p0 := fun x : Under w7 => (x.below.cell (p := ⟨w.heap.size, 0, none⟩) hu0).trans (hc7.cell 0 _ rfl); have p1 := fun x : Under w7 => (x.below.cell (p := ⟨w.heap.size, 1, none⟩) hu0).trans (hc7.cell 1 _ rfl); have p2 := fun x : Under w7 => (x.below.cell (p := ⟨w.heap.size, 2, none⟩) hu0).trans (hc7.cell 2 _ rfl); have q1 := fun x : Under w7 => (x.below.cell (p := ⟨X, 1, none⟩) hu1).trans (hp7.cell 1 _ rfl); simp only [vX] at hbr7; have HK := Lib.hid (And.intro hc7 (And.intro hp7 hb7))
   clear HBr hb47 hc7 hp7 hb7 HC4 HC5; refine wp_region_under w7 (by kernel_rfl) (by kernel_rfl) (Below.refl _ _) ?_
   repeat (go_big_quiet_step ((go_at_call 11; with_reducible exact hbr7 _)))
   refine wpQuiet_nil ?_; rintro _ ⟨x, rfl⟩; have hb8 := x.below; generalize x.w = w8 at *; have hc8 := HK.out.1.below hb8 hu0; have hp8 := HK.out.2.1.below hb8 hu1; have HB8 := Lib.hid (HK.out.2.2.trans (hb8.mono HK.out.2.2.size)); have hv0 := hc8.lt; have hv1 := hp8.lt; have HC8 := Lib.hid (And.intro hc8 hp8); clear p0 p1 p2 q1 hbr7 hb8 HK; have hnn : ((nb : Int) != (nb : Int)) = false := by simp
   have hp8c0 := hp8.cell 0 _ rfl; have hp8f0 := hp8.frozen 0; have hp8c1 := hp8.cell 1 _ rfl; have hp8f1 := hp8.frozen 1; clear hp8 hc8; have hTk := HTk.out w8; go_wp2_with fail; refine hTk.mono ?_; clear hTk hp8c0 hp8c1 hp8f0 hp8f1; rintro _ w9 ⟨rfl, hb9⟩; have hc9 := HC8.out.1.below hb9 hv0; have hp9 := HC8.out.2.below hb9 hv1; have HB9 := Lib.hid (HB8.out.trans (hb9.mono HB8.out.size)); have hv0 := hc9.lt; have hv1 := hp9.lt; have HC9 := Lib.hid (And.intro hc9 hp9); clear hb9 hc9 hp9 HTk
   by_cases hp0 : (parE (prX x0)).2.2 = 0
   ·have e1 : ss = S := by rw [HSS.out.1, if_pos hp0]
    have e2 : se = 0 := by rw [HSS.out.2, if_pos hp0]
    subst e1 e2; rw [decide_eq_true hp0]; have HP0 := Lib.hid hp0; clear hp0; obtain ⟨toks, -, h2, -, h4, -, h6, -, h8, h9⟩ := HTo.out
    have h46 : parE toks = (x0, toks.length, 0) := by
     rcases h6 with h | h
     ·rw [h4, h]
     ·exact absurd HP0.out h
    have hT9 := HT.out.below HB9.out; have hLx := lexParse_any ss w9 hT9 (by omega)
    rw [HSl.out, h2] at hLx; clear h2 h4 h6; have HN := Lib.hid (And.intro h46 (And.intro h8 h9)); clear h46 h8 h9 hT9; go_wp2_with fail; refine hLx.mono ?_; clear hLx; rintro _ w10 ⟨v, rfl, hown, hb10⟩; obtain ⟨va, vc, rfl⟩ := hown.len; have HB10 := Lib.hid (HB9.out.trans (hb10.mono HB9.out.size)); have hT10 := (HT.out.below HB10.out).utf; have hEP := exprParse_any w10 _ toks hown.toks (fun b hb => (World.ownsRow.lt hown b hb).2) hT10 hT10.pos (by have := HN.out.2.2; have := HWt.out; omega) (fun t ht => by have := HN.out.2.1 t ht; have := HWt.out; omega)
    rw [HN.out.1] at hEP; have hc10 := HC9.out.1.below hb10 hv0; have hp10 := HC9.out.2.below hb10 hv1; have HC10 := Lib.hid (And.intro hc10 hp10); have hv0 := hc10.lt; have hv1 := hp10.lt; clear hown hb10 hT10 hc10 hp10; go_wp2_with fail; refine hEP.mono ?_; clear hEP; rintro _ w11 ⟨hb11, o1, t1, a1, n1, c1, rfl, hX⟩; have hX1 := ExpIn.at _ _ hX; have HB11 := Lib.hid (HB10.out.trans (hb11.mono HB10.out.size)); have hc11 := HC10.out.1.below hb11 hv0; have hp11 := HC10.out.2.below hb11 hv1; have hv0 := hc11.lt; have hv1 := hp11.lt; have hsm := fun W (hW : Below w11.heap.size w11 W) => rSameX_both x0 W _ _ (ExpAt.below hW _ _ hX1) (ExpAt.below (HB11.out.trans (hW.mono HB11.out.size)) _ _ HV0.out); simp only [vX] at hsm; clear hb11 hX hX1; have hc11c0 := hc11.cell 0 _ rfl; have hc11f0 := hc11.frozen 0; have hc11c1 := hc11.cell 1 _ rfl; have hc11f1 := hc11.frozen 1; have hc11c2 := hc11.cell 2 _ rfl; have hc11f2 := hc11.frozen 2; have hp11c0 := hp11.cell 0 _ rfl; have hp11f0 := hp11.frozen 0; have hp11c1 := hp11.cell 1 _ rfl; have hp11f1 := hp11.frozen 1; clear hc11 hp11; go_wp2_with fail; refine (hsm _ ((Below.refl _ _).alloc (Nat.le_refl _) _)).mono ?_; rintro _ w12 ⟨rfl, hb12⟩; have hb11' := (HB11.out.alloc HB11.out.size (.cells #[.string o1, .string t1, .slice a1 n1 c1] 24)); have HB12 := Lib.hid (hb11'.trans (hb12.mono hb11'.size)); clear hsm hb12 hb11'; go_wp2_with fail; go_ret; exact ⟨rfl, HB12.out⟩
   ·have e1 : ss = ⟨#[]⟩ := by rw [HSS.out.1, if_neg hp0]
    have e2 : se = 4 := by rw [HSS.out.2, if_neg hp0]
    subst e1 e2; rw [decide_eq_false hp0]; clear hp0; go_wp2_with fail; go_ret; exact ⟨rfl, HB9.out⟩
end Go.Proofs.YthbhknfhmkhfgaaGreatDoor
namespace Go.Proofs.YthbhknfhmkhfgaaGreatDoor
set_option maxRecDepth 100000
set_option maxHeartbeats 20000000
def lpB (t : Tok) : Bool := decide (t.kind = 4) && decide (t.text = sLp)
def rpB (t : Tok) : Bool := decide (t.kind = 4) && decide (t.text = sRp)
def opn (p : Bool) : List Tok -> Nat
 | [] => 0
 | t :: r => (if lpB t && !p then 1 else 0) + opn (decide (t.kind = 1)) r
def dpt (d : Nat) : List Tok -> Option Nat
 | [] => some d
 | t :: r => if lpB t then dpt (d + 1) r else if rpB t then (if d = 0 then none else dpt (d - 1) r) else dpt d r
theorem lpB_np (t : Tok) : lpB (np t) = lpB t := rfl
theorem rpB_np (t : Tok) : rpB (np t) = rpB t := rfl
theorem opn_np : ∀ (l : List Tok) (p : Bool), opn p (l.map np) = opn p l
 | [], _ => rfl
 | t :: r, p => by simp only [List.map_cons, opn, lpB_np, opn_np r]; rfl
theorem dpt_np : ∀ (l : List Tok) (d : Nat), dpt d (l.map np) = dpt d l
 | [], _ => rfl
 | t :: r, d => by
  simp only [List.map_cons, dpt, lpB_np, rpB_np, dpt_np r]
theorem dec_lp (w : ByteArray) : lpB (tS w) = decide (w = sLp) := by
 show (decide ((4 : Int) = 4) && decide (w = sLp)) = decide (w = sLp); simp
theorem dec_rp (w : ByteArray) : rpB (tS w) = decide (w = sRp) := by
 show (decide ((4 : Int) = 4) && decide (w = sRp)) = decide (w = sRp); simp
def NoLp (B : List Tok) : Prop := ∀ t r, B = t :: r -> lpB t = false
theorem NoLp.nil : NoLp [] := fun _ _ e => by cases e
theorem NoLp.cons {t : Tok} {r : List Tok} (h : lpB t = false) : NoLp (t :: r) := fun _ _ e => by cases e; exact h
theorem NoLp.any {B : List Tok} (h : NoLp B) (p q : Bool) : opn p B = opn q B := by
 cases B with
 | nil => rfl
 | cons t r => simp only [opn, h t r rfl, Bool.false_and]
theorem opn_sg {w : ByteArray} (h : w ≠ sLp) (p : Bool) (B : List Tok) : opn p (tS w :: B) = opn false B := by
 simp only [opn, dec_lp, decide_eq_false h, Bool.false_and]; show 0 + opn (decide ((4 : Int) = 1)) B = opn false B; rw [Nat.zero_add, show decide ((4 : Int) = 1) = false by decide]
theorem opn_kd {t : Tok} (h : t.kind ≠ 4) (p : Bool) (B : List Tok) : opn p (t :: B) = opn (decide (t.kind = 1)) B := by
 simp only [opn, lpB, decide_eq_false h, Bool.false_and]; simp
theorem opn_kn {t : Tok} (h : t.kind ≠ 4) (p : Bool) {B : List Tok} (hB : NoLp B) : opn p (t :: B) = opn false B := by
 rw [opn_kd h]; exact hB.any _ _
def OpE (e : Exp) : Prop := ∀ B, NoLp B -> opn false (prX e ++ B) = brX e + opn false B
def DpE (e : Exp) : Prop := ∀ B d, dpt d (prX e ++ B) = dpt d B
theorem dpt_lp (d : Nat) (B : List Tok) : dpt d (tS sLp :: B) = dpt (d + 1) B := by
 rw [dpt, if_pos (by rw [dec_lp]; decide)]
theorem dpt_rp (d : Nat) (B : List Tok) : dpt (d + 1) (tS sRp :: B) = dpt d B := by
 rw [dpt, if_neg (by rw [dec_lp]; decide), if_pos (by rw [dec_rp]; decide), if_neg (by omega)]; rfl
theorem dpt_sg {w : ByteArray} (h : w ≠ sLp) (h2 : w ≠ sRp) (d : Nat) (B : List Tok) : dpt d (tS w :: B) = dpt d B := by
 rw [dpt, if_neg (by rw [dec_lp]; simpa using h), if_neg (by rw [dec_rp]; simpa using h2)]
theorem dpt_kd {t : Tok} (h : t.kind ≠ 4) (d : Nat) (B : List Tok) : dpt d (t :: B) = dpt d B := by
 rw [dpt, if_neg (by simp [lpB, h]), if_neg (by simp [rpB, h])]
theorem OpE.lst {e : Exp} (h : OpE e) (n : Int) (B : List Tok) (hB : NoLp B) : opn false (lst n e ++ B) = brkN n (lvN e.op, brX e) + opn false B := by
 unfold Go.Proofs.YthbhknfhmkhfgaaGreatDoor.lst brkN; simp only; split
 ·exact h B hB
 ·simp only [List.cons_append, List.append_assoc, List.nil_append]
  rw [opn, dec_lp]; have e1 : decide ((tS sLp).kind = 1) = false := by decide
  rw [e1, h _ (.cons (by rw [dec_lp]; decide))]
  rw [opn_sg (by decide)]
  have e2 : (if (decide (sLp = sLp) && !false) = true then 1 else 0) = 1 := by simp
  rw [e2]; omega
theorem DpE.lst {e : Exp} (h : DpE e) (n : Int) (B : List Tok) (d : Nat) : dpt d (lst n e ++ B) = dpt d B := by
 unfold Go.Proofs.YthbhknfhmkhfgaaGreatDoor.lst; split
 ·exact h B d
 ·rw [List.cons_append, List.append_assoc, dpt_lp, h, List.singleton_append, dpt_rp]
theorem opn_com : ∀ (l : List Exp), (∀ k ∈ l, OpE k) -> ∀ B, NoLp B -> opn false (comT l ++ B) = sumN ((brs l).map (·.2)) + opn false B
 | [], _, B, _ => by simp [comT, brs, sumN]
 | [a], h, B, hB => by
  simp only [comT, brs, List.map_cons, List.map_nil, sumN]; rw [h a (by simp) B hB]
  omega
 | a :: b :: r, h, B, hB => by
  have ih := opn_com (b :: r) (fun k hk => h k (by simp [hk])) B hB
  simp only [comT, brs, List.map_cons, sumN] at ih ⊢; rw [List.append_assoc, List.cons_append, h a (by simp) _ (.cons (by rw [dec_lp]; decide)), opn_sg (by decide), ih]
  omega
theorem dpt_com : ∀ (l : List Exp), (∀ k ∈ l, DpE k) -> ∀ B d, dpt d (comT l ++ B) = dpt d B
 | [], _, B, d => rfl
 | [a], h, B, d => h a (by simp) B d
 | a :: b :: r, h, B, d => by
  have ih := dpt_com (b :: r) (fun k hk => h k (by simp [hk])) B d
  simp only [comT]; rw [List.append_assoc, List.cons_append, h a (by simp), dpt_sg (by decide) (by decide), ih]
theorem two_lp {o : ByteArray} (h : o ∈ ([[124, 124], [38, 38], [61, 61], [33, 61], [60], [62], [60, 61], [62, 61], [43], [45], [42], [47], [37]] : List Bs).map strL) : o ≠ sLp /\ o ≠ sRp := by
 simp only [List.map_cons, List.map_nil, List.mem_cons, List.not_mem_nil, or_false] at h; rcases h with rfl | rfl | rfl | rfl | rfl | rfl | rfl | rfl | rfl | rfl | rfl | rfl | rfl <;> decide
theorem op_step (o t : ByteArray) (ks : List Exp) (hs : Shp o t ks) (h : ∀ k ∈ ks, OpE k /\ DpE k) : OpE (.mk o t ks) /\ DpE (.mk o t ks) := by
 have ho := fun k hk => (h k hk).1; have hd := fun k hk => (h k hk).2
 cases hs with
 | name =>
  refine ⟨fun B hB => ?_, fun B d => ?_⟩
  ·rw [pr_name]
   simp only [List.cons_append, List.append_assoc, List.nil_append]; rw [opn_kn (by simp) _ hB]; exact (Nat.zero_add _).symm
  ·rw [pr_name]
   simp only [List.cons_append, List.append_assoc, List.nil_append]; rw [dpt_kd (by simp)]
 | num =>
  refine ⟨fun B hB => ?_, fun B d => ?_⟩
  ·rw [pr_num]
   simp only [List.cons_append, List.append_assoc, List.nil_append]; rw [opn_kn (by simp) _ hB]; exact (Nat.zero_add _).symm
  ·rw [pr_num]
   simp only [List.cons_append, List.append_assoc, List.nil_append]; rw [dpt_kd (by simp)]
 | text =>
  refine ⟨fun B hB => ?_, fun B d => ?_⟩
  ·rw [pr_text]
   simp only [List.cons_append, List.append_assoc, List.nil_append]; rw [opn_kn (by simp) _ hB]; exact (Nat.zero_add _).symm
  ·rw [pr_text]
   simp only [List.cons_append, List.append_assoc, List.nil_append]; rw [dpt_kd (by simp)]
 | call =>
  refine ⟨fun B hB => ?_, fun B d => ?_⟩
  ·rw [pr_call]
   simp only [List.cons_append, List.append_assoc, List.nil_append]; rw [opn_kd (by simp), opn, dec_lp]
   have e1 : decide ((tS sLp).kind = 1) = false := by decide
   rw [e1, opn_com ks ho _ (.cons (by rw [dec_lp]; decide)), opn_sg (by decide)]
   have e2 : brX (.mk oCall t ks) = sumN ((brs ks).map (·.2)) := rfl; rw [e2]; simp
  ·rw [pr_call]
   simp only [List.cons_append, List.append_assoc, List.nil_append]; rw [dpt_kd (by simp), dpt_lp, dpt_com ks hd, dpt_rp]
 | list =>
  refine ⟨fun B hB => ?_, fun B d => ?_⟩
  ·rw [pr_list]
   simp only [List.cons_append, List.append_assoc, List.nil_append]; rw [opn_sg (by decide), opn_com ks ho _ (.cons (by rw [dec_lp]; decide)), opn_sg (by decide)]
   rfl
  ·rw [pr_list]
   simp only [List.cons_append, List.append_assoc, List.nil_append]; rw [dpt_sg (by decide) (by decide), dpt_com ks hd, dpt_sg (by decide) (by decide)]
 | get _ a =>
  refine ⟨fun B hB => ?_, fun B d => ?_⟩
  ·rw [pr_get]
   simp only [List.cons_append, List.append_assoc, List.nil_append]; rw [(ho a (by simp)).lst _ _ (.cons (by rw [dec_lp]; decide)), opn_sg (by decide), opn_kn (by simp) _ hB]
   rfl
  ·rw [pr_get]
   simp only [List.cons_append, List.append_assoc, List.nil_append]; rw [(hd a (by simp)).lst, dpt_sg (by decide) (by decide), dpt_kd (by simp)]
 | at_ a b =>
  refine ⟨fun B hB => ?_, fun B d => ?_⟩
  ·rw [pr_at]
   simp only [List.cons_append, List.append_assoc, List.nil_append]; rw [(ho a (by simp)).lst _ _ (.cons (by rw [dec_lp]; decide)), opn_sg (by decide), ho b (by simp) _ (.cons (by rw [dec_lp]; decide)), opn_sg (by decide)]
   have e2 : brX (.mk oAt oNo [a, b]) = brkN 8 (lvN a.op, brX a) + brX b := rfl; rw [e2]; omega
  ·rw [pr_at]
   simp only [List.cons_append, List.append_assoc, List.nil_append]; rw [(hd a (by simp)).lst, dpt_sg (by decide) (by decide), hd b (by simp), dpt_sg (by decide) (by decide)]
 | bang a =>
  refine ⟨fun B hB => ?_, fun B d => ?_⟩
  ·rw [pr_bang]
   simp only [List.cons_append, List.append_assoc, List.nil_append]; rw [opn_sg (by decide), (ho a (by simp)).lst _ _ hB]
   rfl
  ·rw [pr_bang]
   simp only [List.cons_append, List.append_assoc, List.nil_append]; rw [dpt_sg (by decide) (by decide), (hd a (by simp)).lst]
 | neg a =>
  refine ⟨fun B hB => ?_, fun B d => ?_⟩
  ·rw [pr_neg]
   simp only [List.cons_append, List.append_assoc, List.nil_append]; rw [opn_sg (by decide), (ho a (by simp)).lst _ _ hB]
   rfl
  ·rw [pr_neg]
   simp only [List.cons_append, List.append_assoc, List.nil_append]; rw [dpt_sg (by decide) (by decide), (hd a (by simp)).lst]
 | choice a b c =>
  refine ⟨fun B hB => ?_, fun B d => ?_⟩
  ·rw [pr_choice]
   simp only [List.cons_append, List.append_assoc, List.nil_append]; rw [(ho a (by simp)).lst _ _ (.cons (by rw [dec_lp]; decide)), opn_sg (by decide), ho b (by simp) _ (.cons (by rw [dec_lp]; decide)), opn_sg (by decide), ho c (by simp) _ hB]
   have e2 : brX (.mk sQ oNo [a, b, c]) = brkN 1 (lvN a.op, brX a) + (brX b + brX c) := rfl; rw [e2]; omega
  ·rw [pr_choice]
   simp only [List.cons_append, List.append_assoc, List.nil_append]; rw [(hd a (by simp)).lst, dpt_sg (by decide) (by decide), hd b (by simp), dpt_sg (by decide) (by decide), hd c (by simp)]
 | two _ lv a b _ _ _ hn hm =>
  obtain ⟨g1, g2⟩ := two_lp hm; refine ⟨fun B hB => ?_, fun B d => ?_⟩
  ·rw [pr_two _ a b hn]
   simp only [List.cons_append, List.append_assoc, List.nil_append]; rw [(ho a (by simp)).lst _ _ (.cons (by rw [dec_lp]; simpa using g1)), opn_sg g1, (ho b (by simp)).lst _ _ hB]
   have e2 : brX (.mk o oNo [a, b]) = brkN (lvN o) (lvN a.op, brX a) + brkN (lvN o + 1) (lvN b.op, brX b) := by
    simp only [brX, brs]; unfold brK; rw [if_neg hn.1, if_neg hn.2.1, if_neg hn.2.2.1, if_neg hn.2.2.2.1, if_neg hn.2.2.2.2.1]; simp only; rw [if_neg hn.2.2.2.2.2]
   rw [e2]; omega
  ·rw [pr_two _ a b hn]
   simp only [List.cons_append, List.append_assoc, List.nil_append]; rw [(hd a (by simp)).lst, dpt_sg g1 g2, (hd b (by simp)).lst]
theorem op_upto : ∀ (n : Nat) (e : Exp), e.bulk <= n -> rightX e = true -> OpE e /\ DpE e
 | 0, e, hb, _ => by have := bulkX_pos e; omega
 | n + 1, .mk o t ks, hb, hr => by
  obtain ⟨h1, h2⟩ := Shp.ok hr; refine op_step o t ks h1 (fun k hk => ?_); obtain ⟨j, hj, rfl⟩ := List.mem_iff_getElem.1 hk; have hbk := bulkX_kid hj; simp only [Exp.bulk] at hb; exact op_upto n _ (by omega) (h2 _ hk)
theorem pr_opn {e : Exp} (h : rightX e = true) {l : List Tok} (hl : l.map np = prX e) : opn false l = brX e /\ dpt 0 l = some 0 := by
 obtain ⟨h1, h2⟩ := op_upto _ e (Nat.le_refl _) h; have h3 := h1 [] .nil; have h4 := h2 [] 0; rw [List.append_nil] at h3 h4; rw [<- opn_np l, <- dpt_np l, hl, h3, h4]; exact ⟨rfl, rfl⟩
def fnd (d : Nat) : List Tok -> Option Nat
 | [] => none
 | t :: r => if lpB t then (fnd (d + 1) r).map (· + 1) else if rpB t then (if d = 1 then some 0 else (fnd (d - 1) r).map (· + 1)) else (fnd d r).map (· + 1)
theorem fnd_some : ∀ (l : List Tok) (m d : Nat), 1 <= d -> dpt (m + d) l = some 0 -> ∃ j, fnd d l = some j /\ j < l.length
 | [], m, d, hd, h => by
  simp only [dpt, Option.some.injEq] at h; omega
 | t :: r, m, d, hd, h => by
  rw [dpt] at h; rw [fnd]; split at h
  ·rename_i h1
   rw [if_pos h1]; obtain ⟨j, h2, h3⟩ := fnd_some r m (d + 1) (by omega) h
   exact ⟨j + 1, by rw [h2]; rfl, by simp; omega⟩
  ·rename_i h1
   rw [if_neg h1]; split at h
   ·rename_i h4
    rw [if_pos h4]
    by_cases h5 : d = 1
    ·rw [if_pos h5]
     exact ⟨0, rfl, by simp⟩
    ·rw [if_neg h5]
     rw [if_neg (by omega)] at h
     obtain ⟨j, h2, h3⟩ := fnd_some r m (d - 1) (by omega) (by rw [show m + (d - 1) = m + d - 1 by omega]; exact h)
     exact ⟨j + 1, by rw [h2]; rfl, by simp; omega⟩
   ·rename_i h4
    rw [if_neg h4]; obtain ⟨j, h2, h3⟩ := fnd_some r m d hd h; exact ⟨j + 1, by rw [h2]; rfl, by simp; omega⟩
theorem dpt_drop : ∀ (l : List Tok) (d k : Nat), dpt d l = some 0 -> ∃ m, dpt m (l.drop k) = some 0
 | l, d, 0, h => ⟨d, h⟩
 | [], d, k + 1, h => ⟨d, h⟩
 | t :: r, d, k + 1, h => by
  rw [List.drop_succ_cons]; rw [dpt] at h; split at h
  ·exact dpt_drop r _ k h
  ·split at h
   ·split at h
    ·cases h
    ·exact dpt_drop r _ k h
   ·exact dpt_drop r _ k h
theorem shut {l : List Tok} (h : dpt 0 l = some 0) {k : Nat} (hk : k < l.length) (hp : lpB l[k] = true) : ∃ j, fnd 1 (l.drop (k + 1)) = some j /\ k + 1 + j < l.length := by
 obtain ⟨m, hm⟩ := dpt_drop l 0 k h; rw [List.drop_eq_getElem_cons hk, dpt, if_pos hp] at hm; obtain ⟨j, h1, h2⟩ := fnd_some _ m 1 (Nat.le_refl _) hm; rw [List.length_drop] at h2; exact ⟨j, h1, by omega⟩
end Go.Proofs.YthbhknfhmkhfgaaGreatDoor
namespace Go.Proofs.YthbhknfhmkhfgaaGreatDoor
set_option maxRecDepth 100000
set_option maxHeartbeats 20000000
open Go.RowKit Go.Tab
abbrev numI (n : Nat) : Value := .int .i64 (n : Int)
theorem Tryz.infoIntY : (Tryz.prog.info? 3).map (fun i => (i.zero, i.size, i.bytes)) = some (some (.int .i64 0), 1, 8) := by kernel_rfl
def prevB (l : List Tok) : Nat -> Bool
 | 0 => false
 | k + 1 => match l[k]? with | some t => decide (t.kind = 1) | none => false
theorem prevB_succ {l : List Tok} {k : Nat} (h : k < l.length) : prevB l (k + 1) = decide (l[k].kind = 1) := by
 simp only [prevB, List.getElem?_eq_getElem h]
theorem opn_go {l : List Tok} {k : Nat} (h : k < l.length) : opn (prevB l k) (l.drop k) = (if lpB l[k] && !prevB l k then 1 else 0) + opn (prevB l (k + 1)) (l.drop (k + 1)) := by
 rw [List.drop_eq_getElem_cons h, opn, prevB_succ h]
def OpI (l : List Tok) (P : List Nat) (k : Nat) : Prop := P.length + opn (prevB l k) (l.drop k) = opn false l /\ ∀ j ∈ P, ∃ h : j < l.length, lpB l[j] = true
theorem OpI.start (l : List Tok) : OpI l [] 0 := ⟨by simp [prevB], fun j h => by cases h⟩
theorem OpI.no {l : List Tok} {P : List Nat} {k : Nat} (h : OpI l P k) (hk : k < l.length) (hp : (lpB l[k] && !prevB l k) = false) : OpI l P (k + 1) := by
 obtain ⟨h1, h2⟩ := h; rw [opn_go hk, hp] at h1; exact ⟨by simpa using h1, h2⟩
theorem OpI.yes {l : List Tok} {P : List Nat} {k : Nat} (h : OpI l P k) (hk : k < l.length) (hp : (lpB l[k] && !prevB l k) = true) : OpI l (P ++ [k]) (k + 1) := by
 obtain ⟨h1, h2⟩ := h; rw [opn_go hk, hp] at h1; refine ⟨by rw [List.length_append, List.length_singleton]; simp only [if_true] at h1; omega, fun j hj => ?_⟩
 rcases List.mem_append.1 hj with hj | hj
 ·exact h2 j hj
 ·simp only [List.mem_singleton] at hj
  subst hj; rw [Bool.and_eq_true] at hp; exact ⟨hk, hp.1⟩
theorem OpI.end {l : List Tok} {P : List Nat} (h : OpI l P l.length) : P.length = opn false l := by
 have := h.1; rw [List.drop_length] at this
 simpa [opn] using this
def lessL (l : List Tok) (i j : Nat) : Nat -> List Tok
 | 0 => []
 | k + 1 => match l[k]? with | some t => if k ≠ i /\ k ≠ j then lessL l i j k ++ [t] else lessL l i j k | none => lessL l i j k
theorem lessL_yes {l : List Tok} {i j k : Nat} (h : k < l.length) (h1 : k ≠ i) (h2 : k ≠ j) : lessL l i j (k + 1) = lessL l i j k ++ [l[k]] := by
 simp only [lessL, List.getElem?_eq_getElem h]; rw [if_pos ⟨h1, h2⟩]
theorem lessL_no {l : List Tok} {i j k : Nat} (h : k < l.length) (h1 : k = i \/ k = j) : lessL l i j (k + 1) = lessL l i j k := by
 simp only [lessL, List.getElem?_eq_getElem h]; rw [if_neg (by omega)]
theorem lessL_len (l : List Tok) {i j : Nat} (hij : i < j) : ∀ k, k <= l.length -> (lessL l i j k).length + (if i < k then 1 else 0) + (if j < k then 1 else 0) = k
 | 0, _ => by simp [lessL]
 | k + 1, hk => by
  have ih := lessL_len l hij k (by omega)
  by_cases h : k ≠ i /\ k ≠ j
  ·rw [lessL_yes (by omega) h.1 h.2, List.length_append, List.length_singleton]
   split at ih <;> split at ih <;> split <;> split <;> omega
  ·rw [lessL_no (by omega) (by omega)]
   split at ih <;> split at ih <;> split <;> split <;> omega
theorem lessL_mem (l : List Tok) {i j : Nat} : ∀ k, k <= l.length -> ∀ t ∈ lessL l i j k, t ∈ l
 | 0, _, t, ht => by simp [lessL] at ht
 | k + 1, hk, t, ht => by
  by_cases h : k ≠ i /\ k ≠ j
  ·rw [lessL_yes (by omega) h.1 h.2] at ht
   rcases List.mem_append.1 ht with ht | ht
   ·exact lessL_mem l k (by omega) t ht
   ·simp only [List.mem_singleton] at ht
    subst ht; exact List.getElem_mem _
  ·rw [lessL_no (by omega) (by omega)] at ht
   exact lessL_mem l k (by omega) t ht
def FI (l : List Tok) (j0 k d : Nat) : Prop := (k = j0 /\ d = 0) \/ (j0 < k /\ 1 <= d /\ ∃ jj, fnd d (l.drop k) = some jj)
theorem FI.lt {l : List Tok} {j0 k d : Nat} (h : FI l j0 k d) (hj : j0 < l.length) : k < l.length := by
 rcases h with ⟨rfl, -⟩ | ⟨-, -, jj, h⟩
 ·exact hj
 ·by_cases hk : k < l.length
  ·exact hk
  ·rw [List.drop_eq_nil_of_le (by omega)] at h
   cases h
theorem FI.lp {l : List Tok} {j0 k d : Nat} (h : FI l j0 k d) (hk : k < l.length) (hd : dpt 0 l = some 0) (hp : lpB l[k] = true) : FI l j0 (k + 1) (d + 1) := by
 rcases h with ⟨rfl, rfl⟩ | ⟨h1, h2, jj, h⟩
 ·obtain ⟨j, h3, -⟩ := shut hd hk hp
  exact .inr ⟨by omega, by omega, j, h3⟩
 ·rw [List.drop_eq_getElem_cons hk, fnd, if_pos hp] at h
  obtain ⟨j, h3, -⟩ := Option.map_eq_some_iff.1 h; exact .inr ⟨by omega, by omega, j, h3⟩
theorem FI.no {l : List Tok} {j0 k d : Nat} (h : FI l j0 k d) (hj : j0 < l.length) (hl : lpB l[j0] = true) (hk : k < l.length) (hp : lpB l[k] = false) (hr : rpB l[k] = false) : FI l j0 (k + 1) d := by
 rcases h with ⟨rfl, rfl⟩ | ⟨h1, h2, jj, h⟩
 ·rw [hl] at hp; cases hp
 ·rw [List.drop_eq_getElem_cons hk, fnd, if_neg (by rw [hp]; decide), if_neg (by rw [hr]; decide)] at h
  obtain ⟨j, h3, -⟩ := Option.map_eq_some_iff.1 h; exact .inr ⟨by omega, by omega, j, h3⟩
theorem FI.rp {l : List Tok} {j0 k d : Nat} (h : FI l j0 k d) (hj : j0 < l.length) (hl : lpB l[j0] = true) (hk : k < l.length) (hp : lpB l[k] = false) (hr : rpB l[k] = true) : j0 < k /\ 1 <= d /\ (d = 1 \/ FI l j0 (k + 1) (d - 1)) := by
 rcases h with ⟨rfl, rfl⟩ | ⟨h1, h2, jj, h⟩
 ·rw [hl] at hp; cases hp
 ·rw [List.drop_eq_getElem_cons hk, fnd, if_neg (by rw [hp]; decide), if_pos hr] at h
  refine ⟨h1, h2, ?_⟩
  by_cases e : d = 1
  ·exact .inl e
  ·rw [if_neg e] at h
   obtain ⟨j, h3, -⟩ := Option.map_eq_some_iff.1 h; exact .inr (.inr ⟨by omega, by omega, j, h3⟩)
theorem two_cell (w : World) (A : Obj) (cs : Array Value) (T : TypeId) (j : Nat) (v : Value) (hj : cs[j]? = some v) : ((w.alloc A).alloc (.cells cs T)).cell? ⟨w.heap.size + 1, j, none⟩ = some v := by
 have h := Cells.new (w.alloc A) cs T; simp only [World.size_alloc] at h; exact h.cell j v hj
theorem less_other {x : Exp} {toks L : List Tok} (hl : toks.length = (prX x).length) (hL : L.length + 2 = toks.length) (h0 : (parE L).2.2 = 0) : (parE L).1 ≠ x := by
 intro e; have h1 := parE_few h0; have h2 := parE_le L h0; rw [e] at h1; omega
theorem ShowLeast_walk (c0 : List Value) (x0 : Exp) (a1 : Int) (w : World) (w0 : ExpAt w x0 c0) (w1 : (Lit.int .u8 a1).wf = true) (hT : LexT w) (f0 : FitX x0) :
    Calls Tryz.prog 3 #[vX c0, .int .u8 a1] w fun e w' => e = .returned (.bool true) /\ Below w.heap.size w w' := by
  have r1 : 0 <= a1 /\ a1 < 256 := by
    rw [Lit.wf, Bool.and_eq_true, decide_eq_true_eq, decide_eq_true_eq] at w1; have e1 : IntKind.u8.min = 0 := rfl; have e2 : IntKind.u8.max = 255 := rfl; omega
  obtain ⟨q, rfl⟩ : ∃ q : Nat, a1 = q := ⟨a1.toNat, by omega⟩
  clear w1; have HV0 := Lib.hid w0; obtain ⟨o0, t0, s0, n0, k0, rfl⟩ := w0.shape; have hb1 : Below w.heap.size w (w.alloc (.cells #[.string o0, .string t0, .slice s0 n0 k0] 24)) := (Below.refl _ w).alloc (Nat.le_refl _) _; have hk1 := Cells.new w #[.string o0, .string t0, .slice s0 n0 k0] 24; have hW := wakes14_any _ (hT.below hb1); have HB1 := Lib.hid hb1; have HT := Lib.hid hT; simp only [vX]; clear hb1 hT w0; go_enter Tryz.func3, Tryz.ntmps3; go_wp2_with fail; refine hW.mono ?_; rintro _ w2 ⟨rfl, hb2⟩; have hc0 := hk1.below hb2 hk1.lt; have hz0 := hc0.lt; have HB2 := Lib.hid (HB1.out.trans (hb2.mono HB1.out.size)); have hG := GreatX_any x0 f0 w2 _ (ExpAt.below HB2.out _ _ HV0.out); have HC := Lib.hid hc0; clear hb2 hW HB1 hk1; have hc0c0 := hc0.cell 0 _ rfl; have hc0f0 := hc0.frozen 0; have hc0c1 := hc0.cell 1 _ rfl; have hc0f1 := hc0.frozen 1; have hc0c2 := hc0.cell 2 _ rfl; have hc0f2 := hc0.frozen 2; clear hc0; go_wp2_with fail; refine hG.mono ?_; rintro _ w3 ⟨⟨b, rfl, hbb⟩, hb3⟩; have hc0 := HC.out.below hb3 hz0; have HB3 := Lib.hid (HB2.out.trans (hb3.mono HB2.out.size)); clear hG hb3 hc0c0 hc0c1 hc0c2 hc0f0 hc0f1 hc0f2 HC HB2
  cases b with
  | true =>
    clear hc0; go_wp2_with fail; go_ret; exact ⟨rfl, HB3.out⟩
  | false =>
    have hs0 := hbb rfl; have HS := Lib.hid hs0; have hz3 := hc0.lt; have hSh := showExpr_any x0 hs0 w3 _ (HT.out.below HB3.out) (ExpAt.below HB3.out _ _ HV0.out); have HC := Lib.hid hc0; simp only [vX] at hSh; clear hbb hs0; have hc0c0 := hc0.cell 0 _ rfl; have hc0f0 := hc0.frozen 0; have hc0c1 := hc0.cell 1 _ rfl; have hc0f1 := hc0.frozen 1; have hc0c2 := hc0.cell 2 _ rfl; have hc0f2 := hc0.frozen 2; clear hc0; go_wp2_with fail; refine hSh.mono ?_; clear hSh hc0c0 hc0c1 hc0c2 hc0f0 hc0f1 hc0f2; rintro _ w4 ⟨rfl, hb4⟩; have hc0 := HC.out.below hb4 hz3; have HB4 := Lib.hid (HB3.out.trans (hb4.mono HB3.out.size)); have hz4 := hc0.lt; have HC4 := Lib.hid hc0; clear hb4 HC hc0
    by_cases hok : rightX x0 = true /\ (parE (prX x0)).2.2 = 0
    . have e1 : shS x0 = ptS (pcX x0) := if_pos hok
      have e2 : shE x0 = 0 := by unfold shE; rw [if_pos hok.1, if_pos hok.2]
      rw [e1, e2]; clear e1 e2; have HR := Lib.hid hok; have hsz : (ptS (pcX x0)).size <= 60000 := Nat.le_trans (ptS_size _) (wt_small hok.1 HS.out); have HWt := Lib.hid (wt_small hok.1 HS.out); obtain ⟨toks, h1, -, h3, -, h5, -, h7, h8, h9⟩ := print_toks hok.1; have hop := pr_opn hok.1 h3; have hL := rLex_any (ptS (pcX x0)) w4 (by omega)
      obtain ⟨z, hz⟩ : ∃ z, (lexL (catP (pcX x0)) 0).2.1 = z := ⟨_, rfl⟩; rw [ptS_list, h1, hz] at hL; have hln : toks.length <= 60000 := by have := HWt.out; omega
      have HTk := Lib.hid (And.intro h5 (And.intro h7 (And.intro (fun t ht => Nat.le_trans (h8 t ht) HWt.out) hop))); generalize ptS (pcX x0) = S at *; clear h1 h3 h5 h7 h8 h9 hz hok hop; go_wp2_with fail; refine hL.mono ?_; clear hL; rintro _ w5 ⟨v, rfl, hown, hb5⟩; obtain ⟨va, vc, rfl⟩ := hown.len; have hfd : ∀ W : World, (Instr.field 32 (.agg #[.slice va toks.length vc, .int .i64 z, .int .i64 0]) 0).run Tryz.prog W = .ok (.slice va toks.length vc) W := fun _ => by kernel_rfl
      have HB5 := Lib.hid (HB4.out.trans (hb5.mono HB4.out.size)); have HC5 := Lib.hid (HC4.out.below hb5 hz4); have HTo := Lib.hid hown.toks; have hz5 := HC5.out.lt; clear hown hb5 HC4; go_wp2_with fail; go_loopw [8, 9, 10, 35] (fun v _ _ i wr => ∃ (k : Nat) (P : List Nat), k <= toks.length /\ i = .int .i64 (k : Int) /\ OwnOf numI 3 w5.heap.size wr v P /\ P.length <= k /\ Hid (OpI toks P k) /\ Below w5.heap.size w5 wr) (fun _ _ _ i _ => toks.length - (intOf i).toNat)
      case atStart => exact ⟨0, [], Nat.zero_le _, rfl, OwnOf.nil, Nat.le_refl _, Lib.hid (OpI.start toks), Below.refl _ _⟩
      case round =>
        clear hfd; obtain ⟨k, P, hk, rfl, hown, hPl, HI, hbw⟩ := hrel; obtain ⟨ra, rc, rfl, -⟩ := hown.row.len
        by_cases hkl : k < toks.length
        . obtain ⟨b, off, rfl, hlt, q0, q1, q2⟩ := ToksAt.get (HTo.out.below hbw (Nat.le_refl _)) hkl
          have HO := Lib.hid (And.intro hown hPl); have HBw := Lib.hid hbw; have HL : Hid (lpB toks[k] = (decide (toks[k].kind = 4) && decide (toks[k].text = ⟨#[40]⟩))) := Lib.hid rfl; obtain ⟨kd, hkd⟩ : ∃ x, toks[k].kind = x := ⟨_, rfl⟩; obtain ⟨tx, htx⟩ : ∃ x, toks[k].text = x := ⟨_, rfl⟩; obtain ⟨ps, hps⟩ : ∃ x, toks[k].pos = x := ⟨_, rfl⟩; rw [hkd, htx] at HL; rw [hkd] at q0; rw [htx] at q1; rw [hps] at q2; clear hkd htx hps hown hPl hbw
          by_cases hT : tx = ⟨#[40]⟩
          . subst hT
            by_cases hK : kd = 4
            . subst hK
              by_cases hk0 : k = 0
              . subst hk0
                simp only [Nat.zero_mul, Nat.add_zero] at q0 q1 q2; have HX : Hid ((lpB toks[0] && !prevB toks 0) = true) := Lib.hid (by rw [HL.out]; simp [prevB])
                go_wp2_with (with_reducible first | refine stop_append ?_)
                refine Stop.out ?_; have hwt := HBw.out.alloc HBw.out.size (.cells #[.int .i64 4, .string ⟨#[40]⟩, .int .i64 ps] 36); have hlit := OwnOf.lit (f := numI) (E := 3) (base := (wr.alloc (.cells #[.int .i64 4, .string ⟨#[40]⟩, .int .i64 ps] 36)).heap.size) (w := wr.alloc (.cells #[.int .i64 4, .string ⟨#[40]⟩, .int .i64 ps] 36)) [0] (Nat.le_refl _) (by simp [maxLen])
                have hsz5 := HBw.out.size; have hPl := HO.out.2; refine wpList_append_row (f := numI) rfl _ _ _ rfl w5.heap.size 3 8 (.int .i64 0) Tryz.underlying34 Tryz.infoIntY rfl (fun _ => rfl) P [0] (by exact (HO.out.1.alloc _).alloc _) (by have := hlit.row; simp only [World.size_alloc] at this; first | exact this | (push_cast at this; exact this)) (by simp; unfold maxLen; omega) (by simp; omega) (by simp; omega) w5 (by exact hwt.alloc hwt.size _) ?_
                intro v6 w6 hown6 hb6 hg6; obtain ⟨r6, c6, rfl, -⟩ := hown6.row.len; have H6 := Lib.hid (And.intro hown6 (And.intro hb6 (show (P ++ [0]).length <= 0 + 1 by rw [List.length_append, List.length_singleton]; omega)))
                clear hlit hown6 hb6 hg6 hwt hsz5 hPl; go_wp2_with fail; go_roundw
                case rel => exact ⟨0 + 1, P ++ [0], hkl, by go_num, by simpa using H6.out.1, H6.out.2.2, Lib.hid (HI.out.yes hkl HX.out), H6.out.2.1⟩
                case measure => simp [intOf]; omega
              . obtain ⟨m, rfl⟩ : ∃ m, k = m + 1 := ⟨k - 1, by omega⟩
                obtain ⟨b', off', e', -, p0, -, -⟩ := ToksAt.get (HTo.out.below HBw.out (Nat.le_refl _)) (j := m) (by omega)
                cases e'
                obtain ⟨pk, hpk⟩ : ∃ x, toks[m].kind = x := ⟨_, rfl⟩; have HPv : Hid (prevB toks (m + 1) = decide (pk = 1)) := Lib.hid (by rw [prevB_succ (by omega), hpk])
                rw [hpk] at p0; clear hpk; have e1 : ((m : Int) + 1 == 0) = false := by simp; omega
                have kq : IntKind.i64.wrap ((m : Int) + 1 - 1) = (m : Int) := by rw [IntWalk.i64_in _ (by omega)]; omega
                by_cases hp1 : pk = 1
                . subst hp1
                  have HX : Hid ((lpB toks[m + 1] && !prevB toks (m + 1)) = false) := Lib.hid (by rw [HPv.out]; simp)
                  go_wp2_with fail; go_roundw
                  case rel => exact ⟨m + 1 + 1, P, hkl, by go_num, HO.out.1.alloc _, Nat.le_succ_of_le HO.out.2, Lib.hid (HI.out.no hkl HX.out), HBw.out.alloc HBw.out.size _⟩
                  case measure => simp [intOf]; omega
                . have hpb : (pk != 1) = true := by simpa using hp1
                  have HX : Hid ((lpB toks[m + 1] && !prevB toks (m + 1)) = true) := Lib.hid (by rw [HPv.out, HL.out, decide_eq_false hp1]; simp)
                  clear hp1; go_wp2_with (with_reducible first | refine stop_append ?_)
                  refine Stop.out ?_; have hwt := HBw.out.alloc HBw.out.size (.cells #[.int .i64 4, .string ⟨#[40]⟩, .int .i64 ps] 36); have hlit := OwnOf.lit (f := numI) (E := 3) (base := (wr.alloc (.cells #[.int .i64 4, .string ⟨#[40]⟩, .int .i64 ps] 36)).heap.size) (w := wr.alloc (.cells #[.int .i64 4, .string ⟨#[40]⟩, .int .i64 ps] 36)) [m + 1] (Nat.le_refl _) (by simp [maxLen])
                  have hsz5 := HBw.out.size; have hPl := HO.out.2; refine wpList_append_row (f := numI) rfl _ _ _ rfl w5.heap.size 3 8 (.int .i64 0) Tryz.underlying34 Tryz.infoIntY rfl (fun _ => rfl) P [m + 1] (by exact (HO.out.1.alloc _).alloc _) (by have := hlit.row; simp only [World.size_alloc] at this; first | exact this | (push_cast at this; exact this)) (by simp; unfold maxLen; omega) (by simp; omega) (by simp; omega) w5 (by exact hwt.alloc hwt.size _) ?_
                  intro v6 w6 hown6 hb6 hg6; obtain ⟨r6, c6, rfl, -⟩ := hown6.row.len; have H6 := Lib.hid (And.intro hown6 (And.intro hb6 (show (P ++ [m + 1]).length <= m + 1 + 1 by rw [List.length_append, List.length_singleton]; omega)))
                  clear hlit hown6 hb6 hg6 hwt hsz5 hPl; go_wp2_with fail; go_roundw
                  case rel => exact ⟨m + 1 + 1, P ++ [m + 1], hkl, by go_num, by simpa using H6.out.1, H6.out.2.2, Lib.hid (HI.out.yes hkl HX.out), H6.out.2.1⟩
                  case measure => simp [intOf]; omega
            . have hKb : (kd == 4) = false := by simpa using hK
              have HX : Hid ((lpB toks[k] && !prevB toks k) = false) := Lib.hid (by rw [HL.out, decide_eq_false hK]; rfl)
              clear hK; go_wp2_with fail; go_roundw
              case rel => exact ⟨k + 1, P, hkl, by go_num, HO.out.1.alloc _, Nat.le_succ_of_le HO.out.2, Lib.hid (HI.out.no hkl HX.out), HBw.out.alloc HBw.out.size _⟩
              case measure => simp [intOf]; omega
          . have hTb : (tx.toList == [40]) = false := by have := str_ne hT; rwa [show (⟨#[40]⟩ : ByteArray).toList = [40] by rw [ByteArray.toList_eq]] at this
            have HX : Hid ((lpB toks[k] && !prevB toks k) = false) := Lib.hid (by rw [HL.out, decide_eq_false hT, Bool.and_false]; rfl)
            clear hT; go_wp2_with fail; go_roundw
            case rel => exact ⟨k + 1, P, hkl, by go_num, HO.out.1.alloc _, Nat.le_succ_of_le HO.out.2, Lib.hid (HI.out.no hkl HX.out), HBw.out.alloc HBw.out.size _⟩
            case measure => simp [intOf]; omega
        . obtain rfl : k = toks.length := by omega
          have hPn : P.length = brX x0 := by rw [HI.out.end, HTk.out.2.2.2.1]
          have hsn : shN x0 = brX x0 := if_pos HR.out.1; have hbw6 := HB5.out.trans (hbw.mono HB5.out.size); have hBr := Braces_any x0 HS.out wr _ (HT.out.below hbw6) (ExpAt.below hbw6 _ _ HV0.out); rw [hsn, <- hPn] at hBr; simp only [vX] at hBr; have hcw := HC5.out.below hbw hz5; have hzw := hcw.lt; have HCW := Lib.hid (And.intro hcw (And.intro hown (And.intro hbw hbw6))); have hPl2 : P.length <= 60000 := by omega
          clear hPn hsn hown hbw hbw6; have hcwc0 := hcw.cell 0 _ rfl; have hcwf0 := hcw.frozen 0; have hcwc1 := hcw.cell 1 _ rfl; have hcwf1 := hcw.frozen 1; have hcwc2 := hcw.cell 2 _ rfl; have hcwf2 := hcw.frozen 2; clear hcw; go_wp2_with fail; refine hBr.mono ?_; clear hBr hcwc0 hcwc1 hcwc2 hcwf0 hcwf1 hcwf2; rintro _ w6 ⟨rfl, hb6⟩; have hnn : ((P.length : Int) != (P.length : Int)) = false := by simp
          have HB6 := Lib.hid (HCW.out.2.2.2.trans (hb6.mono HCW.out.2.2.2.size)); have HC6 := Lib.hid (HCW.out.1.below hb6 hzw); have HT6 := Lib.hid ((HTo.out.below HCW.out.2.2.1 (Nat.le_refl _)).below hb6 (Nat.le_refl _)); have hrow := HCW.out.2.1.row.below hb6 (Nat.le_refl _); clear hb6 HCW
          by_cases hP0 : P.length = 0
          . have hn : ((P.length : Int) == 0) = true := by simp [hP0]
            clear hrow hPl hPl2 hP0; generalize P.length = np at *; go_wp2_with fail; go_ret; exact ⟨rfl, HB6.out⟩
          . have hn : ((P.length : Int) == 0) = false := by simpa using hP0
            have hlt : q % P.length < P.length := Nat.mod_lt _ (by omega)
            obtain ⟨b, off, rfl, hbl, hcell⟩ := hrow.at hlt; have hcx : w6.cell? ⟨b, off + q % P.length, none⟩ = some (.int .i64 ((P[q % P.length] : Nat) : Int)) := hcell _ hlt; obtain ⟨hj0, hlp⟩ := HI.out.2 _ (List.getElem_mem hlt); have HLP : Hid (∃ h : P[q % P.length] < toks.length, lpB toks[P[q % P.length]] = true) := Lib.hid ⟨hj0, hlp⟩; clear hlp; generalize P[q % P.length] = j0 at *; have hmod : Int.tmod (q : Int) (P.length : Int) = ((q % P.length : Nat) : Int) := by rw [Int.tmod_eq_emod_of_nonneg (by omega)]; simp
            clear hrow hcell hP0 HI hPl; generalize q % P.length = qm at *; generalize P.length = np at *; have HSt : Hid (FI toks j0 j0 0) := Lib.hid (.inl ⟨rfl, rfl⟩); go_wp2_with fail; clear hcx hmod hlt; go_loopw [12, 13, 14] (fun tg deep i wr => ∃ k d : Nat, tg = .int .i64 (j0 : Int) /\ deep = .int .i64 (d : Int) /\ i = .int .i64 (k : Int) /\ k <= toks.length /\ d <= k /\ Hid (FI toks j0 k d) /\ wr = w6) (fun _ _ i _ => toks.length - (intOf i).toNat)
            case atStart => exact ⟨j0, 0, rfl, rfl, rfl, Nat.le_of_lt hj0, Nat.zero_le _, HSt, rfl⟩
            case round =>
              clear HSt; rename_i wold; obtain ⟨k, d, rfl, rfl, rfl, hk, hdk, HF, rfl⟩ := hrel; have hkl : k < toks.length := HF.out.lt hj0; obtain ⟨b2, off2, rfl, hlt2, q0, q1, -⟩ := ToksAt.get HT6.out hkl; have HLl : Hid (lpB toks[k] = (decide (toks[k].kind = 4) && decide (toks[k].text = ⟨#[40]⟩))) := Lib.hid rfl; have HLr : Hid (rpB toks[k] = (decide (toks[k].kind = 4) && decide (toks[k].text = ⟨#[41]⟩))) := Lib.hid rfl; obtain ⟨kd, hkd⟩ : ∃ x, toks[k].kind = x := ⟨_, rfl⟩; obtain ⟨tx, htx⟩ : ∃ x, toks[k].text = x := ⟨_, rfl⟩; rw [hkd, htx] at HLl HLr; rw [hkd] at q0; rw [htx] at q1; clear hkd htx
              by_cases hK : kd = 4
              . subst hK
                by_cases hT : tx = ⟨#[40]⟩
                . subst hT
                  have HG : Hid (FI toks j0 (k + 1) (d + 1)) := Lib.hid (HF.out.lp hkl HTk.out.2.2.2.2 (by rw [HLl.out]; simp))
                  go_wp2_with fail; go_roundw
                  case rel => exact ⟨k + 1, d + 1, rfl, by go_num, by go_num, hkl, by omega, HG, by first | trivial | rfl⟩
                  case measure => simp [intOf]; omega
                . have hTb : (tx.toList == [40]) = false := by have := str_ne hT; rwa [show (⟨#[40]⟩ : ByteArray).toList = [40] by rw [ByteArray.toList_eq]] at this
                  have HLl : Hid (lpB toks[k] = false) := Lib.hid (by rw [HLl.out, decide_eq_false hT, Bool.and_false])
                  clear hT
                  by_cases hT : tx = ⟨#[41]⟩
                  . subst hT
                    obtain ⟨g1, g2, g3⟩ := HF.out.rp hj0 HLP.out.2 hkl HLl.out (by rw [HLr.out]; simp)
                    by_cases he0 : d = 1
                    . subst he0
                      have HJ : Hid (j0 < k) := Lib.hid g1; have hkj : ((k : Int) == (j0 : Int)) = false := by simp; omega
                      clear g1 g2 g3 HLr HF; generalize wr = wk at *; go_wp2_with fail; clear hkj q0 q1; obtain ⟨kt, rfl⟩ : ∃ kt, kt = k := ⟨_, rfl⟩; have hktl : kt < toks.length := hkl; go_loopw [15, 16, 17, 130] (fun v _ _ i wr => ∃ m : Nat, m <= toks.length /\ i = .int .i64 (m : Int) /\ OwnT wk.heap.size wr v (lessL toks j0 kt m) /\ Below wk.heap.size wk wr) (fun _ _ _ i _ => toks.length - (intOf i).toNat)
                      case atStart => exact ⟨0, Nat.zero_le _, rfl, OwnT.nil, Below.refl _ _⟩
                      case round =>
                        obtain ⟨m, hk, rfl, hown, hbw⟩ := hrel; obtain ⟨la, lc, rfl⟩ := hown.len; have HBw := Lib.hid hbw
                        by_cases hkl : m < toks.length
                        . obtain ⟨b3, off3, e3, hlt3, q0, q1, q2⟩ := ToksAt.get (HT6.out.below hbw (Nat.le_refl _)) hkl
                          cases e3
                          obtain ⟨⟨kd, tx, ps⟩, ht⟩ : ∃ t, toks[m] = t := ⟨_, rfl⟩; rw [ht] at q0 q1 q2; simp only at q0 q1 q2; have HLm : Hid (toks[m] = ⟨kd, tx, ps⟩) := Lib.hid ht; clear ht hbw
                          by_cases hmj : m = j0
                          . subst hmj
                            have HLs := Lib.hid (lessL_no (i := m) (j := kt) hkl (.inl rfl)); have eb : ((m : Int) != (m : Int)) = false := by simp
                            have HX := Lib.hid hown; clear hown; go_wp2_with fail; go_roundw
                            case rel => exact ⟨m + 1, hkl, by go_num, by rw [HLs.out]; exact HX.out.alloc _, HBw.out.alloc HBw.out.size _⟩
                            case measure => simp [intOf]; omega
                          . have eb : ((m : Int) != (j0 : Int)) = true := by simp; omega
                            by_cases hmk : m = kt
                            . subst hmk
                              have HLs := Lib.hid (lessL_no (i := j0) (j := m) hkl (.inr rfl)); have eb2 : ((m : Int) != (m : Int)) = false := by simp
                              have HX := Lib.hid hown; clear hown; go_wp2_with fail; go_roundw
                              case rel => exact ⟨m + 1, hkl, by go_num, by rw [HLs.out]; exact HX.out.alloc _, HBw.out.alloc HBw.out.size _⟩
                              case measure => simp [intOf]; omega
                            . have eb2 : ((m : Int) != (kt : Int)) = true := by simp; omega
                              have HLs : Hid (lessL toks j0 kt (m + 1) = lessL toks j0 kt m ++ [⟨kd, tx, ps⟩]) := Lib.hid (by rw [lessL_yes hkl hmj hmk, HLm.out])
                              go_wp2_with (with_reducible first | refine stop_append ?_)
                              refine Stop.out ?_; refine wpList_append_tok rfl _ _ rfl wk.heap.size (lessL toks j0 kt m) ⟨kd, tx, ps⟩ (by exact (hown.alloc _).alloc _) (wr.heap.size + 1) (by rfl) (by exact two_cell _ _ _ _ 0 _ rfl) (by exact two_cell _ _ _ _ 1 _ rfl) (by exact two_cell _ _ _ _ 2 _ rfl) (by have := lessL_len toks HJ.out m hk; omega) (by have := HBw.out.size; simp; omega) wk (by exact (HBw.out.alloc HBw.out.size _).alloc (by have := HBw.out.size; simp; omega) _) ?_
                              intro v' w' hown' hb' hg'; obtain ⟨a2, c2, rfl⟩ := hown'.len; have HX := Lib.hid (And.intro hown' hb'); clear hown' hb' hg' hown; go_wp2_with fail; go_roundw
                              case rel => exact ⟨m + 1, hkl, by go_num, by rw [HLs.out]; first | exact HX.out.1 | simpa using HX.out.1, HX.out.2⟩
                              case measure => simp [intOf]; omega
                        . obtain rfl : m = toks.length := by omega
                          clear hbw; have hll := lessL_len toks HJ.out toks.length (Nat.le_refl _); rw [if_pos hj0, if_pos hktl] at hll; have HMem := Lib.hid (fun t ht => lessL_mem toks (i := j0) (j := kt) toks.length (Nat.le_refl _) t ht); generalize lessL toks j0 kt toks.length = L at *; have hPr := rfParse_any wr _ L hown.toks (fun t ht => by have := HTk.out.2.2.1 t (HMem.out t ht); omega) (fun t ht => HTk.out.2.1 t (HMem.out t ht))
                          have HOth := Lib.hid (fun h0 => less_other (x := x0) (toks := toks) (L := L) HTk.out.1 (by omega) h0)
                          have HBr := Lib.hid (HB6.out.trans (HBw.out.mono HB6.out.size)); have hcr := HC6.out.below HBw.out HC6.out.lt; have hLl : L.length <= 60000 := by omega
                          have HCR := Lib.hid hcr; have hzr := hcr.lt; obtain ⟨⟨y0, m0, e0⟩, hr⟩ : ∃ r, parE L = r := ⟨_, rfl⟩; rw [hr] at hPr HOth; clear hr hown HMem hll HJ hcr hktl hj0; generalize L.length = nl at *; go_wp2_with fail; refine hPr.mono ?_; clear hPr; rintro _ w9 ⟨hb9, o2, t2, a2, n2, c2, rfl, hX2⟩; simp only [Nat.zero_add]; have HB9 := Lib.hid (HBr.out.trans (hb9.mono HBr.out.size)); have hc9 := HCR.out.below hb9 hzr; have hz9 := hc9.lt; have HX2 := Lib.hid hX2; clear hb9 hX2 HCR; have hc9c0 := hc9.cell 0 _ rfl; have hc9f0 := hc9.frozen 0; have hc9c1 := hc9.cell 1 _ rfl; have hc9f1 := hc9.frozen 1; have hc9c2 := hc9.cell 2 _ rfl; have hc9f2 := hc9.frozen 2; clear hc9
                          by_cases he : e0 = 0
                          . subst he
                            have hne : y0 ≠ x0 := HOth.out rfl; have hY := ExpIn.at _ _ (HX2.out rfl); have hsm := fun W (hW : Below w9.heap.size w9 W) => SameP.fix (b := false) (Iff.intro (fun h => by cases h) (fun h => absurd h hne)) (rSame_any y0 x0 W _ _ (ExpAt.below hW _ _ hY) (ExpAt.below (HB9.out.trans (hW.mono HB9.out.size)) _ _ HV0.out))
                            simp only [vX] at hsm; clear hY hne HX2 HOth; have hb9' := (HB9.out.alloc HB9.out.size (.cells (gotA o2 t2 (.slice a2 n2 c2) (m0 : Nat) 0) 39)); have HB10 := Lib.hid hb9'; clear hb9'; go_wp2_with fail
                            all_goals first
                              | (refine (hsm _ ((Below.refl _ _).alloc (Nat.le_refl _) _)).mono ?_
                                 rintro _ w10 ⟨rfl, hb10⟩; have HB11 := Lib.hid (HB10.out.trans (hb10.mono HB10.out.size)); clear hsm hb10; go_wp2_with fail; go_ret
                                 exact ⟨rfl, HB11.out⟩)
                              | (go_ret
                                 exact ⟨rfl, HB10.out⟩)
                          . have heb : (e0 != 0) = true := by simpa using he
                            have HB10 := Lib.hid (HB9.out.alloc HB9.out.size (.cells (gotA o2 t2 (.slice a2 n2 c2) (m0 : Nat) e0) 39)); clear HX2 HOth; go_wp2_with fail; go_ret; exact ⟨rfl, HB10.out⟩
                    . obtain ⟨e, rfl⟩ : ∃ e, d = e + 1 := ⟨d - 1, by omega⟩
                      have kq : IntKind.i64.wrap ((e : Int) + 1 - 1) = (e : Int) := by rw [IntWalk.i64_in _ (by omega)]; omega
                      have HG : Hid (FI toks j0 (k + 1) e) := Lib.hid (by rcases g3 with h | h; exact absurd h he0; exact h)
                      have heb : ((e : Int) == 0) = false := by simp; omega
                      clear g3; go_wp2_with fail; go_roundw
                      case rel => exact ⟨k + 1, e, rfl, by go_num, by go_num, hkl, by omega, HG, by first | trivial | rfl⟩
                      case measure => simp [intOf]; omega
                  . have hTb2 : (tx.toList == [41]) = false := by have := str_ne hT; rwa [show (⟨#[41]⟩ : ByteArray).toList = [41] by rw [ByteArray.toList_eq]] at this
                    have HG : Hid (FI toks j0 (k + 1) d) := Lib.hid (HF.out.no hj0 HLP.out.2 hkl HLl.out (by rw [HLr.out, decide_eq_false hT, Bool.and_false]))
                    clear hT; go_wp2_with fail; go_roundw
                    case rel => exact ⟨k + 1, d, rfl, by go_num, by go_num, hkl, by omega, HG, by first | trivial | rfl⟩
                    case measure => simp [intOf]; omega
              . have hKb : (kd == 4) = false := by simpa using hK
                have HG : Hid (FI toks j0 (k + 1) d) := Lib.hid (HF.out.no hj0 HLP.out.2 hkl (by rw [HLl.out, decide_eq_false hK]; rfl) (by rw [HLr.out, decide_eq_false hK]; rfl))
                clear hK; go_wp2_with fail; go_roundw
                case rel => exact ⟨k + 1, d, rfl, by go_num, by go_num, hkl, by omega, HG, by first | trivial | rfl⟩
                case measure => simp [intOf]; omega
    . have e2 : (shE x0 != 0) = true := by
        unfold shE
        by_cases hr : rightX x0 = true
        . rw [if_pos hr, if_neg (fun h => hok ⟨hr, h⟩)]; rfl
        . rw [if_neg hr]; rfl
      clear hok; go_wp2_with fail; go_ret; exact ⟨rfl, HB4.out⟩
end Go.Proofs.YthbhknfhmkhfgaaGreatDoor
namespace Go.Proofs.YthbhknfhmkhfgaaGreatDoor
set_option maxRecDepth 100000
set_option maxHeartbeats 20000000
open Go.RowKit Go.Tab Go.ChangeShapes
section
variable {H : Type} {enc : TypeId × Value -> H} {W : World} {base : Nat} {spare : Nat -> Bool} {held : Bool}
end
end Go.Proofs.YthbhknfhmkhfgaaGreatDoor
