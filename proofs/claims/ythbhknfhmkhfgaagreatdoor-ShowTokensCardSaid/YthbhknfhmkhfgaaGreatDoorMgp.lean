/- Texts of this claim, one behind the other: RfG, RfH, ShT, ShV, ShE, ShB, ShLt, ToX. -/
import Derived.Test.YthbhknfhmkhfgaaGreatDoorMgb
import Derived.Test.YthbhknfhmkhfgaaGreatDoorMgf
import Derived.Test.YthbhknfhmkhfgaaGreatDoorMgi
import Derived.Test.YthbhknfhmkhfgaaGreatDoorMgj
import Derived.Test.YthbhknfhmkhfgaaGreatDoorMgl
import Derived.Test.YthbhknfhmkhfgaaGreatDoorMgn
import Derived.Test.YthbhknfhmkhfgaaGreatDoorMgo
set_option linter.unusedSimpArgs false
set_option linter.unusedVariables false
namespace Go.Proofs.YthbhknfhmkhfgaaGreatDoor
set_option maxRecDepth 100000
set_option maxHeartbeats 20000000
open Go.RowKit Go.Tab
theorem mloop_no : ∀ (m : Nat) (s : ByteArray) (L : List Exp) (r : List Tok) (d : Nat), (parX m (.mloop s L) r d).2.2 = 0 -> ∃ ks, (parX m (.mloop s L) r d).1 = .mk oNo oNo ks
 | 0, s, L, r, d, h => by rw [parX] at h; cases h
 | m + 1, s, L, r, d, h => by
  rw [parX] at h ⊢
  by_cases h1 : (parX m .choice r (d + 1)).2.2 = 0
  ·rw [andX_ok h1] at h ⊢
   by_cases h2 : isS (r.drop (parX m .choice r (d + 1)).2.1) sComma = true
   ·rw [if_pos h2] at h ⊢
    exact mloop_no m s _ _ _ h
   ·rw [if_neg h2] at h ⊢
    by_cases h3 : isS (r.drop (parX m .choice r (d + 1)).2.1) s = true
    ·rw [if_pos h3]; exact ⟨_, rfl⟩
    ·rw [if_neg h3] at h
     unfold badX at h; split at h <;> cases h
  ·rw [andX_bad h1] at h
   exact absurd h h1
theorem many_no (m : Nat) (s : ByteArray) (r : List Tok) (d : Nat) (h : (parX m (.many s) r d).2.2 = 0) : ∃ ks, (parX m (.many s) r d).1 = .mk oNo oNo ks := by
 cases m with
 | zero => rw [parX] at h; cases h
 | succ m =>
  rw [parX] at h ⊢
  by_cases h1 : 64 <= d
  ·rw [if_pos h1] at h; cases h
  ·rw [if_neg h1] at h ⊢
   by_cases h2 : isS (r.drop 1) s = true
   ·rw [if_pos h2]; exact ⟨_, rfl⟩
   ·rw [if_neg h2] at h ⊢
    exact mloop_no m s _ _ _ h
theorem ExpIn.named {P : Nat -> Prop} {w : World} {o t o1 t1 : ByteArray} {ks : List Exp} {sl : Value} (h : ExpIn P w (.mk o t ks) (expV o1 t1 sl)) (o2 t2 : ByteArray) : ExpIn P w (.mk o2 t2 ks) (expV o2 t2 sl) := by
 simp only [ExpIn] at h ⊢; obtain ⟨a, cap, h1, h2⟩ := h; simp only [List.cons.injEq, and_true] at h1; obtain ⟨-, -, rfl⟩ := h1; exact ⟨a, cap, rfl, h2⟩
theorem ExpIn.words {P : Nat -> Prop} {w : World} {o t o1 t1 : ByteArray} {ks : List Exp} {sl : Value} (h : ExpIn P w (.mk o t ks) (expV o1 t1 sl)) : o1 = o /\ t1 = t := by
 simp only [ExpIn] at h; obtain ⟨a, cap, h1, h2⟩ := h; simp only [List.cons.injEq, and_true, Value.string.injEq] at h1; exact ⟨h1.1, h1.2.1⟩
theorem quo_scan (s x : ByteArray) (h : quoX s = some x) : ∃ p e : Int, partV (scanQ (bs s)) = .agg #[.string x, .int .i64 p, .int .i64 e] := by
 unfold quoX at h; unfold partV; rw [show bs s = nb s.data.toList from rfl]; split at h
 ·simp only [Option.some.injEq] at h
  subst h; exact ⟨_, _, rfl⟩
 ·cases h
theorem rfPrime_step (m : Nat) (hM : MC m) (hC : CC m) : QC (m + 1) := by
 intro w lv l k d h hk hd hne; obtain ⟨a, c, rfl, hlc, hcm⟩ := h.sl; have hfew := h.few; unfold maxLen at hcm; have hA0 := At4.start h; obtain ⟨R, hR⟩ : ∃ R, R = parX (m + 1) .prime (l.drop k) d := ⟨_, rfl⟩; rw [<- hR] at hne ⊢; have hbad := rfBad_any (w.alloc (.cells zeroG 39)) (.slice a l.length c) l k hA0.l.toks hfew hk; have hbz : Hid ((badX (l.drop k) 0).2.2 ≠ 0) := Lib.hid (by unfold badX; split <;> simp)
 by_cases hkl : k < l.length
 ·have hdr : l.drop k = l[k] :: l.drop (k + 1) := List.drop_eq_getElem_cons hkl
  have hsg0 := fun s => rfSign_any (w.alloc (.cells zeroG 39)) (.slice a l.length c) l k s hA0.l.toks hfew (by omega)
  have hsg1 := fun s => rfSign_any (w.alloc (.cells zeroG 39)) (.slice a l.length c) l (k + 1) s hA0.l.toks hfew (by omega)
  rw [show ((k + 1 : Nat) : Int) = (k : Int) + 1 by omega] at hsg1
  obtain ⟨bb, off, rfl, hlt, q0, q1, q2⟩ := h.toks.get hkl; have hquo := h.quo l[k] (List.getElem_mem hkl); have hsh := h.short l[k] (List.getElem_mem hkl); have his : ∀ s, isS (l.drop k) s = (decide (l[k].kind = 4) && decide (l[k].text = s)) := fun s => by rw [hdr]; rfl
  rw [hdr, parX, <- hdr] at hR; obtain ⟨kd, hkd⟩ : ∃ z, l[k].kind = z := ⟨_, rfl⟩; obtain ⟨tx, htx⟩ : ∃ z, l[k].text = z := ⟨_, rfl⟩; simp only [hkd, htx] at hR his hquo hsh q0 q1; clear q2 hkd htx hdr; have HA0 := Lib.hid hA0; clear h hA0
  by_cases k1 : kd = 1
  ·subst k1
   have hlp : isS (l.drop k) sLp = false := by rw [his]; rfl
   have hlb : isS (l.drop k) sLb = false := by rw [his]; rfl
   rw [if_pos rfl] at hR
   by_cases hp1 : isS (l.drop (k + 1)) sLp = true
   ·rw [if_pos hp1] at hR
    have hk1 := isS_ltR hp1
    have hr2 : (parX m (.many sRp) (l.drop (k + 1)) d).2.2 ≠ -1 := by
     rw [hR] at hne; exact andX_ne2 (g := upX 1 (parX m (.many sRp) (l.drop (k + 1)) d)) hne
    have hno := many_no m sRp (l.drop (k + 1)) d; have hC2 := hM _ _ l (k + 1) d sRp HA0.out.l hk1 hd (.inl rfl) hr2; rw [show ((k + 1 : Nat) : Int) = (k : Int) + 1 by omega] at hC2
    generalize parX m (.many sRp) (l.drop (k + 1)) d = R2 at *; obtain ⟨x2, n2, e2⟩ := R2; simp only at hno hr2; have HR := Lib.hid hR; have HNO := Lib.hid hno; clear hR hno hr2 hne hbad his hquo hsh; go_enter Tryz.func127, Tryz.ntmps127; go_wp2_with (go_at_call 50; (first | with_reducible refine (hsg0 _).mono ?_ | with_reducible refine (hsg1 _).mono ?_); rintro _ _ ⟨rfl, rfl⟩; simp only [hlp, hlb, hp1])
    clear hsg0 hsg1; refine (hC2).mono ?_; clear hC2; rintro _ w6 ⟨hbX, o2, t2, a2, m2, c2, heX, hXX⟩; simp only at heX hXX; obtain ⟨p2, hp2⟩ : ∃ pz : Nat, pz = k + 1 + n2 := ⟨_, rfl⟩; rw [<- hp2] at heX; subst heX; have HP2 := Lib.hid hp2; clear hp2; have hA6 := HA0.out.go hbX; have hq6 := hA6.q; have hl6 := hq6.lt; have q6 := (hbX.cell (p := ⟨bb, off + k * 3 + 1, none⟩) (by simp only [World.size_alloc]; omega)).trans ((World.cell?_alloc_past _ _ _ hlt).trans q1)
    have hlt6 : bb < w6.heap.size := by have := hA6.b.size; omega
    have HX2 := Lib.hid (fun h => HA0.out.exp (hXX h)); have H6 := Lib.hid hA6; clear hbX hXX HA0 hA6 q0 q1
    by_cases he2 : e2 = 0
    ·subst he2
     obtain ⟨ks, hks⟩ := HNO.out (by first | trivial | rfl)
     subst hks; have hRR : Hid (R = (.mk oCall tx ks, 1 + n2, 0)) := Lib.hid (by rw [HR.out, andX_ok (by rfl)]; rfl)
     have hXn := (HX2.out (by first | trivial | rfl)).named oCall tx
     have HXn := Lib.hid hXn; clear HR hXn; have hq6c0 := hq6.cell 0 _ rfl; have hq6f0 := hq6.frozen 0; have hq6c1 := hq6.cell 1 _ rfl; have hq6f1 := hq6.frozen 1; have hq6c2 := hq6.cell 2 _ rfl; have hq6f2 := hq6.frozen 2; have hq6c3 := hq6.cell 3 _ rfl; have hq6f3 := hq6.frozen 3; have hq6c4 := hq6.cell 4 _ rfl; have hq6f4 := hq6.frozen 4; clear hq6; go_wp2_with fail; have hq := (((((H6.out.q.setI 0 (.string oCall)).setI 1 (.string tx)).setI 2 (.slice a2 m2 c2)).setI 3 (.int .i64 p2)).setI 4 (.int .i64 0)).alloc (.cells (gotA oCall tx (.slice a2 m2 c2) p2 0) 39); have hbb := far_one (vs := [.string oCall, .string tx, .slice a2 m2 c2, .int .i64 p2, .int .i64 0]) H6.out.b (.cells (gotA oCall tx (.slice a2 m2 c2) p2 0) 39); have zz0 := hq.cell 0 _ rfl; have zz1 := hq.cell 1 _ rfl; have zz2 := hq.cell 2 _ rfl; have zz3 := hq.cell 3 _ rfl; have zz4 := hq.cell 4 _ rfl; refine bodyPost_ret (v := .agg (#[.string oCall, .string tx, .slice a2 m2 c2, .int .i64 p2, .int .i64 0])) (by simp [results, Tryz.results127, go_sem, zz0, zz1, zz2, zz3, zz4]) rfl ?_
     rw [hRR.out]; have hxx := far_exp1 (vs := [.string oCall, .string tx, .slice a2 m2 c2, .int .i64 p2, .int .i64 0]) HXn.out (.cells (gotA oCall tx (.slice a2 m2 c2) p2 0) 39); exact gp_mk (r := (.mk oCall tx ks, 1 + n2, 0)) (by simp only; have := HP2.out; omega) rfl hbb (fun _ => hxx)
    ·have e0 : (e2 == 0) = false := by simpa using he2
     have hRR : Hid (R = (zeroX, 1 + n2, e2)) := Lib.hid (by rw [HR.out, andX_bad (by exact he2)]; rfl)
     clear HR; have hq6c0 := hq6.cell 0 _ rfl; have hq6f0 := hq6.frozen 0; have hq6c1 := hq6.cell 1 _ rfl; have hq6f1 := hq6.frozen 1; have hq6c2 := hq6.cell 2 _ rfl; have hq6f2 := hq6.frozen 2; have hq6c3 := hq6.cell 3 _ rfl; have hq6f3 := hq6.frozen 3; have hq6c4 := hq6.cell 4 _ rfl; have hq6f4 := hq6.frozen 4; clear hq6; go_wp2_with fail; have hq := (((((H6.out.q.setI 0 (.string o2)).setI 1 (.string t2)).setI 2 (.slice a2 m2 c2)).setI 3 (.int .i64 p2)).setI 4 (.int .i64 e2)).alloc (.cells (gotA o2 t2 (.slice a2 m2 c2) p2 e2) 39); have hbb := far_one (vs := [.string o2, .string t2, .slice a2 m2 c2, .int .i64 p2, .int .i64 e2]) H6.out.b (.cells (gotA o2 t2 (.slice a2 m2 c2) p2 e2) 39); have zz0 := hq.cell 0 _ rfl; have zz1 := hq.cell 1 _ rfl; have zz2 := hq.cell 2 _ rfl; have zz3 := hq.cell 3 _ rfl; have zz4 := hq.cell 4 _ rfl; refine bodyPost_ret (v := .agg (#[.string o2, .string t2, .slice a2 m2 c2, .int .i64 p2, .int .i64 e2])) (by simp [results, Tryz.results127, go_sem, zz0, zz1, zz2, zz3, zz4]) rfl ?_
     rw [hRR.out]; exact gp_mk (r := (zeroX, 1 + n2, e2)) (by simp only; have := HP2.out; omega) rfl hbb (fun h => absurd h he2)
   ·have hp1 : isS (l.drop (k + 1)) sLp = false := by simpa using hp1
    rw [if_neg (by rw [hp1]; decide)] at hR
    have HR := Lib.hid hR; clear hR hne hbad his hquo hsh; go_enter Tryz.func127, Tryz.ntmps127; go_wp2_with (go_at_call 50; (first | with_reducible refine (hsg0 _).mono ?_ | with_reducible refine (hsg1 _).mono ?_); rintro _ _ ⟨rfl, rfl⟩; simp only [hlp, hlb, hp1])
    have hq := Cells.new w (gotA oName tx (.slice none 0 0) ((k : Int) + 1) 0) 39; have zz0 := hq.cell 0 _ rfl; have zz1 := hq.cell 1 _ rfl; have zz2 := hq.cell 2 _ rfl; have zz3 := hq.cell 3 _ rfl; have zz4 := hq.cell 4 _ rfl; refine bodyPost_ret (v := .agg (gotA oName tx (.slice none 0 0) ((k : Int) + 1) 0)) (by simp [results, Tryz.results127, go_sem, zz0, zz1, zz2, zz3, zz4]) rfl ?_
    rw [HR.out]; exact gp_mk (r := (.mk oName tx [], 1, 0)) (by simp only; omega) rfl ((Below.refl _ w).alloc (Nat.le_refl _) _) (fun _ => ExpIn.leaf _ _ _ _)
  ·rw [if_neg k1] at hR
   have k1b : (kd == 1) = false := by simpa using k1
   by_cases k2 : kd = 2
   ·subst k2
    have hlp : isS (l.drop k) sLp = false := by rw [his]; rfl
    have hlb : isS (l.drop k) sLb = false := by rw [his]; rfl
    rw [if_pos rfl] at hR; have HR := Lib.hid hR; clear hR hne hbad his hquo hsh hsg1 k1b k1; go_enter Tryz.func127, Tryz.ntmps127; go_wp2_with (go_at_call 50; (first | with_reducible refine (hsg0 _).mono ?_ | with_reducible refine (hsg1 _).mono ?_); rintro _ _ ⟨rfl, rfl⟩; simp only [hlp, hlb])
    have hq := Cells.new w (gotA oNum tx (.slice none 0 0) ((k : Int) + 1) 0) 39; have zz0 := hq.cell 0 _ rfl; have zz1 := hq.cell 1 _ rfl; have zz2 := hq.cell 2 _ rfl; have zz3 := hq.cell 3 _ rfl; have zz4 := hq.cell 4 _ rfl; refine bodyPost_ret (v := .agg (gotA oNum tx (.slice none 0 0) ((k : Int) + 1) 0)) (by simp [results, Tryz.results127, go_sem, zz0, zz1, zz2, zz3, zz4]) rfl ?_
    rw [HR.out]; exact gp_mk (r := (.mk oNum tx [], 1, 0)) (by simp only; omega) rfl ((Below.refl _ w).alloc (Nat.le_refl _) _) (fun _ => ExpIn.leaf _ _ _ _)
   ·rw [if_neg k2] at hR
    have k2b : (kd == 2) = false := by simpa using k2
    by_cases k3 : kd = 3
    ·subst k3
     have hlp : isS (l.drop k) sLp = false := by rw [his]; rfl
     have hlb : isS (l.drop k) sLb = false := by rw [his]; rfl
     rw [if_pos rfl] at hR
     obtain ⟨x, hx⟩ : ∃ x, quoX tx = some x := by
      cases hq : quoX tx with
      | none => exact absurd hq (hquo rfl)
      | some x => exact ⟨x, rfl⟩
     rw [hx] at hR; simp only at hR; obtain ⟨pp, ee, hpe⟩ := quo_scan tx x hx; have hsc := qrScan_any tx (w.alloc (.cells zeroG 39)) hsh; rw [hpe] at hsc; have HR := Lib.hid hR; clear hR hne hbad his hquo hsh hsg1 k1b k1 k2b k2 hx hpe; go_enter Tryz.func127, Tryz.ntmps127; go_wp2_with (go_at_call 50; (first | with_reducible refine (hsg0 _).mono ?_ | with_reducible refine (hsg1 _).mono ?_); rintro _ _ ⟨rfl, rfl⟩; simp only [hlp, hlb])
     refine hsc.mono ?_; clear hsc hsg0; have hfd : ∀ w : World, (Instr.field 87 (.agg #[.string x, .int .i64 pp, .int .i64 ee]) 0).run Tryz.prog w = .ok (.string x) w := fun _ => by kernel_rfl
     rintro _ w4 ⟨rfl, hbX⟩; have hA4 := HA0.out.go hbX; have hq4 := hA4.q; have hl4 := hq4.lt; have H4 := Lib.hid hA4; clear hA4 hbX q0 q1 HA0; have hq4c0 := hq4.cell 0 _ rfl; have hq4f0 := hq4.frozen 0; have hq4c1 := hq4.cell 1 _ rfl; have hq4f1 := hq4.frozen 1; have hq4c2 := hq4.cell 2 _ rfl; have hq4f2 := hq4.frozen 2; have hq4c3 := hq4.cell 3 _ rfl; have hq4f3 := hq4.frozen 3; have hq4c4 := hq4.cell 4 _ rfl; have hq4f4 := hq4.frozen 4; clear hq4; go_wp2_with fail; have hq := ((((H4.out.q.setI 0 (.string oText)).setI 1 (.string x)).setI 2 (.slice none 0 0)).setI 3 (.int .i64 ((k : Int) + 1))).setI 4 (.int .i64 0); have hbb := set_below H4.out.b [.string oText, .string x, .slice none 0 0, .int .i64 ((k : Int) + 1), .int .i64 0]; have zz0 := hq.cell 0 _ rfl; have zz1 := hq.cell 1 _ rfl; have zz2 := hq.cell 2 _ rfl; have zz3 := hq.cell 3 _ rfl; have zz4 := hq.cell 4 _ rfl; refine bodyPost_ret (v := .agg (#[.string oText, .string x, .slice none 0 0, .int .i64 ((k : Int) + 1), .int .i64 0])) (by simp [results, Tryz.results127, go_sem, zz0, zz1, zz2, zz3, zz4]) rfl ?_
     rw [HR.out]; exact gp_mk (r := (.mk oText x [], 1, 0)) (by simp only; omega) rfl hbb (fun _ => ExpIn.leaf _ _ _ _)
    ·rw [if_neg k3] at hR
     have k3b : (kd == 3) = false := by simpa using k3
     clear hsg1
     by_cases hlb : isS (l.drop k) sLb = true
     ·have hlp : isS (l.drop k) sLp = false := by
       rw [his] at hlb ⊢; simp only [Bool.and_eq_true, decide_eq_true_eq] at hlb; rw [hlb.2, hlb.1]; decide
      rw [if_pos hlb] at hR
      have hr2 : (parX m (.many sRb) (l.drop k) d).2.2 ≠ -1 := by
       rw [hR] at hne; exact andX_ne2 hne
      have hno := many_no m sRb (l.drop k) d; have hC2 := hM _ _ l k d sRb HA0.out.l hkl hd (.inr rfl) hr2; generalize parX m (.many sRb) (l.drop k) d = R2 at *; obtain ⟨x2, n2, e2⟩ := R2; simp only at hno hr2; have HR := Lib.hid hR; have HNO := Lib.hid hno; clear hR hno hr2 hne hbad his hquo hsh; go_enter Tryz.func127, Tryz.ntmps127; go_wp2_with (go_at_call 50; (first | with_reducible refine (hsg0 _).mono ?_ | with_reducible refine (hsg1 _).mono ?_); rintro _ _ ⟨rfl, rfl⟩; simp only [hlp, hlb])
      clear hsg0; refine (hC2).mono ?_; clear hC2; rintro _ w6 ⟨hbX, o2, t2, a2, m2, c2, heX, hXX⟩; simp only at heX hXX; obtain ⟨p2, hp2⟩ : ∃ pz : Nat, pz = k + n2 := ⟨_, rfl⟩; rw [<- hp2] at heX; subst heX; have HP2 := Lib.hid hp2; clear hp2; have hA6 := HA0.out.go hbX; have hq6 := hA6.q; have hl6 := hq6.lt; have HX2 := Lib.hid (fun h => HA0.out.exp (hXX h)); have H6 := Lib.hid hA6; clear hbX hXX HA0 hA6 q0 q1
      by_cases he2 : e2 = 0
      ·subst he2
       obtain ⟨ks, hks⟩ := HNO.out (by first | trivial | rfl)
       subst hks; obtain ⟨-, ht2⟩ := (HX2.out (by first | trivial | rfl)).words
       subst ht2; have hRR : Hid (R = (.mk oList oNo ks, n2, 0)) := Lib.hid (by rw [HR.out, andX_ok (by rfl)]; rfl)
       have hXn := (HX2.out (by first | trivial | rfl)).named oList oNo
       have HXn := Lib.hid hXn; clear HR hXn; have hq6c0 := hq6.cell 0 _ rfl; have hq6f0 := hq6.frozen 0; have hq6c1 := hq6.cell 1 _ rfl; have hq6f1 := hq6.frozen 1; have hq6c2 := hq6.cell 2 _ rfl; have hq6f2 := hq6.frozen 2; have hq6c3 := hq6.cell 3 _ rfl; have hq6f3 := hq6.frozen 3; have hq6c4 := hq6.cell 4 _ rfl; have hq6f4 := hq6.frozen 4; clear hq6; go_wp2_with fail; have hq := (((((H6.out.q.setI 0 (.string oList)).setI 1 (.string oNo)).setI 2 (.slice a2 m2 c2)).setI 3 (.int .i64 p2)).setI 4 (.int .i64 0)).alloc (.cells (gotA oList oNo (.slice a2 m2 c2) p2 0) 39); have hbb := far_one (vs := [.string oList, .string oNo, .slice a2 m2 c2, .int .i64 p2, .int .i64 0]) H6.out.b (.cells (gotA oList oNo (.slice a2 m2 c2) p2 0) 39); have zz0 := hq.cell 0 _ rfl; have zz1 := hq.cell 1 _ rfl; have zz2 := hq.cell 2 _ rfl; have zz3 := hq.cell 3 _ rfl; have zz4 := hq.cell 4 _ rfl; refine bodyPost_ret (v := .agg (#[.string oList, .string oNo, .slice a2 m2 c2, .int .i64 p2, .int .i64 0])) (by simp [results, Tryz.results127, go_sem, zz0, zz1, zz2, zz3, zz4]) rfl ?_
       rw [hRR.out]; have hxx := far_exp1 (vs := [.string oList, .string oNo, .slice a2 m2 c2, .int .i64 p2, .int .i64 0]) HXn.out (.cells (gotA oList oNo (.slice a2 m2 c2) p2 0) 39); exact gp_mk (r := (.mk oList oNo ks, n2, 0)) (by simp only; have := HP2.out; omega) rfl hbb (fun _ => hxx)
      ·have e0 : (e2 == 0) = false := by simpa using he2
       have hRR : Hid (R = (zeroX, n2, e2)) := Lib.hid (by rw [HR.out, andX_bad (by exact he2)])
       clear HR; have hq6c0 := hq6.cell 0 _ rfl; have hq6f0 := hq6.frozen 0; have hq6c1 := hq6.cell 1 _ rfl; have hq6f1 := hq6.frozen 1; have hq6c2 := hq6.cell 2 _ rfl; have hq6f2 := hq6.frozen 2; have hq6c3 := hq6.cell 3 _ rfl; have hq6f3 := hq6.frozen 3; have hq6c4 := hq6.cell 4 _ rfl; have hq6f4 := hq6.frozen 4; clear hq6; go_wp2_with fail; have hq := (((((H6.out.q.setI 0 (.string o2)).setI 1 (.string t2)).setI 2 (.slice a2 m2 c2)).setI 3 (.int .i64 p2)).setI 4 (.int .i64 e2)).alloc (.cells (gotA o2 t2 (.slice a2 m2 c2) p2 e2) 39); have hbb := far_one (vs := [.string o2, .string t2, .slice a2 m2 c2, .int .i64 p2, .int .i64 e2]) H6.out.b (.cells (gotA o2 t2 (.slice a2 m2 c2) p2 e2) 39); have zz0 := hq.cell 0 _ rfl; have zz1 := hq.cell 1 _ rfl; have zz2 := hq.cell 2 _ rfl; have zz3 := hq.cell 3 _ rfl; have zz4 := hq.cell 4 _ rfl; refine bodyPost_ret (v := .agg (#[.string o2, .string t2, .slice a2 m2 c2, .int .i64 p2, .int .i64 e2])) (by simp [results, Tryz.results127, go_sem, zz0, zz1, zz2, zz3, zz4]) rfl ?_
       rw [hRR.out]; exact gp_mk (r := (zeroX, n2, e2)) (by simp only; have := HP2.out; omega) rfl hbb (fun h => absurd h he2)
     ·have hlb : isS (l.drop k) sLb = false := by simpa using hlb
      rw [if_neg (by rw [hlb]; decide)] at hR
      by_cases hlp : isS (l.drop k) sLp = true
      ·rw [if_pos hlp] at hR
       by_cases hd64 : 64 <= d
       ·have hRR : Hid (R = (zeroX, 0, 5)) := Lib.hid (by rw [hR, if_pos hd64]; rfl)
        clear hR hne hbad his hquo hsh; go_enter Tryz.func127, Tryz.ntmps127; go_wp2_with (go_at_call 50; (first | with_reducible refine (hsg0 _).mono ?_ | with_reducible refine (hsg1 _).mono ?_); rintro _ _ ⟨rfl, rfl⟩; simp only [hlp])
        have hq := Cells.new w (gotA ⟨#[]⟩ ⟨#[]⟩ (.slice none 0 0) (k : Int) 5) 39; have zz0 := hq.cell 0 _ rfl; have zz1 := hq.cell 1 _ rfl; have zz2 := hq.cell 2 _ rfl; have zz3 := hq.cell 3 _ rfl; have zz4 := hq.cell 4 _ rfl; refine bodyPost_ret (v := .agg (gotA ⟨#[]⟩ ⟨#[]⟩ (.slice none 0 0) (k : Int) 5)) (by simp [results, Tryz.results127, go_sem, zz0, zz1, zz2, zz3, zz4]) rfl ?_
        rw [hRR.out]; exact gp_mk (r := (zeroX, 0, 5)) (by simp) rfl ((Below.refl _ w).alloc (Nat.le_refl _) _) (fun h => by cases h)
       ·rw [if_neg hd64] at hR
        have hr2 : (parX m .choice (l.drop (k + 1)) (d + 1)).2.2 ≠ -1 := by
         rw [hR] at hne; exact andX_ne2 (g := upX 1 (parX m .choice (l.drop (k + 1)) (d + 1))) hne
        have hle2 := (parX_le m .choice (l.drop (k + 1)) (d + 1) trivial hr2).1; rw [List.length_drop] at hle2; have hC2 := hC _ _ l (k + 1) (d + 1) HA0.out.l (by omega) (by omega) hr2
        rw [show ((k + 1 : Nat) : Int) = (k : Int) + 1 by omega, show ((d + 1 : Nat) : Int) = (d : Int) + 1 by omega] at hC2
        generalize parX m .choice (l.drop (k + 1)) (d + 1) = R2 at *; obtain ⟨x2, n2, e2⟩ := R2; simp only at hr2 hle2; have HR := Lib.hid hR; clear hR hr2 hne hbad his hquo hsh; go_enter Tryz.func127, Tryz.ntmps127; go_wp2_with (go_at_call 50; (first | with_reducible refine (hsg0 _).mono ?_ | with_reducible refine (hsg1 _).mono ?_); rintro _ _ ⟨rfl, rfl⟩; simp only [hlp])
        clear hsg0; refine (hC2).mono ?_; clear hC2; rintro _ w6 ⟨hbX, o2, t2, a2, m2, c2, heX, hXX⟩; simp only at heX hXX; obtain ⟨p2, hp2⟩ : ∃ pz : Nat, pz = k + 1 + n2 := ⟨_, rfl⟩; rw [<- hp2] at heX; subst heX; have HP2 := Lib.hid hp2; clear hp2; have hA6 := HA0.out.go hbX; have hq6 := hA6.q; have hl6 := hq6.lt; have HX2 := Lib.hid (fun h => HA0.out.exp (hXX h)); have H6 := Lib.hid hA6; clear hbX hXX HA0 hA6 q0 q1
        by_cases he2 : e2 = 0
        ·subst he2
         have hp2l : p2 <= l.length := by have := HP2.out; omega
         have hsg := fun s => rfSign_any (w6.alloc (.cells (gotA o2 t2 (.slice a2 m2 c2) p2 0) 39)) (.slice (some ⟨bb, off, none⟩) l.length c) l p2 s (H6.out.next _).l.toks hfew (by omega)
         have hbad := rfBad_any (w6.alloc (.cells (gotA o2 t2 (.slice a2 m2 c2) p2 0) 39)) (.slice (some ⟨bb, off, none⟩) l.length c) l p2 (H6.out.next _).l.toks hfew hp2l
         have HR2 : Hid (R = if isS (l.drop p2) sRp = false then badX (l.drop p2) (1 + n2) else (x2, 1 + n2 + 1, 0)) := Lib.hid (by
          have hp2 := HP2.out; rw [HR.out, andX_ok (by rfl)]
          simp only [List.drop_drop, upX]
          rw [show k + (1 + n2) = p2 by omega])
         clear HR
         by_cases hrp : isS (l.drop p2) sRp = false
         ·have hRR : Hid (R = (zeroX, 1 + n2, (badX (l.drop p2) 0).2.2)) := Lib.hid (by rw [HR2.out, if_pos hrp, badX_n])
          have hbz : Hid ((badX (l.drop p2) 0).2.2 ≠ 0) := Lib.hid (by unfold badX; split <;> simp)
          generalize (badX (l.drop p2) 0).2.2 = eb at *; clear HR2; have hq6c0 := hq6.cell 0 _ rfl; have hq6f0 := hq6.frozen 0; have hq6c1 := hq6.cell 1 _ rfl; have hq6f1 := hq6.frozen 1; have hq6c2 := hq6.cell 2 _ rfl; have hq6f2 := hq6.frozen 2; have hq6c3 := hq6.cell 3 _ rfl; have hq6f3 := hq6.frozen 3; have hq6c4 := hq6.cell 4 _ rfl; have hq6f4 := hq6.frozen 4; clear hq6; go_wp2_with (go_at_call 50; refine (hsg _).mono ?_; rintro _ _ ⟨rfl, rfl⟩; simp only [hrp])
          refine hbad.mono ?_; clear hbad hsg hq6c0 hq6c1 hq6c2 hq6c3 hq6c4 hq6f0 hq6f1 hq6f2 hq6f3 hq6f4; rintro _ w8 ⟨rfl, hb8⟩; have hA8 := (H6.out.next (.cells (gotA o2 t2 (.slice a2 m2 c2) p2 0) 39)).go hb8; have hq8 := hA8.q; have hl8 := hq8.lt; have HA8 := Lib.hid hA8; clear hA8 hb8; have hq8c0 := hq8.cell 0 _ rfl; have hq8f0 := hq8.frozen 0; have hq8c1 := hq8.cell 1 _ rfl; have hq8f1 := hq8.frozen 1; have hq8c2 := hq8.cell 2 _ rfl; have hq8f2 := hq8.frozen 2; have hq8c3 := hq8.cell 3 _ rfl; have hq8f3 := hq8.frozen 3; have hq8c4 := hq8.cell 4 _ rfl; have hq8f4 := hq8.frozen 4; clear hq8; go_wp2_with fail; have hq := ((((HA8.out.q.setI 0 (.string ⟨#[]⟩)).setI 1 (.string ⟨#[]⟩)).setI 2 (.slice none 0 0)).setI 3 (.int .i64 p2)).setI 4 (.int .i64 eb); have hbb := set_below HA8.out.b [.string ⟨#[]⟩, .string ⟨#[]⟩, .slice none 0 0, .int .i64 p2, .int .i64 eb]; have zz0 := hq.cell 0 _ rfl; have zz1 := hq.cell 1 _ rfl; have zz2 := hq.cell 2 _ rfl; have zz3 := hq.cell 3 _ rfl; have zz4 := hq.cell 4 _ rfl; refine bodyPost_ret (v := .agg (#[.string ⟨#[]⟩, .string ⟨#[]⟩, .slice none 0 0, .int .i64 p2, .int .i64 eb])) (by simp [results, Tryz.results127, go_sem, zz0, zz1, zz2, zz3, zz4]) rfl ?_
          rw [hRR.out]; exact gp_mk (r := (zeroX, 1 + n2, eb)) (by simp only; have := HP2.out; omega) rfl hbb (fun h => absurd h hbz.out)
         ·have hrp : isS (l.drop p2) sRp = true := by simpa using hrp
          have hRR : Hid (R = (x2, 1 + n2 + 1, 0)) := Lib.hid (by rw [HR2.out, if_neg (by rw [hrp]; decide)])
          have HXn := Lib.hid (HX2.out (by first | trivial | rfl))
          clear HR2 hbad; have hq6c0 := hq6.cell 0 _ rfl; have hq6f0 := hq6.frozen 0; have hq6c1 := hq6.cell 1 _ rfl; have hq6f1 := hq6.frozen 1; have hq6c2 := hq6.cell 2 _ rfl; have hq6f2 := hq6.frozen 2; have hq6c3 := hq6.cell 3 _ rfl; have hq6f3 := hq6.frozen 3; have hq6c4 := hq6.cell 4 _ rfl; have hq6f4 := hq6.frozen 4; clear hq6; go_wp2_with (go_at_call 50; refine (hsg _).mono ?_; rintro _ _ ⟨rfl, rfl⟩; simp only [hrp])
          have hq := (((((H6.out.q.setI 0 (.string o2)).setI 1 (.string t2)).setI 2 (.slice a2 m2 c2)).setI 3 (.int .i64 ((p2 : Int) + 1))).setI 4 (.int .i64 0)).alloc (.cells (gotA o2 t2 (.slice a2 m2 c2) p2 0) 39); have hbb := far_one (vs := [.string o2, .string t2, .slice a2 m2 c2, .int .i64 ((p2 : Int) + 1), .int .i64 0]) H6.out.b (.cells (gotA o2 t2 (.slice a2 m2 c2) p2 0) 39); have zz0 := hq.cell 0 _ rfl; have zz1 := hq.cell 1 _ rfl; have zz2 := hq.cell 2 _ rfl; have zz3 := hq.cell 3 _ rfl; have zz4 := hq.cell 4 _ rfl; refine bodyPost_ret (v := .agg (#[.string o2, .string t2, .slice a2 m2 c2, .int .i64 ((p2 : Int) + 1), .int .i64 0])) (by simp [results, Tryz.results127, go_sem, zz0, zz1, zz2, zz3, zz4]) rfl ?_
          rw [hRR.out]; have hxx := far_exp1 (vs := [.string o2, .string t2, .slice a2 m2 c2, .int .i64 ((p2 : Int) + 1), .int .i64 0]) HXn.out (.cells (gotA o2 t2 (.slice a2 m2 c2) p2 0) 39); exact gp_mk (r := (x2, 1 + n2 + 1, 0)) (by simp only; have := HP2.out; omega) rfl hbb (fun _ => hxx)
        ·have e0 : (e2 != 0) = true := by simpa using he2
         have hRR : Hid (R = (zeroX, 1 + n2, e2)) := Lib.hid (by rw [HR.out, andX_bad (by exact he2)]; rfl)
         clear HR; have hq6c0 := hq6.cell 0 _ rfl; have hq6f0 := hq6.frozen 0; have hq6c1 := hq6.cell 1 _ rfl; have hq6f1 := hq6.frozen 1; have hq6c2 := hq6.cell 2 _ rfl; have hq6f2 := hq6.frozen 2; have hq6c3 := hq6.cell 3 _ rfl; have hq6f3 := hq6.frozen 3; have hq6c4 := hq6.cell 4 _ rfl; have hq6f4 := hq6.frozen 4; clear hq6; go_wp2_with fail; have hq := (((((H6.out.q.setI 0 (.string o2)).setI 1 (.string t2)).setI 2 (.slice a2 m2 c2)).setI 3 (.int .i64 p2)).setI 4 (.int .i64 e2)).alloc (.cells (gotA o2 t2 (.slice a2 m2 c2) p2 e2) 39); have hbb := far_one (vs := [.string o2, .string t2, .slice a2 m2 c2, .int .i64 p2, .int .i64 e2]) H6.out.b (.cells (gotA o2 t2 (.slice a2 m2 c2) p2 e2) 39); have zz0 := hq.cell 0 _ rfl; have zz1 := hq.cell 1 _ rfl; have zz2 := hq.cell 2 _ rfl; have zz3 := hq.cell 3 _ rfl; have zz4 := hq.cell 4 _ rfl; refine bodyPost_ret (v := .agg (#[.string o2, .string t2, .slice a2 m2 c2, .int .i64 p2, .int .i64 e2])) (by simp [results, Tryz.results127, go_sem, zz0, zz1, zz2, zz3, zz4]) rfl ?_
         rw [hRR.out]; exact gp_mk (r := (zeroX, 1 + n2, e2)) (by simp only; have := HP2.out; omega) rfl hbb (fun h => absurd h he2)
      ·have hlp : isS (l.drop k) sLp = false := by simpa using hlp
       rw [if_neg (by rw [hlp]; decide)] at hR
       have hRR : Hid (R = (zeroX, 0, (badX (l.drop k) 0).2.2)) := Lib.hid (by rw [hR, badX_n])
       generalize (badX (l.drop k) 0).2.2 = eb at *; clear hR hne his hquo hsh; go_enter Tryz.func127, Tryz.ntmps127; go_wp2_with (go_at_call 50; (first | with_reducible refine (hsg0 _).mono ?_ | with_reducible refine (hsg1 _).mono ?_); rintro _ _ ⟨rfl, rfl⟩; simp only [hlp, hlb])
       refine hbad.mono ?_; clear hbad hsg0; rintro _ w8 ⟨rfl, hb8⟩; have hA8 := HA0.out.go hb8; have hq8 := hA8.q; have hl8 := hq8.lt; have HA8 := Lib.hid hA8; clear hA8 hb8 q0 q1; have hq8c0 := hq8.cell 0 _ rfl; have hq8f0 := hq8.frozen 0; have hq8c1 := hq8.cell 1 _ rfl; have hq8f1 := hq8.frozen 1; have hq8c2 := hq8.cell 2 _ rfl; have hq8f2 := hq8.frozen 2; have hq8c3 := hq8.cell 3 _ rfl; have hq8f3 := hq8.frozen 3; have hq8c4 := hq8.cell 4 _ rfl; have hq8f4 := hq8.frozen 4; clear hq8; go_wp2_with fail; have hq := ((((HA8.out.q.setI 0 (.string ⟨#[]⟩)).setI 1 (.string ⟨#[]⟩)).setI 2 (.slice none 0 0)).setI 3 (.int .i64 (k : Nat))).setI 4 (.int .i64 eb); have hbb := set_below HA8.out.b [.string ⟨#[]⟩, .string ⟨#[]⟩, .slice none 0 0, .int .i64 (k : Nat), .int .i64 eb]; have zz0 := hq.cell 0 _ rfl; have zz1 := hq.cell 1 _ rfl; have zz2 := hq.cell 2 _ rfl; have zz3 := hq.cell 3 _ rfl; have zz4 := hq.cell 4 _ rfl; refine bodyPost_ret (v := .agg (#[.string ⟨#[]⟩, .string ⟨#[]⟩, .slice none 0 0, .int .i64 (k : Nat), .int .i64 eb])) (by simp [results, Tryz.results127, go_sem, zz0, zz1, zz2, zz3, zz4]) rfl ?_
       rw [hRR.out]; exact gp_mk (r := (zeroX, 0, eb)) (by simp) rfl hbb (fun h => absurd h hbz.out)
 ·have hke : l.drop k = [] := List.drop_eq_nil_of_le (by omega)
  have hRR : Hid (R = (zeroX, 0, (badX (l.drop k) 0).2.2)) := Lib.hid (by rw [hR, hke, parX, badX_n])
  generalize (badX (l.drop k) 0).2.2 = eb at *; have HA0 := Lib.hid hA0; clear hR hne hA0 h; go_enter Tryz.func127, Tryz.ntmps127; go_wp2_with fail; refine hbad.mono ?_; clear hbad; rintro _ w8 ⟨rfl, hb8⟩; have hA8 := HA0.out.go hb8; have hq8 := hA8.q; have hl8 := hq8.lt; have HA8 := Lib.hid hA8; clear hA8 hb8; have hq8c0 := hq8.cell 0 _ rfl; have hq8f0 := hq8.frozen 0; have hq8c1 := hq8.cell 1 _ rfl; have hq8f1 := hq8.frozen 1; have hq8c2 := hq8.cell 2 _ rfl; have hq8f2 := hq8.frozen 2; have hq8c3 := hq8.cell 3 _ rfl; have hq8f3 := hq8.frozen 3; have hq8c4 := hq8.cell 4 _ rfl; have hq8f4 := hq8.frozen 4; clear hq8; go_wp2_with fail; have hq := ((((HA8.out.q.setI 0 (.string ⟨#[]⟩)).setI 1 (.string ⟨#[]⟩)).setI 2 (.slice none 0 0)).setI 3 (.int .i64 (k : Nat))).setI 4 (.int .i64 eb); have hbb := set_below HA8.out.b [.string ⟨#[]⟩, .string ⟨#[]⟩, .slice none 0 0, .int .i64 (k : Nat), .int .i64 eb]; have zz0 := hq.cell 0 _ rfl; have zz1 := hq.cell 1 _ rfl; have zz2 := hq.cell 2 _ rfl; have zz3 := hq.cell 3 _ rfl; have zz4 := hq.cell 4 _ rfl; refine bodyPost_ret (v := .agg (#[.string ⟨#[]⟩, .string ⟨#[]⟩, .slice none 0 0, .int .i64 (k : Nat), .int .i64 eb])) (by simp [results, Tryz.results127, go_sem, zz0, zz1, zz2, zz3, zz4]) rfl ?_
  rw [hRR.out]; exact gp_mk (r := (zeroX, 0, eb)) (by simp) rfl hbb (fun h => absurd h hbz.out)
theorem rf_steps : ∀ m, CC m /\ TC m /\ XC m /\ PC m /\ QC m /\ MC m := by
 intro m
 induction m using Nat.strongRecOn with
 | ind m ih =>
  cases m with
  | zero =>
   refine ⟨?_, ?_, ?_, ?_, ?_, ?_⟩
   ·intro w lv l k d _ _ _ hne; exact absurd (out_no _ _ _) hne
   ·intro w lv l k d n _ _ _ _ _ hne; exact absurd (out_no _ _ _) hne
   ·intro w lv l k d _ _ _ hne; exact absurd (out_no _ _ _) hne
   ·intro w lv l k d _ _ _ hne; exact absurd (out_no _ _ _) hne
   ·intro w lv l k d _ _ _ hne; exact absurd (out_no _ _ _) hne
   ·intro w lv l k d s _ _ _ _ hne; exact absurd (out_no _ _ _) hne
  | succ m =>
   have hm := ih m (Nat.lt_succ_self m); have hc : ∀ j, j <= m -> CC j := fun j hj => (ih j (by omega)).1
   have ht : ∀ j, j <= m -> TC j := fun j hj => (ih j (by omega)).2.1
   exact ⟨rfChoice_step m hm.2.1 hm.1, rfTerm_step m hm.2.2.1 ht, rfPrefix_step m hm.2.2.2.1 hm.2.2.1, rfPost_step m hm.2.2.2.2.1 hc, rfPrime_step m hm.2.2.2.2.2 hm.1, rfMany_step m hc⟩
theorem rfParse_any (w : World) (lv : Value) (l : List Tok) (h : ToksAt w lv l) (hsh : ∀ t ∈ l, t.text.size <= 1048576) (hq : ∀ t ∈ l, t.kind = 3 -> quoX t.text ≠ none) :
  Calls Tryz.prog 12 #[lv] w (GP 0 (parE l) w) := by
 obtain ⟨a0, c0, rfl, hl1, hl2, -⟩ := h.len; unfold maxLen at hl2
 by_cases hbig : 1000 < l.length
 ·have hR : parE l = (zeroX, 1000, 4) := by unfold parE; rw [if_pos hbig]
  have HR := Lib.hid hR; clear hR h hsh hq; go_enter Tryz.func12, Tryz.ntmps12; go_wp2_with fail; have hq := Cells.new w (gotA ⟨#[]⟩ ⟨#[]⟩ (.slice none 0 0) 1000 4) 39; have zz0 := hq.cell 0 _ rfl; have zz1 := hq.cell 1 _ rfl; have zz2 := hq.cell 2 _ rfl; have zz3 := hq.cell 3 _ rfl; have zz4 := hq.cell 4 _ rfl; refine bodyPost_ret (v := .agg (gotA ⟨#[]⟩ ⟨#[]⟩ (.slice none 0 0) 1000 4)) (by simp [results, Tryz.results12, go_sem, zz0, zz1, zz2, zz3, zz4]) rfl ?_
  rw [HR.out]; exact gp_mk (r := (zeroX, 1000, 4)) (by simp) rfl ((Below.refl _ w).alloc (Nat.le_refl _) _) (fun h => by cases h)
 ·have hf := parX_fine (fuelX .choice l) .choice l 0 (Nat.le_refl _) (by simp only [Nt.okX])
  have hR : parE l = if (parX (fuelX .choice l) .choice l 0).2.2 = 0 then parX (fuelX .choice l) .choice l 0 else (zeroX, (parX (fuelX .choice l) .choice l 0).2) := by unfold parE; rw [if_neg hbig]
  have hA0 := At4.start (w := w) (lv := .slice a0 l.length c0) (l := l) ⟨h, by omega, hsh, hq⟩
  have hDD := (rf_steps (fuelX .choice l)).1 _ _ l 0 0 hA0.l (by omega) (by omega) (by rw [List.drop_zero]; exact hf.1)
  rw [List.drop_zero] at hDD; generalize parX (fuelX .choice l) .choice l 0 = r at *; obtain ⟨x1, n1, e1⟩ := r; simp only at hR; have HR := Lib.hid hR; have HA0 := Lib.hid hA0; clear hR hf h hsh hq hA0; go_enter Tryz.func12, Tryz.ntmps12; go_wp2_with fail; refine hDD.mono ?_; clear hDD; rintro _ w4 ⟨hbX, o1, t1, a1, m1, c1, heX, hXX⟩; simp only [Nat.zero_add] at heX hXX; subst heX; have hA4 := HA0.out.go hbX; have HX1 := Lib.hid (fun h => HA0.out.exp (hXX h)); have hq4 := hA4.q; have hl4 := hq4.lt; have HA4 := Lib.hid hA4; clear hbX hXX HA0 hA4; have hq4c0 := hq4.cell 0 _ rfl; have hq4f0 := hq4.frozen 0; have hq4c1 := hq4.cell 1 _ rfl; have hq4f1 := hq4.frozen 1; have hq4c2 := hq4.cell 2 _ rfl; have hq4f2 := hq4.frozen 2; have hq4c3 := hq4.cell 3 _ rfl; have hq4f3 := hq4.frozen 3; have hq4c4 := hq4.cell 4 _ rfl; have hq4f4 := hq4.frozen 4; clear hq4; go_wp2_with fail; have hq := ((((HA4.out.q.setI 0 (.string o1)).setI 1 (.string t1)).setI 2 (.slice a1 m1 c1)).setI 3 (.int .i64 n1)).setI 4 (.int .i64 e1); have hbb := set_below HA4.out.b [.string o1, .string t1, .slice a1 m1 c1, .int .i64 n1, .int .i64 e1]; have zz0 := hq.cell 0 _ rfl; have zz1 := hq.cell 1 _ rfl; have zz2 := hq.cell 2 _ rfl; have zz3 := hq.cell 3 _ rfl; have zz4 := hq.cell 4 _ rfl; refine bodyPost_ret (v := .agg (#[.string o1, .string t1, .slice a1 m1 c1, .int .i64 n1, .int .i64 e1])) (by simp [results, Tryz.results12, go_sem, zz0, zz1, zz2, zz3, zz4]) rfl ?_
  rw [HR.out]
  by_cases he : e1 = 0
  ·rw [if_pos he]
   exact gp_mk (r := (x1, n1, e1)) (by simp) rfl hbb (fun h => set_exp (vs := [.string o1, .string t1, .slice a1 m1 c1, .int .i64 n1, .int .i64 e1]) (HX1.out h))
  ·rw [if_neg he]
   exact gp_mk (r := (zeroX, n1, e1)) (by simp) rfl hbb (fun h => absurd h he)
theorem print_toks {x : Exp} (hr : rightX x = true) : ∃ toks : List Tok, lexL (catP (pcX x)) 0 = (toks, (lexL (catP (pcX x)) 0).2.1, 0) /\ lexP (catP (pcX x)) = (toks, -1, 0) /\ toks.map np = prX x /\ parE toks = parE (prX x) /\ toks.length = (prX x).length /\ (parE (prX x) = (x, toks.length, 0) \/ (parE (prX x)).2.2 ≠ 0) /\
  (∀ t ∈ toks, t.kind = 3 -> quoX t.text ≠ none) /\ (∀ t ∈ toks, t.text.size <= wt (pcX x)) /\ toks.length <= wt (pcX x) := by
 obtain ⟨toks, h1, h2⟩ := lex_print hr
 have hz : (lexL (catP (pcX x)) 0).2.2 = 0 := by
  unfold lexP at h1; split at h1
  ·next h => exact h
  ·next h =>
   exfalso
   simp only [Prod.mk.injEq] at h1; exact h (by rw [h1.2])
 have h3 : (lexL (catP (pcX x)) 0).1 = toks := by
  unfold lexP at h1; rw [if_pos hz] at h1; exact (Prod.mk.injEq _ _ _ _ ▸ h1).1
 have h4 : parE toks = parE (prX x) := by rw [<- h2, parE_map np_kt]
 have h5 : toks.length = (prX x).length := by rw [<- h2, List.length_map]
 refine ⟨toks, ?_, h1, h2, h4, h5, ?_, ?_, (np_size (P := pcX x) h2).1, (np_size (P := pcX x) h2).2⟩
 ·rw [<- h3, <- hz]
 ·rcases parE_print hr with h | h | h
  ·exact .inl (by rw [h, h5])
  ·exact .inr (by rw [h]; decide)
  ·exact .inr (by rw [h]; decide)
 ·intro t ht
  exact lexL_quo _ _ 0 (Nat.le_refl _) t (by rw [h3]; exact ht)
theorem int_eq0 (e : Int) : (e == 0) = decide (e = 0) := by
 by_cases h : e = 0
 ·subst h; rfl
 ·rw [decide_eq_false h]; simpa using h
theorem Taken_any (x : Exp) (hr : rightX x = true) (hs : wtX x <= 300 /\ ShortX x) (w : World) : Calls Tryz.prog 15 #[.string (ptS (pcX x))] w fun e w' => e = .returned (.bool (decide ((parE (prX x)).2.2 = 0))) /\ Below w.heap.size w w' := by
 have hwt := wt_small hr hs; have hsz := ptS_size (pcX x); have hL := rLex_any (ptS (pcX x)) w (by omega)
 rw [ptS_list] at hL; obtain ⟨toks, h1, -, -, h4, -, -, h7, h8, h9⟩ := print_toks hr; obtain ⟨z, hz⟩ : ∃ z, (lexL (catP (pcX x)) 0).2.1 = z := ⟨_, rfl⟩; rw [h1, hz] at hL; rw [<- h4]; have HP := Lib.hid (fun (W : World) (lv : Value) (h : ToksAt W lv toks) => rfParse_any W lv toks h (fun t ht => by have := h8 t ht; omega) h7)
 generalize ptS (pcX x) = S at *; generalize parE toks = r at HP ⊢; obtain ⟨px, pn, pe⟩ := r; have hie := int_eq0 pe; clear h1 h4 h7 h8 h9 hz hsz hwt; go_enter Tryz.func15, Tryz.ntmps15; go_wp2_with fail; refine hL.mono ?_; clear hL; rintro _ w5 ⟨v, rfl, hown, hb5⟩; obtain ⟨va, vc, rfl⟩ := hown.len; have hfd : ∀ W : World, (Instr.field 32 (.agg #[.slice va toks.length vc, .int .i64 z, .int .i64 0]) 0).run Tryz.prog W = .ok (.slice va toks.length vc) W := fun _ => by kernel_rfl
 have hP := HP.out w5 _ hown.toks; have HB5 := Lib.hid hb5; clear hown HP hb5; go_wp2_with fail; refine hP.mono ?_; clear hP hfd; rintro _ w6 ⟨hb6, o, t, a, n, c, rfl, -⟩; have hf2 : ∀ W : World, (Instr.field 39 (.agg (gotA o t (.slice a n c) (pn : Int) pe)) 2).run Tryz.prog W = .ok (.int .i64 pe) W := fun _ => by kernel_rfl
 go_wp2_with fail; go_ret; exact ⟨rfl, HB5.out.trans (hb6.mono HB5.out.size)⟩
def xOne : Exp := .mk oNum ⟨#[49]⟩ []
def xTwo : Exp := .mk oNum ⟨#[50]⟩ []
def xThree : Exp := .mk oNum ⟨#[51]⟩ []
def xSum : Exp := .mk ⟨#[43]⟩ oNo [xOne, xTwo]
def xAll : Exp := .mk ⟨#[42]⟩ oNo [xSum, xThree]
theorem ExpAt.node2 {w : World} {o t o1 t1 o2 t2 : ByteArray} {s1 s2 : Value} {e1 e2 : Exp} {g : Nat} {T : TypeId} (h : Cells w g #[.string o1, .string t1, s1, .string o2, .string t2, s2] T) (h1 : ExpAt w e1 [.string o1, .string t1, s1]) (h2 : ExpAt w e2 [.string o2, .string t2, s2]) :
  ExpAt w (.mk o t [e1, e2]) [.string o, .string t, .slice (some ⟨g, 0, none⟩) 2 2] := by
 simp only [ExpAt, ExpsAt]; refine ⟨some ⟨g, 0, none⟩, 2, rfl, Nat.le_refl _, by unfold maxLen; simp, (fun h => by cases h), fun x hx _ => ?_⟩
 cases hx
 refine ⟨rfl, h.lt, ⟨_, fun j u hu => ?_, h1⟩, ⟨_, fun j u hu => ?_, h2⟩, trivial⟩
 ·match j, hu with
  | 0, hu => exact h.cell 0 _ (by simpa using hu)
  | 1, hu => exact h.cell 1 _ (by simpa using hu)
  | 2, hu => exact h.cell 2 _ (by simpa using hu)
  | j + 3, hu => simp at hu
 ·match j, hu with
  | 0, hu => exact h.cell 3 _ (by simpa using hu)
  | 1, hu => exact h.cell 4 _ (by simpa using hu)
  | 2, hu => exact h.cell 5 _ (by simpa using hu)
  | j + 3, hu => simp at hu
theorem leaf_at (w : World) (o t : ByteArray) : ExpAt w (.mk o t []) [.string o, .string t, .slice none 0 0] := ExpIn.at _ _ (ExpIn.leaf (fun _ => True) w o t)
theorem xAll_small : wtX xAll <= 300 /\ ShortX xAll := by
 refine ⟨by decide, ?_⟩
 simp only [xAll, xSum, xOne, xTwo, xThree, ShortX, ShortXs]; decide
theorem xAll_right : rightX xAll = true := by kernel_rfl
theorem xAll_par : (parE (prX xAll)).2.2 = 0 := by kernel_rfl
theorem xAll_text : ptS (pcX xAll) = ⟨#[40, 49, 32, 43, 32, 50, 41, 32, 42, 32, 51]⟩ := by kernel_rfl
theorem xAll_br : brX xAll = 1 := by kernel_rfl
theorem xAll_S : shS xAll = ⟨#[40, 49, 32, 43, 32, 50, 41, 32, 42, 32, 51]⟩ := by
 unfold shS; rw [if_pos ⟨xAll_right, xAll_par⟩, xAll_text]
theorem xAll_E : shE xAll = 0 := by
 unfold shE; rw [if_pos xAll_right, if_pos xAll_par]
theorem xAll_N : shN xAll = 1 := by
 unfold shN; rw [if_pos xAll_right, xAll_br]
theorem lawNum_any (s : ByteArray) (w : World) : Calls Tryz.prog 20 #[.string s] w fun e w' => e = .returned (.agg #[.string oNum, .string s, .slice none 0 0]) /\ Below w.heap.size w w' := by
 have hq := Cells.new w #[.string oNum, .string s, .slice none 0 0] 24; have hb : Below w.heap.size w (w.alloc (.cells #[.string oNum, .string s, .slice none 0 0] 24)) := (Below.refl _ w).alloc (Nat.le_refl _) _; have HQ := Lib.hid (And.intro hq hb); clear hq hb; go_enter Tryz.func20, Tryz.ntmps20; go_wp2; have hx := HQ.out.1.cell 0 _ rfl; have hy := HQ.out.1.cell 1 _ rfl; have hz := HQ.out.1.cell 2 _ rfl; refine bodyPost_ret (v := .agg #[.string oNum, .string s, .slice none 0 0]) (by simp [results, Tryz.results20, go_sem, hx, hy, hz]) rfl ?_
 exact ⟨rfl, HQ.out.2⟩
theorem wakes14_any (w : World) (hT : LexT w) : Calls Tryz.prog 7 #[] w fun e w' => e = .returned (.bool true) /\ Below w.heap.size w w' := by
 have hN := fun s W => lawNum_any s W; go_enter Tryz.func7, Tryz.ntmps7; go_wp2_with fail; refine (hN _ _).mono ?_; rintro _ wa ⟨rfl, ha⟩; go_wp2_with fail; refine (hN _ _).mono ?_; rintro _ wb ⟨rfl, hb⟩; go_wp2_with fail; refine (hN _ _).mono ?_; rintro _ w1 ⟨rfl, hb1⟩; have hcA : Cells (wb.alloc (.cells #[.string oNum, .string ⟨#[49]⟩, .slice none 0 0, .string oNum, .string ⟨#[50]⟩, .slice none 0 0] 24)) wb.heap.size #[.string oNum, .string ⟨#[49]⟩, .slice none 0 0, .string oNum, .string ⟨#[50]⟩, .slice none 0 0] 24 := Cells.new _ _ _; have hbA := (ha.trans (hb.mono ha.size)).alloc (ha.trans (hb.mono ha.size)).size (.cells #[.string oNum, .string ⟨#[49]⟩, .slice none 0 0, .string oNum, .string ⟨#[50]⟩, .slice none 0 0] 24); have hcB := hcA.below hb1 hcA.lt; have hbB := hbA.trans (hb1.mono hbA.size); have hcC := ((hcB.alloc (.cells #[.string ⟨#[43]⟩, .string ⟨#[]⟩, .slice (some ⟨wb.heap.size, 0, none⟩) 2 2, .string oNum, .string ⟨#[51]⟩, .slice none 0 0] 24)).alloc (.cells #[.string ⟨#[42]⟩, .string ⟨#[]⟩, .slice (some ⟨w1.heap.size, 0, none⟩) 2 2] 24)); have hcD := (Cells.new w1 #[.string ⟨#[43]⟩, .string ⟨#[]⟩, .slice (some ⟨wb.heap.size, 0, none⟩) 2 2, .string oNum, .string ⟨#[51]⟩, .slice none 0 0] 24).alloc (.cells #[.string ⟨#[42]⟩, .string ⟨#[]⟩, .slice (some ⟨w1.heap.size, 0, none⟩) 2 2] 24); have hcE := Cells.new (w1.alloc (.cells #[.string ⟨#[43]⟩, .string ⟨#[]⟩, .slice (some ⟨wb.heap.size, 0, none⟩) 2 2, .string oNum, .string ⟨#[51]⟩, .slice none 0 0] 24)) #[.string ⟨#[42]⟩, .string ⟨#[]⟩, .slice (some ⟨w1.heap.size, 0, none⟩) 2 2] 24
 have hbC := (hbB.alloc hbB.size (.cells #[.string ⟨#[43]⟩, .string ⟨#[]⟩, .slice (some ⟨wb.heap.size, 0, none⟩) 2 2, .string oNum, .string ⟨#[51]⟩, .slice none 0 0] 24)).alloc (by have := hbB.size; simp only [World.size_alloc]; omega) (.cells #[.string ⟨#[42]⟩, .string ⟨#[]⟩, .slice (some ⟨w1.heap.size, 0, none⟩) 2 2] 24)
 have hv : ExpAt _ xAll [.string ⟨#[42]⟩, .string ⟨#[]⟩, .slice (some ⟨w1.heap.size, 0, none⟩) 2 2] := ExpAt.node2 hcD (ExpAt.node2 hcC (leaf_at _ _ _) (leaf_at _ _ _)) (leaf_at _ _ _); have hS := showExpr_any xAll xAll_small _ _ (hT.below hbC) hv; rw [xAll_S, xAll_E] at hS; simp only [World.size_alloc] at hcE; simp only [vX] at hS; have hl := hcE.lt; have H := Lib.hid (And.intro hbC (And.intro hv hcE)); go_wp2_with fail; clear ha hb hb1 hcA hbA hcB hbB hcC hcD hv hbC hcE hN; refine hS.mono ?_; clear hS; rintro _ w5 ⟨rfl, hb5⟩; obtain ⟨hbC, hv, hcE⟩ := H.out; have hb05 := hbC.trans (hb5.mono hbC.size); have hB := Braces_any xAll xAll_small _ _ (hT.below hb05) (ExpAt.below hb5 _ _ hv); rw [xAll_N] at hB; simp only [vX] at hB; have hc5 := hcE.below hb5 hl; have hl5 := hc5.lt; have HB := Lib.hid hb05; clear H hbC hv hcE hb5 hb05; have hc5c0 := hc5.cell 0 _ rfl; have hc5f0 := hc5.frozen 0; have hc5c1 := hc5.cell 1 _ rfl; have hc5f1 := hc5.frozen 1; have hc5c2 := hc5.cell 2 _ rfl; have hc5f2 := hc5.frozen 2; clear hc5; go_wp2_with fail; refine hB.mono ?_; rintro _ w6 ⟨rfl, hb6⟩; go_wp2; go_ret; exact ⟨rfl, HB.out.trans (hb6.mono HB.out.size)⟩
end Go.Proofs.YthbhknfhmkhfgaaGreatDoor
namespace Go.Proofs.YthbhknfhmkhfgaaGreatDoor
set_option maxRecDepth 100000
set_option maxHeartbeats 20000000
def lpB (t : Tok) : Bool := decide (t.kind = 4) && decide (t.text = sLp)
def rpB (t : Tok) : Bool := decide (t.kind = 4) && decide (t.text = sRp)
def dpt (d : Nat) : List Tok -> Option Nat
 | [] => some d
 | t :: r => if lpB t then dpt (d + 1) r else if rpB t then (if d = 0 then none else dpt (d - 1) r) else dpt d r
def fnd (d : Nat) : List Tok -> Option Nat
 | [] => none
 | t :: r => if lpB t then (fnd (d + 1) r).map (· + 1) else if rpB t then (if d = 1 then some 0 else (fnd (d - 1) r).map (· + 1)) else (fnd d r).map (· + 1)
theorem fnd_some : ∀ (l : List Tok) (m d : Nat), 1 <= d -> dpt (m + d) l = some 0 -> ∃ j, fnd d l = some j /\ j < l.length
 | [], m, d, hd, h => by
  simp only [dpt, Option.some.injEq] at h; omega
 | t :: r, m, d, hd, h => by
  rw [dpt] at h; rw [fnd]; split at h
  ·rename_i h1
   rw [if_pos h1]; obtain ⟨j, h2, h3⟩ := fnd_some r m (d + 1) (by omega) h
   exact ⟨j + 1, by rw [h2]; rfl, by simp; omega⟩
  ·rename_i h1
   rw [if_neg h1]; split at h
   ·rename_i h4
    rw [if_pos h4]
    by_cases h5 : d = 1
    ·rw [if_pos h5]
     exact ⟨0, rfl, by simp⟩
    ·rw [if_neg h5]
     rw [if_neg (by omega)] at h
     obtain ⟨j, h2, h3⟩ := fnd_some r m (d - 1) (by omega) (by rw [show m + (d - 1) = m + d - 1 by omega]; exact h)
     exact ⟨j + 1, by rw [h2]; rfl, by simp; omega⟩
   ·rename_i h4
    rw [if_neg h4]; obtain ⟨j, h2, h3⟩ := fnd_some r m d hd h; exact ⟨j + 1, by rw [h2]; rfl, by simp; omega⟩
theorem dpt_drop : ∀ (l : List Tok) (d k : Nat), dpt d l = some 0 -> ∃ m, dpt m (l.drop k) = some 0
 | l, d, 0, h => ⟨d, h⟩
 | [], d, k + 1, h => ⟨d, h⟩
 | t :: r, d, k + 1, h => by
  rw [List.drop_succ_cons]; rw [dpt] at h; split at h
  ·exact dpt_drop r _ k h
  ·split at h
   ·split at h
    ·cases h
    ·exact dpt_drop r _ k h
   ·exact dpt_drop r _ k h
theorem shut {l : List Tok} (h : dpt 0 l = some 0) {k : Nat} (hk : k < l.length) (hp : lpB l[k] = true) : ∃ j, fnd 1 (l.drop (k + 1)) = some j /\ k + 1 + j < l.length := by
 obtain ⟨m, hm⟩ := dpt_drop l 0 k h; rw [List.drop_eq_getElem_cons hk, dpt, if_pos hp] at hm; obtain ⟨j, h1, h2⟩ := fnd_some _ m 1 (Nat.le_refl _) hm; rw [List.length_drop] at h2; exact ⟨j, h1, by omega⟩
end Go.Proofs.YthbhknfhmkhfgaaGreatDoor
namespace Go.Proofs.YthbhknfhmkhfgaaGreatDoor
set_option maxRecDepth 100000
set_option maxHeartbeats 20000000
open Go.RowKit Go.Tab
end Go.Proofs.YthbhknfhmkhfgaaGreatDoor
namespace Go.Proofs.YthbhknfhmkhfgaaGreatDoor
set_option maxRecDepth 100000
set_option maxHeartbeats 20000000
open Go.RowKit Go.Tab Go.ChangeShapes
def FitK (l : List Tok) : Prop := l.length <= 140737488351232 /\ ∀ t ∈ l, t.text.size <= 140737488351232
theorem len3t {α : Type} {l : List α} (h : l.length = 3) : ∃ a b c, l = [a, b, c] := by
 match l, h with
 | [a, b, c], _ => exact ⟨a, b, c, rfl⟩
section
variable {H : Type} {enc : TypeId × Value -> H} {W : World} {base : Nat} {spare : Nat -> Bool} {held : Bool}
theorem toks_of : ∀ (l : List (DataW H)) (b off : Nat) (h : ∀ i (hi : i < l.length), ∃ t : Tok, W.cell? ⟨b, off + i * 3, none⟩ = some (.int .i64 t.kind) /\ W.cell? ⟨b, off + i * 3 + 1, none⟩ = some (.string t.text) /\ W.cell? ⟨b, off + i * 3 + 2, none⟩ = some (.int .i64 t.pos) /\ ((∀ m ∈ l[i].weights Tryz.prog 36, m <= reachBytes) -> t.text.size <= 140737488351232)),
  ∃ ts : List Tok, ts.length = l.length /\ (∀ j (hj : j < ts.length), W.cell? ⟨b, off + j * 3, none⟩ = some (.int .i64 ts[j].kind) /\ W.cell? ⟨b, off + j * 3 + 1, none⟩ = some (.string ts[j].text) /\ W.cell? ⟨b, off + j * 3 + 2, none⟩ = some (.int .i64 ts[j].pos)) /\ ((∀ m ∈ DataW.weightsAll Tryz.prog 36 l, m <= reachBytes) -> ∀ t ∈ ts, t.text.size <= 140737488351232)
 | [], b, off, h => ⟨[], rfl, fun j hj => absurd hj (by simp), fun _ t ht => by cases ht⟩
 | d :: r, b, off, h => by
  obtain ⟨t, h1, h2, h3, h4⟩ := h 0 (by simp)
  obtain ⟨ts, g1, g2, g4⟩ := toks_of r b (off + 3) (fun i hi => by
   obtain ⟨t, k1, k2, k3, k4⟩ := h (i + 1) (by simp; omega)
   have e : off + (i + 1) * 3 = off + 3 + i * 3 := by omega
   rw [e] at k1 k2 k3
   exact ⟨t, k1, k2, k3, by simpa using k4⟩)
  refine ⟨t :: ts, by simp [g1], fun j hj => ?_, fun hw u hu => ?_⟩
  ·cases j with
   | zero => simp only [Nat.zero_mul, Nat.add_zero] at h1 h2 h3 ⊢; exact ⟨h1, h2, h3⟩
   | succ j =>
    have e : off + (j + 1) * 3 = off + 3 + j * 3 := by omega
    rw [e]; exact g2 j (by simpa using hj)
  ·simp only [DataW.weightsAll, List.mem_append] at hw
   rcases List.mem_cons.1 hu with rfl | hu
   ·exact h4 (fun m hm => hw m (.inl (by simpa using hm)))
   ·exact g4 (fun m hm => hw m (.inr hm)) u hu
theorem Tryz.byTok : Tryz.prog.bytesOf 36 = 32 := by kernel_rfl
theorem Tryz.uTok : ∃ f0 f1 f2 : Field, Tryz.prog.underlying 36 = some (.struct #[f0, f1, f2]) /\ f0.type = 3 /\ f0.offset = 0 /\ f1.type = 9 /\ f1.offset = 1 /\ f2.type = 3 /\ f2.offset = 2 :=
 ⟨_, _, _, Tryz.underlying36, rfl, rfl, rfl, rfl, rfl, rfl⟩
theorem Tryz.ctInt : Tryz.prog.cellsOf 3 = 1 := by kernel_rfl
theorem Tryz.ctStr : Tryz.prog.cellsOf 9 = 1 := by kernel_rfl
theorem Tryz.ctTok : Tryz.prog.cellsOf 36 = 3 := by kernel_rfl
theorem tok_open (n : Nat) (cs : List Value) (x : DataW H × List MemPlace) (h : DataW.trod enc Tryz.prog W base spare held n 36 cs = some x) : ∃ t : Tok, cs = [.int .i64 t.kind, .string t.text, .int .i64 t.pos] /\ ((∀ m ∈ x.1.weights Tryz.prog 36, m <= reachBytes) -> t.text.size <= 140737488351232) := by
 obtain ⟨f0, f1, f2, hu, t0, o0, t1, o1, t2, o2⟩ := Tryz.uTok; obtain ⟨xs, n1, rfl, rfl, hlen, hxl, hf⟩ := DataW.trod_struct hu h; rw [Tryz.ctTok] at hlen; obtain ⟨c0, c1, c2, rfl⟩ := len3t hlen; obtain ⟨y0, y1, y2, rfl⟩ := len3t (by simpa using hxl)
 have e0 := hf 0 f0 rfl; have e1 := hf 1 f1 rfl; have e2 := hf 2 f2 rfl; rw [t0, o0, Tryz.ctInt] at e0; rw [t1, o1, Tryz.ctStr] at e1; rw [t2, o2, Tryz.ctInt] at e2; simp at e0 e1 e2
 obtain ⟨k0, g0, rfl, -⟩ := DataW.trod_int Tryz.underlying3 e0; obtain ⟨name, g1, rfl, hname⟩ := DataW.trod_string Tryz.underlying9 e1; obtain ⟨k2, g2, rfl, -⟩ := DataW.trod_int Tryz.underlying3 e2; simp at g0 g1 g2
 subst g0 g1 g2; refine ⟨⟨k0, name, k2⟩, rfl, fun hw => ?_⟩; simp only [DataW.weights, hu, List.map_cons, List.map_nil, DataW.weightsEach, t0, t1, t2, List.mem_append, List.mem_cons, List.not_mem_nil, or_false, false_or] at hw; have e1 : name.size = name.data.toList.length := rfl; have k5 := hw name.data.toList.length (by simp)
 unfold reachBytes at k5; show name.size <= _; omega
theorem toks_open (n : Nat) (c : Value) (x : DataW H × List MemPlace) (h : DataW.trod enc Tryz.prog W base spare held n 30 [c] = some x) : ∃ l, ToksAt W c l /\ ((∀ m ∈ x.1.weights Tryz.prog 30, m <= reachBytes) -> FitK l) := by
 rcases DataW.trod_slice Tryz.underlying30 h with ⟨h1, h2⟩ | ⟨a, ln, cp, elems, rest, n3, hn3, h1, hx, hb, hl, hm, hel, hcell, -, -⟩
 ·simp at h1
  subst h1; exact ⟨[], ToksAt.nil, fun _ => ⟨by simp, fun t ht => by cases ht⟩⟩
 ·simp at h1
  subst h1
  have each : ∀ i, i < ln -> ∃ cs', W.cells? base (a.add (i * 3)) 3 = some cs' /\ DataW.trod enc Tryz.prog W base spare held n3 36 cs' = some (elems.getD i (.nil, [])) := fun i hi => by
   have := hcell i hi; rw [Tryz.ctTok, List.getElem?_eq_getElem (by omega)] at this
   obtain ⟨cs', r1, r2⟩ := Option.bind_eq_some_iff.1 this; exact ⟨cs', r1, by rw [r2, List.getD_eq_getElem?_getD, List.getElem?_eq_getElem (by omega)]; rfl⟩
  by_cases h0 : ln = 0
  ·subst h0
   exact ⟨[], ⟨some a, cp, rfl, hl, hm, (fun h => by cases h), fun x _ h => absurd rfl h⟩, fun _ => ⟨by simp, fun t ht => by cases ht⟩⟩
  ·have hsp : a.spot = none := by
    obtain ⟨cs', r1, r2⟩ := each 0 (by omega)
    obtain ⟨l1, l2⟩ := cells_at r1; obtain ⟨u0, u1, u2, rfl⟩ := len3t l1; have := World.cell?_spot (l2 0 u0 rfl)
    simpa [Addr.add] using this
   obtain ⟨bb, off, sp⟩ := a; simp only at hsp; subst hsp
   have hlt : bb < W.heap.size := by
    obtain ⟨cs', r1, r2⟩ := each 0 (by omega)
    obtain ⟨l1, l2⟩ := cells_at r1; obtain ⟨u0, u1, u2, rfl⟩ := len3t l1; have := World.block_lt_of_cell? W _ (l2 0 u0 rfl)
    simpa [Addr.add] using this
   obtain ⟨ts, r1, r2, r4⟩ := toks_of (H := H) (W := W) (elems.map (·.1)) bb off (fun i hi => by
    simp at hi
    obtain ⟨cs', r1, r2⟩ := each i (by omega)
    obtain ⟨l1, l2⟩ := cells_at r1; obtain ⟨t, rfl, v3⟩ := tok_open n3 cs' _ r2; have q0 := l2 0 _ rfl; have q1 := l2 1 _ rfl; have q2 := l2 2 _ rfl; rw [Addr.add_lit, Addr.add_lit] at q0 q1 q2; refine ⟨t, q0, q1, q2, ?_⟩; rw [List.getD_eq_getElem?_getD, List.getElem?_eq_getElem hi] at v3
    simpa using v3)
   simp at r1
   refine ⟨ts, ⟨some ⟨bb, off, none⟩, cp, by rw [r1, hel], by omega, hm, (fun h => by cases h), (fun x hx _ => by cases hx; exact ⟨rfl, hlt, r2⟩)⟩, fun hw => ?_⟩
   rw [hx] at hw; simp only [DataW.weights, Tryz.underlying30, Tryz.byTok, List.mem_cons, List.mem_append] at hw; refine ⟨?_, r4 (fun m hm => hw m (.inr (.inl hm)))⟩; have := hw _ (.inl rfl); simp only [List.length_map] at this; unfold reachBytes at this; omega
end
end Go.Proofs.YthbhknfhmkhfgaaGreatDoor
