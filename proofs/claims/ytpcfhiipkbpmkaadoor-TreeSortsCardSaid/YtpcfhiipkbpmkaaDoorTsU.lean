/- The walk of TreeRights (layer 8). -/
import Derived.Test.YtpcfhiipkbpmkaaDoorTsZ
import Derived.Test.YtpcfhiipkbpmkaaDoorTsQ
import Derived.Test.YtpcfhiipkbpmkaaDoorTsW
import Derived.Test.YtpcfhiipkbpmkaaDoorTreS
import Derived.Test.YtpcfhiipkbpmkaaDoorTreD
import Derived.Test.YtpcfhiipkbpmkaaDoorTreL
namespace Go.Proofs.YtpcfhiipkbpmkaaDoor
open Go.RowKit Go.Tab

theorem rSort_upto (n : Nat) : RSort n := by
  induction n with
  | zero => intro t h; have := bulk_pos t; omega
  | succ n IH =>
    intro t h hmax hw w cs hv
    cases t with
    | mk kind is neg d e s ks kids =>
      by_cases h6 : kind = 6
      · subst h6; exact rSort_obj n IH is neg d e s ks kids h hmax hw w cs hv
      · exact rSort_not n IH kind is neg d e s ks kids h hmax hw h6 w cs hv
theorem rSort_any (t : Tree) (hb : t.bulk ≤ 1048576) (hw : wholeT t) (w : World) (cs : List Value) (hv : ValAt w t cs) : Calls Tryd.prog 30 #[valV cs] w (CopyP (sortT t) w) :=
  rSort_upto t.bulk t (Nat.le_refl _) hb hw w cs hv
theorem rSame_two (t : Tree) (w : World) (cs ds : List Value) (hv : ValAt w t cs) (hv2 : ValAt w t ds) : Calls Tryd.prog 18 #[valV cs, valV ds] w fun e w' => e = .returned (.bool true) ∧ Below w.heap.size w w' :=
  SameP.fix (b := true) (yes_iff rfl) (rSame_any t t w cs ds hv hv2)
theorem ValAt.shapeT {w : World} {t : Tree} {cs : List Value} (h : ValAt w t cs) :
    ∃ kind is neg digits exp str ka kn kc sa sn sc, cs = [.int .i64 kind, .bool is, .bool neg, .string digits, .int .i64 exp, .string str, .slice ka kn kc, .slice sa sn sc] := ValAt.shapeQ h

set_option linter.unusedSimpArgs false in
set_option maxHeartbeats 8000000 in
set_option maxRecDepth 100000 in
theorem TreeRights_walk (c0 : List Value) (t0 : Tree) (w : World) (w0 : ValAt w t0 c0) (hT : Tab w) (hf : Fits t0) :
    Calls Tryd.prog 6 #[valV c0] w fun e w' => e = .returned (.bool true) ∧ Below w.heap.size w w' := by
  have HV0 := Lib.hid w0
  obtain ⟨kind, is, neg, digits, exp, str, ka, kn, kc, sa, sn, sc, rfl⟩ := ValAt.shapeT w0
  clear w0
  have hb0 : Below w.heap.size w (w.alloc (.cells #[.int .i64 kind, .bool is, .bool neg, .string digits, .int .i64 exp, .string str, .slice ka kn kc, .slice sa sn sc] 27)) := (Below.refl _ w).alloc (Nat.le_refl _) _
  have hwk := twakes_any _ (hT.below hb0 hT.pos)
  clear hb0
  simp only [valV]
  go_enter Tryd.func6, Tryd.ntmps6
  go_wp2_with fail
  refine hwk.mono ?_
  clear hwk
  rintro e w3 ⟨rfl, hb3⟩
  obtain ⟨h2, hz3, hbw⟩ := one_new hb3
  clear hb3
  have hG := Great_any t0 hf w3 _ (ValAt.below hbw _ _ HV0.out)
  have l2 := h2.lt
  have H := Lib.hid (And.intro h2 hbw)
  simp only [valV] at hG
  have h2c0 := h2.cell 0 _ rfl
  have h2f0 := h2.frozen 0
  have h2c1 := h2.cell 1 _ rfl
  have h2f1 := h2.frozen 1
  have h2c2 := h2.cell 2 _ rfl
  have h2f2 := h2.frozen 2
  have h2c3 := h2.cell 3 _ rfl
  have h2f3 := h2.frozen 3
  have h2c4 := h2.cell 4 _ rfl
  have h2f4 := h2.frozen 4
  have h2c5 := h2.cell 5 _ rfl
  have h2f5 := h2.frozen 5
  have h2c6 := h2.cell 6 _ rfl
  have h2f6 := h2.frozen 6
  have h2c7 := h2.cell 7 _ rfl
  have h2f7 := h2.frozen 7
  clear h2 hbw
  go_wp2_with fail
  refine hG.mono ?_
  clear hG h2c0 h2c1 h2c2 h2c3 h2c4 h2c5 h2c6 h2c7 h2f0 h2f1 h2f2 h2f3 h2f4 h2f5 h2f6 h2f7
  rintro e w4 ⟨⟨b, rfl, hgb⟩, hb4⟩
  obtain ⟨h2, hbw⟩ := H.out
  replace h2 := h2.below hb4 l2
  replace hbw := hbw.trans (hb4.mono hbw.size)
  clear H hb4 l2
  have l2 := h2.lt
  have HGB := Lib.hid hgb
  clear hgb
  cases b
  · have hkt : t0.bulk ≤ 20000 := HGB.out (by trivial)
    clear HGB
    obtain ⟨br, hbr⟩ := some_bool (rightT 64 t0)
    have hR1 := fun (x : Under w4) => Under.call x (SameP.fix hbr (Right_any t0 (by omega) x.w (hT.below (hbw.trans (x.below.mono hbw.size)) hT.pos) _ (ValAt.below (hbw.trans (x.below.mono hbw.size)) _ _ HV0.out)))
    have hR2 := fun (x : Under w4) => Under.call x (SameP.fix hbr (rRight_any t0 (by omega) x.w _ (ValAt.below (hbw.trans (x.below.mono hbw.size)) _ _ HV0.out)))
    have hD1 := fun (x : Under w4) => Under.call x (Deep_any t0.bulk t0 (Nat.le_refl _) (by omega) x.w _ (ValAt.below (hbw.trans (x.below.mono hbw.size)) _ _ HV0.out))
    have hD2 := fun (x : Under w4) => Under.call x (rDeep_any t0.bulk t0 (Nat.le_refl _) (by omega) x.w _ (ValAt.below (hbw.trans (x.below.mono hbw.size)) _ _ HV0.out))
    have HBR := Lib.hid hbr
    have HW := Lib.hid (right_iff 64 t0)
    clear hbr
    generalize deep t0 = dp at *
    have U0 := fun x : Under w4 => (x.below.cell (p := ⟨w.heap.size, 0, none⟩) l2).trans (h2.cell 0 _ rfl)
    have U1 := fun x : Under w4 => (x.below.cell (p := ⟨w.heap.size, 1, none⟩) l2).trans (h2.cell 1 _ rfl)
    have U2 := fun x : Under w4 => (x.below.cell (p := ⟨w.heap.size, 2, none⟩) l2).trans (h2.cell 2 _ rfl)
    have U3 := fun x : Under w4 => (x.below.cell (p := ⟨w.heap.size, 3, none⟩) l2).trans (h2.cell 3 _ rfl)
    have U4 := fun x : Under w4 => (x.below.cell (p := ⟨w.heap.size, 4, none⟩) l2).trans (h2.cell 4 _ rfl)
    have U5 := fun x : Under w4 => (x.below.cell (p := ⟨w.heap.size, 5, none⟩) l2).trans (h2.cell 5 _ rfl)
    have U6 := fun x : Under w4 => (x.below.cell (p := ⟨w.heap.size, 6, none⟩) l2).trans (h2.cell 6 _ rfl)
    have U7 := fun x : Under w4 => (x.below.cell (p := ⟨w.heap.size, 7, none⟩) l2).trans (h2.cell 7 _ rfl)
    simp only [valV] at hR1 hR2 hD1 hD2
    go_wp2_with fail
    refine wp_region_under w4 (by kernel_rfl) (by kernel_rfl) (Below.refl _ _) ?_
    repeat (go_big_quiet_step (first | (go_at_call 25; exact hR1 _) | (go_at_call 26; exact hR2 _) | (go_at_call 27; exact hD1 _) | (go_at_call 28; exact hD2 _)))
    refine wpQuiet_nil ?_
    rintro _ ⟨x, rfl⟩
    have hbx := hbw.trans (x.below.mono hbw.size)
    have h5 := h2.below x.below l2
    have hS := Sort_any t0 (by omega) x.w (hT.below hbx hT.pos) _ (ValAt.below hbx _ _ HV0.out)
    clear U0 U1 U2 U3 U4 U5 U6 U7 hR1 hR2 hD1 hD2 h2 l2 hbw
    obtain ⟨w5, hbx5, h5', hS'⟩ : ∃ w5, w5 = x.w ∧ Cells w5 w.heap.size #[.int .i64 kind, .bool is, .bool neg, .string digits, .int .i64 exp, .string str, .slice ka kn kc, .slice sa sn sc] 27 ∧ Calls Tryd.prog 29 #[valV [.int .i64 kind, .bool is, .bool neg, .string digits, .int .i64 exp, .string str, .slice ka kn kc, .slice sa sn sc]] w5 (SortP t0 w5) := ⟨_, rfl, h5, hS⟩
    rw [← hbx5] at hbx ⊢
    clear hbx5 h5 hS x
    have h5 := h5'
    have hS := hS'
    clear h5' hS'
    have l5 := h5.lt
    have H := Lib.hid (And.intro h5 hbx)
    simp only [valV] at hS
    have h5c0 := h5.cell 0 _ rfl
    have h5f0 := h5.frozen 0
    have h5c1 := h5.cell 1 _ rfl
    have h5f1 := h5.frozen 1
    have h5c2 := h5.cell 2 _ rfl
    have h5f2 := h5.frozen 2
    have h5c3 := h5.cell 3 _ rfl
    have h5f3 := h5.frozen 3
    have h5c4 := h5.cell 4 _ rfl
    have h5f4 := h5.frozen 4
    have h5c5 := h5.cell 5 _ rfl
    have h5f5 := h5.frozen 5
    have h5c6 := h5.cell 6 _ rfl
    have h5f6 := h5.frozen 6
    have h5c7 := h5.cell 7 _ rfl
    have h5f7 := h5.frozen 7
    clear h5 hbx
    go_wp2_with fail
    refine hS.mono ?_
    clear hS h5c0 h5c1 h5c2 h5c3 h5c4 h5c5 h5c6 h5c7 h5f0 h5f1 h5f2 h5f3 h5f4 h5f5 h5f6 h5f7
    rintro e w6 ⟨⟨cs6, s6, rfl, hv6, hy6, hn6⟩, hb6⟩
    obtain ⟨kind6, is6, neg6, dig6, exp6, str6, ka6, kn6, kc6, sa6, sn6, sc6, rfl⟩ := ValAt.shapeT hv6
    obtain ⟨h5, hbx⟩ := H.out
    have h6 := h5.below hb6 l5
    have hb7 : Below w6.heap.size w6 (w6.alloc (.cells #[.int .i64 kind6, .bool is6, .bool neg6, .string dig6, .int .i64 exp6, .string str6, .slice ka6 kn6 kc6, .slice sa6 sn6 sc6] 27)) := (Below.refl _ _).alloc (Nat.le_refl _) _
    have h7 := h6.below hb7 h6.lt
    have k7 := Cells.new w6 #[.int .i64 kind6, .bool is6, .bool neg6, .string dig6, .int .i64 exp6, .string str6, .slice ka6 kn6 kc6, .slice sa6 sn6 sc6] 27
    have hv7 := ValAt.below hb7 _ _ hv6
    have hbw7 := (hbx.trans (hb6.mono hbx.size)).trans (hb7.mono (hbx.trans (hb6.mono hbx.size)).size)
    have hR := SameP.fix HBR.out (rRight_any t0 (by omega) _ _ (ValAt.below hbw7 _ _ HV0.out))
    clear H h5 hbx hb6 l5 h6 hb7 hv6
    simp only [valV] at hR ⊢
    have l7 := h7.lt
    have m7 := k7.lt
    have H := Lib.hid (And.intro h7 (And.intro k7 (And.intro hv7 hbw7)))
    have h7c0 := h7.cell 0 _ rfl
    have h7f0 := h7.frozen 0
    have h7c1 := h7.cell 1 _ rfl
    have h7f1 := h7.frozen 1
    have h7c2 := h7.cell 2 _ rfl
    have h7f2 := h7.frozen 2
    have h7c3 := h7.cell 3 _ rfl
    have h7f3 := h7.frozen 3
    have h7c4 := h7.cell 4 _ rfl
    have h7f4 := h7.frozen 4
    have h7c5 := h7.cell 5 _ rfl
    have h7f5 := h7.frozen 5
    have h7c6 := h7.cell 6 _ rfl
    have h7f6 := h7.frozen 6
    have h7c7 := h7.cell 7 _ rfl
    have h7f7 := h7.frozen 7
    clear h7 k7 hv7 hbw7
    go_wp2_with fail
    refine hR.mono ?_
    clear hR h7c0 h7c1 h7c2 h7c3 h7c4 h7c5 h7c6 h7c7 h7f0 h7f1 h7f2 h7f3 h7f4 h7f5 h7f6 h7f7
    rintro e w8 ⟨rfl, hb8⟩
    obtain ⟨h7, k7, hv7, hbw7⟩ := H.out
    have h8 := h7.below hb8 l7
    have k8 := k7.below hb8 m7
    have hv8 := ValAt.below hb8 _ _ hv7
    have hbw8 := hbw7.trans (hb8.mono hbw7.size)
    clear H h7 k7 hv7 hbw7 hb8 l7 m7
    have l8 := h8.lt
    have m8 := k8.lt
    cases br
    · have hs6 : s6 = t0 := hn6 (fun h => by have h3 := HBR.out.2 h; first | exact h3.elim | cases h3)
      subst hs6
      have hE := rSame_two s6 w8 _ _ hv8 (ValAt.below hbw8 _ _ HV0.out)
      have HB8 := Lib.hid hbw8
      simp only [valV] at hE
      have h8c0 := h8.cell 0 _ rfl
      have h8f0 := h8.frozen 0
      have h8c1 := h8.cell 1 _ rfl
      have h8f1 := h8.frozen 1
      have h8c2 := h8.cell 2 _ rfl
      have h8f2 := h8.frozen 2
      have h8c3 := h8.cell 3 _ rfl
      have h8f3 := h8.frozen 3
      have h8c4 := h8.cell 4 _ rfl
      have h8f4 := h8.frozen 4
      have h8c5 := h8.cell 5 _ rfl
      have h8f5 := h8.frozen 5
      have h8c6 := h8.cell 6 _ rfl
      have h8f6 := h8.frozen 6
      have h8c7 := h8.cell 7 _ rfl
      have h8f7 := h8.frozen 7
      have k8c0 := k8.cell 0 _ rfl
      have k8f0 := k8.frozen 0
      have k8c1 := k8.cell 1 _ rfl
      have k8f1 := k8.frozen 1
      have k8c2 := k8.cell 2 _ rfl
      have k8f2 := k8.frozen 2
      have k8c3 := k8.cell 3 _ rfl
      have k8f3 := k8.frozen 3
      have k8c4 := k8.cell 4 _ rfl
      have k8f4 := k8.frozen 4
      have k8c5 := k8.cell 5 _ rfl
      have k8f5 := k8.frozen 5
      have k8c6 := k8.cell 6 _ rfl
      have k8f6 := k8.frozen 6
      have k8c7 := k8.cell 7 _ rfl
      have k8f7 := k8.frozen 7
      clear h8 k8 hv8 hbw8
      go_wp2_with fail
      refine hE.mono ?_
      clear hE
      rintro e w9 ⟨rfl, hb9⟩
      have HB9 := Lib.hid (HB8.out.trans (hb9.mono HB8.out.size))
      clear hb9
      go_wp2_with fail
      go_ret
      exact ⟨rfl, HB9.out⟩
    · have hright : rightT 64 t0 := HBR.out.1 (by trivial)
      have hs6 := hy6 hright
      subst hs6
      have hwh := (HW.out.1 hright).2
      have hbk := sort_bulk 64 t0 hright
      have hrs := sort_right 64 t0 hright
      have hss := sort_sort 64 t0 hright
      have hRS := rSort_any t0 (by omega) hwh w8.drew _ (ValAt.below (hbw8.drew) _ _ HV0.out)
      have HB8 := Lib.hid hbw8
      have HT8 := Lib.hid hT
      have HV8 := Lib.hid hv8
      have HH := Lib.hid (And.intro h8 k8)
      have hs1 : w8.cell? ⟨w.heap.size, 0, none⟩ = some (.int .i64 kind) ∧ w8.cell? ⟨w.heap.size, 1, none⟩ = some (.bool is) ∧ w8.cell? ⟨w.heap.size, 2, none⟩ = some (.bool neg) ∧ w8.cell? ⟨w.heap.size, 3, none⟩ = some (.string digits) ∧ w8.cell? ⟨w.heap.size, 4, none⟩ = some (.int .i64 exp) ∧ w8.cell? ⟨w.heap.size, 5, none⟩ = some (.string str) ∧ w8.cell? ⟨w.heap.size, 6, none⟩ = some (.slice ka kn kc) ∧ w8.cell? ⟨w.heap.size, 7, none⟩ = some (.slice sa sn sc) ∧ w8.cell? ⟨w6.heap.size, 0, none⟩ = some (.int .i64 kind6) ∧ w8.cell? ⟨w6.heap.size, 1, none⟩ = some (.bool is6) ∧ w8.cell? ⟨w6.heap.size, 2, none⟩ = some (.bool neg6) ∧ w8.cell? ⟨w6.heap.size, 3, none⟩ = some (.string dig6) ∧ w8.cell? ⟨w6.heap.size, 4, none⟩ = some (.int .i64 exp6) ∧ w8.cell? ⟨w6.heap.size, 5, none⟩ = some (.string str6) ∧ w8.cell? ⟨w6.heap.size, 6, none⟩ = some (.slice ka6 kn6 kc6) ∧ w8.cell? ⟨w6.heap.size, 7, none⟩ = some (.slice sa6 sn6 sc6) := ⟨h8.cell 0 _ rfl, h8.cell 1 _ rfl, h8.cell 2 _ rfl, h8.cell 3 _ rfl, h8.cell 4 _ rfl, h8.cell 5 _ rfl, h8.cell 6 _ rfl, h8.cell 7 _ rfl, k8.cell 0 _ rfl, k8.cell 1 _ rfl, k8.cell 2 _ rfl, k8.cell 3 _ rfl, k8.cell 4 _ rfl, k8.cell 5 _ rfl, k8.cell 6 _ rfl, k8.cell 7 _ rfl⟩
      clear hy6 hn6 hwh hbw8 hv8 h8 k8 hT hf
      generalize hsT : sortT t0 = tS at *
      clear hsT
      simp only [valV] at hRS
      go_wp2_with fail
      go_region_held3 (fun w' => w'.cell? ⟨w.heap.size, 0, none⟩ = some (.int .i64 kind) ∧ w'.cell? ⟨w.heap.size, 1, none⟩ = some (.bool is) ∧ w'.cell? ⟨w.heap.size, 2, none⟩ = some (.bool neg) ∧ w'.cell? ⟨w.heap.size, 3, none⟩ = some (.string digits) ∧ w'.cell? ⟨w.heap.size, 4, none⟩ = some (.int .i64 exp) ∧ w'.cell? ⟨w.heap.size, 5, none⟩ = some (.string str) ∧ w'.cell? ⟨w.heap.size, 6, none⟩ = some (.slice ka kn kc) ∧ w'.cell? ⟨w.heap.size, 7, none⟩ = some (.slice sa sn sc) ∧ w'.cell? ⟨w6.heap.size, 0, none⟩ = some (.int .i64 kind6) ∧ w'.cell? ⟨w6.heap.size, 1, none⟩ = some (.bool is6) ∧ w'.cell? ⟨w6.heap.size, 2, none⟩ = some (.bool neg6) ∧ w'.cell? ⟨w6.heap.size, 3, none⟩ = some (.string dig6) ∧ w'.cell? ⟨w6.heap.size, 4, none⟩ = some (.int .i64 exp6) ∧ w'.cell? ⟨w6.heap.size, 5, none⟩ = some (.string str6) ∧ w'.cell? ⟨w6.heap.size, 6, none⟩ = some (.slice ka6 kn6 kc6) ∧ w'.cell? ⟨w6.heap.size, 7, none⟩ = some (.slice sa6 sn6 sc6)) (first | (with_reducible exact hs1) | (with_reducible exact hs2) | (with_reducible exact hs3) | (with_reducible exact hs4) | (with_reducible exact hs5) | (with_reducible exact hs6) | go_keep) (first
        | (go_at_call 30; refine hRS.mono ?_; rintro e wa ⟨⟨csa, rfl, hina⟩, hba⟩; obtain ⟨kindA, isA, negA, digA, expA, strA, kaA, knA, kcA, saA, snA, scA, rfl⟩ := ValIn.shape hina; have ca := HH.out.1.drew.below hba l8; have da := HH.out.2.drew.below hba m8; have hs2 : wa.cell? ⟨w.heap.size, 0, none⟩ = some (.int .i64 kind) ∧ wa.cell? ⟨w.heap.size, 1, none⟩ = some (.bool is) ∧ wa.cell? ⟨w.heap.size, 2, none⟩ = some (.bool neg) ∧ wa.cell? ⟨w.heap.size, 3, none⟩ = some (.string digits) ∧ wa.cell? ⟨w.heap.size, 4, none⟩ = some (.int .i64 exp) ∧ wa.cell? ⟨w.heap.size, 5, none⟩ = some (.string str) ∧ wa.cell? ⟨w.heap.size, 6, none⟩ = some (.slice ka kn kc) ∧ wa.cell? ⟨w.heap.size, 7, none⟩ = some (.slice sa sn sc) ∧ wa.cell? ⟨w6.heap.size, 0, none⟩ = some (.int .i64 kind6) ∧ wa.cell? ⟨w6.heap.size, 1, none⟩ = some (.bool is6) ∧ wa.cell? ⟨w6.heap.size, 2, none⟩ = some (.bool neg6) ∧ wa.cell? ⟨w6.heap.size, 3, none⟩ = some (.string dig6) ∧ wa.cell? ⟨w6.heap.size, 4, none⟩ = some (.int .i64 exp6) ∧ wa.cell? ⟨w6.heap.size, 5, none⟩ = some (.string str6) ∧ wa.cell? ⟨w6.heap.size, 6, none⟩ = some (.slice ka6 kn6 kc6) ∧ wa.cell? ⟨w6.heap.size, 7, none⟩ = some (.slice sa6 sn6 sc6) := ⟨ca.cell 0 _ rfl, ca.cell 1 _ rfl, ca.cell 2 _ rfl, ca.cell 3 _ rfl, ca.cell 4 _ rfl, ca.cell 5 _ rfl, ca.cell 6 _ rfl, ca.cell 7 _ rfl, da.cell 0 _ rfl, da.cell 1 _ rfl, da.cell 2 _ rfl, da.cell 3 _ rfl, da.cell 4 _ rfl, da.cell 5 _ rfl, da.cell 6 _ rfl, da.cell 7 _ rfl⟩; have hva := ValAt.below hba _ _ (ValAt.below (Below.refl _ w8).drew _ _ HV8.out); have hE1 := rSame_two tS wa _ _ hva (ValIn.at _ _ hina); have HBA := Lib.hid (HB8.out.drew.trans (hba.mono HB8.out.drew.size)); have HCA := Lib.hid (And.intro ca (And.intro da hva)); have la := ca.lt; have ma := da.lt; clear hba hina ca da hva hs1 hRS; simp only [valV] at hE1 ⊢)
        | (go_at_call 18; refine hE2.mono ?_; rintro e wd ⟨rfl, hbd⟩; have cd := HCC.out.1.below hbd lc; have dd := HCC.out.2.1.below hbd mc; have hs5 : wd.cell? ⟨w.heap.size, 0, none⟩ = some (.int .i64 kind) ∧ wd.cell? ⟨w.heap.size, 1, none⟩ = some (.bool is) ∧ wd.cell? ⟨w.heap.size, 2, none⟩ = some (.bool neg) ∧ wd.cell? ⟨w.heap.size, 3, none⟩ = some (.string digits) ∧ wd.cell? ⟨w.heap.size, 4, none⟩ = some (.int .i64 exp) ∧ wd.cell? ⟨w.heap.size, 5, none⟩ = some (.string str) ∧ wd.cell? ⟨w.heap.size, 6, none⟩ = some (.slice ka kn kc) ∧ wd.cell? ⟨w.heap.size, 7, none⟩ = some (.slice sa sn sc) ∧ wd.cell? ⟨w6.heap.size, 0, none⟩ = some (.int .i64 kind6) ∧ wd.cell? ⟨w6.heap.size, 1, none⟩ = some (.bool is6) ∧ wd.cell? ⟨w6.heap.size, 2, none⟩ = some (.bool neg6) ∧ wd.cell? ⟨w6.heap.size, 3, none⟩ = some (.string dig6) ∧ wd.cell? ⟨w6.heap.size, 4, none⟩ = some (.int .i64 exp6) ∧ wd.cell? ⟨w6.heap.size, 5, none⟩ = some (.string str6) ∧ wd.cell? ⟨w6.heap.size, 6, none⟩ = some (.slice ka6 kn6 kc6) ∧ wd.cell? ⟨w6.heap.size, 7, none⟩ = some (.slice sa6 sn6 sc6) := ⟨cd.cell 0 _ rfl, cd.cell 1 _ rfl, cd.cell 2 _ rfl, cd.cell 3 _ rfl, cd.cell 4 _ rfl, cd.cell 5 _ rfl, cd.cell 6 _ rfl, cd.cell 7 _ rfl, dd.cell 0 _ rfl, dd.cell 1 _ rfl, dd.cell 2 _ rfl, dd.cell 3 _ rfl, dd.cell 4 _ rfl, dd.cell 5 _ rfl, dd.cell 6 _ rfl, dd.cell 7 _ rfl⟩; have hvd := ValAt.below hbd _ _ HCC.out.2.2; have HBD := Lib.hid (HBC.out.trans (hbd.mono HBC.out.size)); have hR3 := SameP.fix (b := true) (yes_iff hrs) (Right_any tS (by omega) wd (HT8.out.below HBD.out HT8.out.pos) _ hvd); have HCD := Lib.hid (And.intro cd dd); have ld := cd.lt; have md := dd.lt; clear hbd cd dd hvd hs4 hE2; simp only [valV] at hR3 ⊢)
        | (go_at_call 18; refine hE1.mono ?_; rintro e wb ⟨rfl, hbb⟩; have cb := HCA.out.1.below hbb la; have db := HCA.out.2.1.below hbb ma; have hs3 : wb.cell? ⟨w.heap.size, 0, none⟩ = some (.int .i64 kind) ∧ wb.cell? ⟨w.heap.size, 1, none⟩ = some (.bool is) ∧ wb.cell? ⟨w.heap.size, 2, none⟩ = some (.bool neg) ∧ wb.cell? ⟨w.heap.size, 3, none⟩ = some (.string digits) ∧ wb.cell? ⟨w.heap.size, 4, none⟩ = some (.int .i64 exp) ∧ wb.cell? ⟨w.heap.size, 5, none⟩ = some (.string str) ∧ wb.cell? ⟨w.heap.size, 6, none⟩ = some (.slice ka kn kc) ∧ wb.cell? ⟨w.heap.size, 7, none⟩ = some (.slice sa sn sc) ∧ wb.cell? ⟨w6.heap.size, 0, none⟩ = some (.int .i64 kind6) ∧ wb.cell? ⟨w6.heap.size, 1, none⟩ = some (.bool is6) ∧ wb.cell? ⟨w6.heap.size, 2, none⟩ = some (.bool neg6) ∧ wb.cell? ⟨w6.heap.size, 3, none⟩ = some (.string dig6) ∧ wb.cell? ⟨w6.heap.size, 4, none⟩ = some (.int .i64 exp6) ∧ wb.cell? ⟨w6.heap.size, 5, none⟩ = some (.string str6) ∧ wb.cell? ⟨w6.heap.size, 6, none⟩ = some (.slice ka6 kn6 kc6) ∧ wb.cell? ⟨w6.heap.size, 7, none⟩ = some (.slice sa6 sn6 sc6) := ⟨cb.cell 0 _ rfl, cb.cell 1 _ rfl, cb.cell 2 _ rfl, cb.cell 3 _ rfl, cb.cell 4 _ rfl, cb.cell 5 _ rfl, cb.cell 6 _ rfl, cb.cell 7 _ rfl, db.cell 0 _ rfl, db.cell 1 _ rfl, db.cell 2 _ rfl, db.cell 3 _ rfl, db.cell 4 _ rfl, db.cell 5 _ rfl, db.cell 6 _ rfl, db.cell 7 _ rfl⟩; have hvb := ValAt.below hbb _ _ HCA.out.2.2; have HBB := Lib.hid (HBA.out.trans (hbb.mono HBA.out.size)); have hS2 := Sort_any tS (by omega) wb (HT8.out.below HBB.out HT8.out.pos) _ hvb; have HCB := Lib.hid (And.intro cb (And.intro db hvb)); have lb := cb.lt; have mb := db.lt; clear hbb cb db hvb hs2 hE1; simp only [valV] at hS2 ⊢)
        | (go_at_call 29; refine hS2.mono ?_; rintro e wc ⟨⟨csc, sc', rfl, hvc, hyc, hnc⟩, hbc⟩; obtain ⟨kindC, isC, negC, digC, expC, strC, kaC, knC, kcC, saC, snC, scC, rfl⟩ := ValAt.shapeT hvc; have ec : tS = sc' := ((hyc hrs).trans hss).symm; subst ec; have cc := HCB.out.1.below hbc lb; have dc := HCB.out.2.1.below hbc mb; have hs4 : wc.cell? ⟨w.heap.size, 0, none⟩ = some (.int .i64 kind) ∧ wc.cell? ⟨w.heap.size, 1, none⟩ = some (.bool is) ∧ wc.cell? ⟨w.heap.size, 2, none⟩ = some (.bool neg) ∧ wc.cell? ⟨w.heap.size, 3, none⟩ = some (.string digits) ∧ wc.cell? ⟨w.heap.size, 4, none⟩ = some (.int .i64 exp) ∧ wc.cell? ⟨w.heap.size, 5, none⟩ = some (.string str) ∧ wc.cell? ⟨w.heap.size, 6, none⟩ = some (.slice ka kn kc) ∧ wc.cell? ⟨w.heap.size, 7, none⟩ = some (.slice sa sn sc) ∧ wc.cell? ⟨w6.heap.size, 0, none⟩ = some (.int .i64 kind6) ∧ wc.cell? ⟨w6.heap.size, 1, none⟩ = some (.bool is6) ∧ wc.cell? ⟨w6.heap.size, 2, none⟩ = some (.bool neg6) ∧ wc.cell? ⟨w6.heap.size, 3, none⟩ = some (.string dig6) ∧ wc.cell? ⟨w6.heap.size, 4, none⟩ = some (.int .i64 exp6) ∧ wc.cell? ⟨w6.heap.size, 5, none⟩ = some (.string str6) ∧ wc.cell? ⟨w6.heap.size, 6, none⟩ = some (.slice ka6 kn6 kc6) ∧ wc.cell? ⟨w6.heap.size, 7, none⟩ = some (.slice sa6 sn6 sc6) := ⟨cc.cell 0 _ rfl, cc.cell 1 _ rfl, cc.cell 2 _ rfl, cc.cell 3 _ rfl, cc.cell 4 _ rfl, cc.cell 5 _ rfl, cc.cell 6 _ rfl, cc.cell 7 _ rfl, dc.cell 0 _ rfl, dc.cell 1 _ rfl, dc.cell 2 _ rfl, dc.cell 3 _ rfl, dc.cell 4 _ rfl, dc.cell 5 _ rfl, dc.cell 6 _ rfl, dc.cell 7 _ rfl⟩; have hvs := ValAt.below hbc _ _ HCB.out.2.2; have hE2 := rSame_two _ wc _ _ hvc hvs; have HBC := Lib.hid (HBB.out.trans (hbc.mono HBB.out.size)); have HCC := Lib.hid (And.intro cc (And.intro dc hvs)); have lc := cc.lt; have mc := dc.lt; clear hbc cc dc hvs hvc hyc hnc hs3 hS2; simp only [valV] at hE2 ⊢)
        | (go_at_call 25; refine hR3.mono ?_; rintro e we ⟨rfl, hbe⟩; have ce := HCD.out.1.below hbe ld; have de := HCD.out.2.below hbe md; have hs6 : we.cell? ⟨w.heap.size, 0, none⟩ = some (.int .i64 kind) ∧ we.cell? ⟨w.heap.size, 1, none⟩ = some (.bool is) ∧ we.cell? ⟨w.heap.size, 2, none⟩ = some (.bool neg) ∧ we.cell? ⟨w.heap.size, 3, none⟩ = some (.string digits) ∧ we.cell? ⟨w.heap.size, 4, none⟩ = some (.int .i64 exp) ∧ we.cell? ⟨w.heap.size, 5, none⟩ = some (.string str) ∧ we.cell? ⟨w.heap.size, 6, none⟩ = some (.slice ka kn kc) ∧ we.cell? ⟨w.heap.size, 7, none⟩ = some (.slice sa sn sc) ∧ we.cell? ⟨w6.heap.size, 0, none⟩ = some (.int .i64 kind6) ∧ we.cell? ⟨w6.heap.size, 1, none⟩ = some (.bool is6) ∧ we.cell? ⟨w6.heap.size, 2, none⟩ = some (.bool neg6) ∧ we.cell? ⟨w6.heap.size, 3, none⟩ = some (.string dig6) ∧ we.cell? ⟨w6.heap.size, 4, none⟩ = some (.int .i64 exp6) ∧ we.cell? ⟨w6.heap.size, 5, none⟩ = some (.string str6) ∧ we.cell? ⟨w6.heap.size, 6, none⟩ = some (.slice ka6 kn6 kc6) ∧ we.cell? ⟨w6.heap.size, 7, none⟩ = some (.slice sa6 sn6 sc6) := ⟨ce.cell 0 _ rfl, ce.cell 1 _ rfl, ce.cell 2 _ rfl, ce.cell 3 _ rfl, ce.cell 4 _ rfl, ce.cell 5 _ rfl, ce.cell 6 _ rfl, ce.cell 7 _ rfl, de.cell 0 _ rfl, de.cell 1 _ rfl, de.cell 2 _ rfl, de.cell 3 _ rfl, de.cell 4 _ rfl, de.cell 5 _ rfl, de.cell 6 _ rfl, de.cell 7 _ rfl⟩; have HBE := Lib.hid (HBD.out.trans (hbe.mono HBD.out.size)); clear hbe ce de hs5 hR3))
      all_goals
        go_wp2_with fail
        go_ret
        exact ⟨rfl, HBE.out⟩
  · go_wp2_with fail
    go_ret
    exact ⟨rfl, hbw⟩
end Go.Proofs.YtpcfhiipkbpmkaaDoor
