/- The walk of Compare (layer 6), this side's. -/
import Derived.Test.YthiggalnjjcejaaDoorNuC
import Derived.Test.YthiggalnjjcejaaDoorNuJ
import Derived.Test.YthiggalnjjcejaaDoorShf
namespace Go.Proofs.YthiggalnjjcejaaDoor
set_option linter.unusedSimpArgs false
set_option linter.unusedVariables false
open Go.RowKit Go.Tab

theorem cb_bounds : ∀ (a b : List UInt8), -1 ≤ Lib.compareBytes a b ∧ Lib.compareBytes a b ≤ 1
  | [], [] => by simp [Lib.compareBytes]
  | [], _ :: _ => by simp [Lib.compareBytes]
  | _ :: _, [] => by simp [Lib.compareBytes]
  | x :: a, y :: b => by
    have ih := cb_bounds a b
    simp only [Lib.compareBytes]
    split
    · omega
    · split
      · omega
      · exact ih
theorem cmpI_lt {x y : Int} (h : x < y) : Lib.compareInt x y = -1 := by unfold Lib.compareInt; simp [h]
theorem cmpI_gt {x y : Int} (h : y < x) : Lib.compareInt x y = 1 := by unfold Lib.compareInt; rw [if_neg (by omega)]; simp [h]
theorem cmpI_eq {x y : Int} (h1 : ¬ x < y) (h2 : ¬ y < x) : Lib.compareInt x y = 0 := by unfold Lib.compareInt; simp [h1, h2]
theorem side_b (n : Bool) (d : ByteArray) : -1 ≤ sideN n d ∧ sideN n d ≤ 1 := by
  rcases side_cases n d with h | h | h <;> omega
theorem mul_small {a b : Int} (ha : -1 ≤ a ∧ a ≤ 1) (hb : -1 ≤ b ∧ b ≤ 1) : wrap64 (a * b) = a * b := by
  have h1 : a = -1 ∨ a = 0 ∨ a = 1 := by omega
  rcases h1 with rfl | rfl | rfl <;> unfold wrap64 <;> omega
theorem right_b {n : Bool} {d : ByteArray} {e : Int} (h : numR n d e = true) : d.size ≤ 1000 ∧ -10000 ≤ e ∧ e ≤ 10000 := by
  rcases numR_list (neg := n) (d := d.data.toList) (e := e) (by rw [← strL_of]; exact h) with ⟨h1, _, rfl⟩ | h1
  · rw [size_list, h1]; simp
  · have := h1.len; have := h1.e1; have := h1.e2; rw [size_list]; omega

/-- What Compare says. -/
def cmpO (n1 : Bool) (d1 : ByteArray) (e1 : Int) (n2 : Bool) (d2 : ByteArray) (e2 : Int) : Int := if numR n1 d1 e1 && numR n2 d2 e2 then cmpN n1 d1 e1 n2 d2 e2 else 0

theorem mul_end {v a b : Int} (h : v = a * b) (hb : -1 ≤ b ∧ b ≤ 1) (ha : -1 ≤ a ∧ a ≤ 1) : Ending.returned (Value.int .i64 (wrap64 (a * b))) = Ending.returned (Value.int .i64 v) := by
  rw [h, mul_small ha hb]
set_option maxHeartbeats 4000000 in
set_option maxRecDepth 100000 in
theorem Compare_any (n1 : Bool) (d1 : ByteArray) (e1 : Int) (n2 : Bool) (d2 : ByteArray) (e2 : Int) (w : World) (hd1 : d1.size ≤ 1048576) (hd2 : d2.size ≤ 1048576) :
    Calls Tryd.prog 19 #[.agg #[.bool n1, .string d1, .int .i64 e1], .agg #[.bool n2, .string d2, .int .i64 e2]] w fun r w' => r = .returned (.int .i64 (cmpO n1 d1 e1 n2 d2 e2)) ∧ Below w.heap.size w w' := by
  have hR1 := fun W => numRight_any n1 d1 e1 W hd1
  have hR2 := fun W => numRight_any n2 d2 e2 W hd2
  have hx := (Cells.new w #[.bool n1, .string d1, .int .i64 e1] 24).alloc (.cells #[.bool n2, .string d2, .int .i64 e2] 24)
  have hy := Cells.new (w.alloc (.cells #[.bool n1, .string d1, .int .i64 e1] 24)) #[.bool n2, .string d2, .int .i64 e2] 24
  rw [World.size_alloc] at hy
  have hb : Below w.heap.size w ((w.alloc (.cells #[.bool n1, .string d1, .int .i64 e1] 24)).alloc (.cells #[.bool n2, .string d2, .int .i64 e2] 24)) := ((Below.refl _ w).alloc (Nat.le_refl _) _).alloc (by simp) _
  have hxc0 := hx.cell 0 _ rfl
  have hxf0 := hx.frozen 0
  have hxc1 := hx.cell 1 _ rfl
  have hxf1 := hx.frozen 1
  have hxc2 := hx.cell 2 _ rfl
  have hxf2 := hx.frozen 2
  have hyc0 := hy.cell 0 _ rfl
  have hyf0 := hy.frozen 0
  have hyc1 := hy.cell 1 _ rfl
  have hyf1 := hy.frozen 1
  have hyc2 := hy.cell 2 _ rfl
  have hyf2 := hy.frozen 2
  cases hr1 : numR n1 d1 e1 with
  | false =>
    have hO := Lib.hid (show cmpO n1 d1 e1 n2 d2 e2 = 0 by rw [cmpO, hr1]; rfl)
    rw [hr1] at hR1
    clear hr1
    go_enter Tryd.func19, Tryd.ntmps19
    go_wp2_with fail
    refine (hR1 _).mono ?_
    rintro _ w1 ⟨rfl, hb1⟩
    go_wp2
    go_ret
    exact ⟨by rw [hO.out]; rfl, hb.trans (hb1.mono hb.size)⟩
  | true =>
    cases hr2 : numR n2 d2 e2 with
    | false =>
      have hO := Lib.hid (show cmpO n1 d1 e1 n2 d2 e2 = 0 by rw [cmpO, hr1, hr2]; rfl)
      rw [hr1] at hR1
      rw [hr2] at hR2
      clear hr1 hr2
      go_enter Tryd.func19, Tryd.ntmps19
      go_wp2_with fail
      refine (hR1 _).mono ?_
      rintro _ w1 ⟨rfl, hb1⟩
      have h1 := hx.below hb1 hx.lt
      have h2 := hy.below hb1 hy.lt
      have h3 := hb.trans (hb1.mono hb.size)
      have hl1 := h1.lt
      have hl2 := h2.lt
      clear hb1 hx hy hb hxc0 hxc1 hxc2 hxf0 hxf1 hxf2 hyc0 hyc1 hyc2 hyf0 hyf1 hyf2
      have hx := h1
      have hy := h2
      have hb := h3
      clear h1 h2 h3
      have hxc0 := hx.cell 0 _ rfl
      have hxf0 := hx.frozen 0
      have hxc1 := hx.cell 1 _ rfl
      have hxf1 := hx.frozen 1
      have hxc2 := hx.cell 2 _ rfl
      have hxf2 := hx.frozen 2
      have hyc0 := hy.cell 0 _ rfl
      have hyf0 := hy.frozen 0
      have hyc1 := hy.cell 1 _ rfl
      have hyf1 := hy.frozen 1
      have hyc2 := hy.cell 2 _ rfl
      have hyf2 := hy.frozen 2
      go_wp2_with fail
      refine (hR2 _).mono ?_
      rintro _ w2 ⟨rfl, hb1⟩
      go_wp2
      go_ret
      exact ⟨by rw [hO.out]; rfl, hb.trans (hb1.mono hb.size)⟩
    | true =>
      have hO : Hid (cmpO n1 d1 e1 n2 d2 e2 = cmpN n1 d1 e1 n2 d2 e2) := Lib.hid (by rw [cmpO, hr1, hr2]; rfl)
      have hB1 := right_b hr1
      have hB2 := right_b hr2
      rw [hr1] at hR1
      rw [hr2] at hR2
      clear hr1 hr2
      go_enter Tryd.func19, Tryd.ntmps19
      go_wp2_with fail
      refine (hR1 _).mono ?_
      clear hR1
      rintro _ w1 ⟨rfl, hb1⟩
      have h1 := hx.below hb1 hx.lt
      have h2 := hy.below hb1 hy.lt
      have h3 := hb.trans (hb1.mono hb.size)
      have hl1 := h1.lt
      have hl2 := h2.lt
      clear hb1 hx hy hb hxc0 hxc1 hxc2 hxf0 hxf1 hxf2 hyc0 hyc1 hyc2 hyf0 hyf1 hyf2
      have hx := h1
      have hy := h2
      have hb := h3
      clear h1 h2 h3
      have hxc0 := hx.cell 0 _ rfl
      have hxf0 := hx.frozen 0
      have hxc1 := hx.cell 1 _ rfl
      have hxf1 := hx.frozen 1
      have hxc2 := hx.cell 2 _ rfl
      have hxf2 := hx.frozen 2
      have hyc0 := hy.cell 0 _ rfl
      have hyf0 := hy.frozen 0
      have hyc1 := hy.cell 1 _ rfl
      have hyf1 := hy.frozen 1
      have hyc2 := hy.cell 2 _ rfl
      have hyf2 := hy.frozen 2
      go_wp2_with fail
      refine (hR2 _).mono ?_
      clear hR2
      rintro _ w2 ⟨rfl, hb1⟩
      have h1 := hx.below hb1 hx.lt
      have h2 := hy.below hb1 hy.lt
      have h3 := hb.trans (hb1.mono hb.size)
      have hl1 := h1.lt
      have hl2 := h2.lt
      clear hb1 hx hy hb hxc0 hxc1 hxc2 hxf0 hxf1 hxf2 hyc0 hyc1 hyc2 hyf0 hyf1 hyf2
      have hx := h1
      have hy := h2
      have hb := h3
      clear h1 h2 h3
      have hxc0 := hx.cell 0 _ rfl
      have hxf0 := hx.frozen 0
      have hxc1 := hx.cell 1 _ rfl
      have hxf1 := hx.frozen 1
      have hxc2 := hx.cell 2 _ rfl
      have hxf2 := hx.frozen 2
      have hyc0 := hy.cell 0 _ rfl
      have hyf0 := hy.frozen 0
      have hyc1 := hy.cell 1 _ rfl
      have hyf1 := hy.frozen 1
      have hyc2 := hy.cell 2 _ rfl
      have hyf2 := hy.frozen 2
      obtain ⟨s1, hs1⟩ : ∃ z, sideN n1 d1 = z := ⟨_, rfl⟩
      obtain ⟨s2, hs2⟩ : ∃ z, sideN n2 d2 = z := ⟨_, rfl⟩
      have hsb := side_b n1 d1
      rw [hs1] at hsb
      have hc1 : ∀ x : Under w2, Calls Tryd.prog 40 #[.agg #[.bool n1, .string d1, .int .i64 e1]] x.w fun e w' => e = .returned (.int .i64 s1) ∧ ∃ y : Under w2, w' = y.w := fun x => x.call (by rw [← hs1]; exact side_any n1 d1 e1 x.w)
      have hc2 : ∀ x : Under w2, Calls Tryd.prog 40 #[.agg #[.bool n2, .string d2, .int .i64 e2]] x.w fun e w' => e = .returned (.int .i64 s2) ∧ ∃ y : Under w2, w' = y.w := fun x => x.call (by rw [← hs2]; exact side_any n2 d2 e2 x.w)
      have hc3 : ∀ x : Under w2, Calls Tryd.prog 39 #[.int .i64 s1, .int .i64 s2] x.w fun e w' => e = .returned (.int .i64 (Lib.compareInt s1 s2)) ∧ ∃ y : Under w2, w' = y.w := fun x => (Go.Proofs.Tryd.cmp_Compare_int s1 s2 x.w).mono fun _ _ h => ⟨h.1, x, h.2⟩
      have hcm : ∀ W, Calls Tryd.prog 39 #[.int .i64 ((d1.size : Int) + e1), .int .i64 ((d2.size : Int) + e2)] W fun e w' => e = .returned (.int .i64 (Lib.compareInt ((d1.size : Int) + e1) ((d2.size : Int) + e2))) ∧ W = w' := fun W => (Go.Proofs.Tryd.cmp_Compare_int _ _ W).mono fun _ _ h => ⟨h.1, h.2.symm⟩
      have hcs : ∀ W, Calls Tryd.prog 41 #[.string d1, .string d2] W fun e w' => e = .returned (.int .i64 (Lib.compareBytes d1.data.toList d2.data.toList)) ∧ W = w' := fun W => (Go.Proofs.Tryd.strings_Compare d1 d2 W).mono fun _ _ h => ⟨h.1, h.2.symm⟩
      have hside : ∀ W, Calls Tryd.prog 40 #[.agg #[.bool n1, .string d1, .int .i64 e1]] W fun e w' => e = .returned (.int .i64 s1) ∧ Below W.heap.size W w' := fun W => by rw [← hs1]; exact side_any n1 d1 e1 W
      have hcb := cb_bounds d1.data.toList d2.data.toList
      have X0 := fun x : Under w2 => (x.below.cell (by exact hx.lt)).trans hxc0
      have X1 := fun x : Under w2 => (x.below.cell (by exact hx.lt)).trans hxc1
      have X2 := fun x : Under w2 => (x.below.cell (by exact hx.lt)).trans hxc2
      have Y0 := fun x : Under w2 => (x.below.cell (by exact hy.lt)).trans hyc0
      have Y1 := fun x : Under w2 => (x.below.cell (by exact hy.lt)).trans hyc1
      have Y2 := fun x : Under w2 => (x.below.cell (by exact hy.lt)).trans hyc2
      by_cases p1 : s1 < s2
      · have hV := Lib.hid (show cmpO n1 d1 e1 n2 d2 e2 = -1 by rw [hO.out, cmpN, hs1, hs2, if_pos p1])
        rw [cmpI_lt p1] at hc3
        clear p1 hs1 hs2 hO
        go_wp2_with fail
        refine wp_region_under w2 (by kernel_rfl) (by kernel_rfl) (Below.refl _ _) ?_
        repeat (go_big_quiet_step ((first | (with_reducible exact hc1 _) | (with_reducible exact hc2 _) | (with_reducible exact hc3 _))))
        refine wpQuiet_nil ?_
        rintro _ ⟨x, rfl⟩
        go_wp2
        go_ret
        exact ⟨by rw [hV.out]; rfl, hb.trans (x.below.mono hb.size)⟩
      by_cases p2 : s2 < s1
      · have hV := Lib.hid (show cmpO n1 d1 e1 n2 d2 e2 = 1 by rw [hO.out, cmpN, hs1, hs2, if_neg p1, if_pos p2])
        rw [cmpI_gt p2] at hc3
        clear p1 p2 hs1 hs2 hO
        go_wp2_with fail
        refine wp_region_under w2 (by kernel_rfl) (by kernel_rfl) (Below.refl _ _) ?_
        repeat (go_big_quiet_step ((first | (with_reducible exact hc1 _) | (with_reducible exact hc2 _) | (with_reducible exact hc3 _))))
        refine wpQuiet_nil ?_
        rintro _ ⟨x, rfl⟩
        go_wp2
        go_ret
        exact ⟨by rw [hV.out]; rfl, hb.trans (x.below.mono hb.size)⟩
      have hV0 : cmpO n1 d1 e1 n2 d2 e2 = magN d1 e1 d2 e2 * s1 := by rw [hO.out, cmpN, hs1, hs2, if_neg p1, if_neg p2]
      rw [cmpI_eq p1 p2] at hc3
      clear p1 p2 hs1 hs2 hO
      by_cases q1 : (d1.size : Int) + e1 < (d2.size : Int) + e2
      · have hV := Lib.hid (show cmpO n1 d1 e1 n2 d2 e2 = -1 * s1 by rw [hV0, magN, if_pos q1])
        rw [cmpI_lt q1] at hcm
        clear q1 hV0
        go_wp2_with fail
        refine wp_region_under w2 (by kernel_rfl) (by kernel_rfl) (Below.refl _ _) ?_
        repeat (go_big_quiet_step ((first | (with_reducible exact hc1 _) | (with_reducible exact hc2 _) | (with_reducible exact hc3 _))))
        refine wpQuiet_nil ?_
        rintro _ ⟨x, rfl⟩
        have x0 := X0 x
        have x1 := X1 x
        have x2 := X2 x
        have y1 := Y1 x
        have y2 := Y2 x
        clear X0 X1 X2 Y0 Y1 Y2 hxc0 hxc1 hxc2 hxf0 hxf1 hxf2 hyc0 hyc1 hyc2 hyf0 hyf1 hyf2
        go_wp2_with (first | ((with_reducible refine (hcm _).mono ?_); rintro _ _ ⟨rfl, rfl⟩) | ((with_reducible refine (hside _).mono ?_); rintro _ w3 ⟨rfl, hb4⟩))
        go_ret
        exact ⟨by rw [hV.out]; show Ending.returned (Value.int .i64 (-s1)) = _; congr 2; omega, hb.trans (x.below.mono hb.size) |>.trans (hb4.mono (Nat.le_trans hb.size x.below.size))⟩
      by_cases q2 : (d2.size : Int) + e2 < (d1.size : Int) + e1
      · have hV := Lib.hid (show cmpO n1 d1 e1 n2 d2 e2 = 1 * s1 by rw [hV0, magN, if_neg q1, if_pos q2])
        rw [cmpI_gt q2] at hcm
        clear q1 q2 hV0
        go_wp2_with fail
        refine wp_region_under w2 (by kernel_rfl) (by kernel_rfl) (Below.refl _ _) ?_
        repeat (go_big_quiet_step ((first | (with_reducible exact hc1 _) | (with_reducible exact hc2 _) | (with_reducible exact hc3 _))))
        refine wpQuiet_nil ?_
        rintro _ ⟨x, rfl⟩
        have x0 := X0 x
        have x1 := X1 x
        have x2 := X2 x
        have y1 := Y1 x
        have y2 := Y2 x
        clear X0 X1 X2 Y0 Y1 Y2 hxc0 hxc1 hxc2 hxf0 hxf1 hxf2 hyc0 hyc1 hyc2 hyf0 hyf1 hyf2
        go_wp2_with (first | ((with_reducible refine (hcm _).mono ?_); rintro _ _ ⟨rfl, rfl⟩) | ((with_reducible refine (hside _).mono ?_); rintro _ w3 ⟨rfl, hb4⟩))
        go_ret
        exact ⟨by rw [hV.out]; show Ending.returned (Value.int .i64 s1) = _; congr 2; omega, hb.trans (x.below.mono hb.size) |>.trans (hb4.mono (Nat.le_trans hb.size x.below.size))⟩
      have hV := Lib.hid (show cmpO n1 d1 e1 n2 d2 e2 = Lib.compareBytes d1.data.toList d2.data.toList * s1 by rw [hV0, magN, if_neg q1, if_neg q2])
      rw [cmpI_eq q1 q2] at hcm
      clear q1 q2 hV0
      generalize Lib.compareBytes d1.data.toList d2.data.toList = cb at hcs hcb hV
      go_wp2_with fail
      refine wp_region_under w2 (by kernel_rfl) (by kernel_rfl) (Below.refl _ _) ?_
      repeat (go_big_quiet_step ((first | (with_reducible exact hc1 _) | (with_reducible exact hc2 _) | (with_reducible exact hc3 _))))
      refine wpQuiet_nil ?_
      rintro _ ⟨x, rfl⟩
      have x0 := X0 x
      have x1 := X1 x
      have x2 := X2 x
      have y1 := Y1 x
      have y2 := Y2 x
      clear X0 X1 X2 Y0 Y1 Y2 hxc0 hxc1 hxc2 hxf0 hxf1 hxf2 hyc0 hyc1 hyc2 hyf0 hyf1 hyf2
      go_wp2_with (first | ((with_reducible refine (hcm _).mono ?_); rintro _ _ ⟨rfl, rfl⟩) | ((with_reducible refine (hcs _).mono ?_); rintro _ _ ⟨rfl, rfl⟩) | ((with_reducible refine (hside _).mono ?_); rintro _ w3 ⟨rfl, hb4⟩))
      go_ret
      exact ⟨mul_end hV.out hsb hcb, hb.trans (x.below.mono hb.size) |>.trans (hb4.mono (Nat.le_trans hb.size x.below.size))⟩
end Go.Proofs.YthiggalnjjcejaaDoor
