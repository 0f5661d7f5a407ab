/- The walk of VarintOrder: it returns true. -/
import Derived.Test.YtoccanppfdeggaaVarC
namespace Go.Proofs.Ytoccanppfdeggaa
open Go.RowKit Go.Tab

set_option maxHeartbeats 800000 in
set_option maxRecDepth 100000 in
theorem VarintOrder_walk (a0 : Int) (a1 : Int) (w : World) (w0 : (Lit.int .u64 a0).wf = true) (w1 : (Lit.int .u64 a1).wf = true) :
    Calls Try.prog 5 #[.int .u64 a0, .int .u64 a1] w fun e w' => e = .returned (.bool true) ∧ Below w.heap.size w w' := by
  obtain ⟨x, rfl, hx⟩ : ∃ n : Nat, a0 = (n : Int) ∧ n < 18446744073709551616 := by
    rw [Lit.wf, Bool.and_eq_true, decide_eq_true_eq, decide_eq_true_eq] at w0
    have e1 : IntKind.u64.min = 0 := rfl
    have e2 : IntKind.u64.max = 18446744073709551615 := rfl
    exact ⟨a0.toNat, by omega, by omega⟩
  obtain ⟨y, rfl, hy⟩ : ∃ n : Nat, a1 = (n : Int) ∧ n < 18446744073709551616 := by
    rw [Lit.wf, Bool.and_eq_true, decide_eq_true_eq, decide_eq_true_eq] at w1
    have e1 : IntKind.u64.min = 0 := rfl
    have e2 : IntKind.u64.max = 18446744073709551615 := rfl
    exact ⟨a1.toNat, by omega, by omega⟩
  clear w0 w1
  have HX := Lib.hid hx
  have HY := Lib.hid hy
  clear hx hy
  rcases Nat.lt_trichotomy x y with hxy | hxy | hxy
  · have hbe : ((x : Int) == (y : Int)) = false := by simp; omega
    have hle := Lib.hid (put_length_mono y x y (Nat.le_refl _) (by omega))
    have hpre := Lib.hid (put_prefix HX.out HY.out)
    have h10 := put_length_ten HX.out
    have h11 := put_length_ten HY.out
    have hpos : 0 < (put x).length := List.length_pos_iff.2 (put_ne x)
    go_enter Try.func5, Try.ntmps5
    go_wp2_with fail
    refine (vwakes_any w).mono ?_
    rintro e w1 ⟨rfl, hb1⟩
    have hz1 := hb1.size
    go_wp2_with fail
    refine (Put_any x w1 HX.out).mono ?_
    rintro e w2 ⟨v2, rfl, ho2, hb2'⟩
    have hr2 := ho2.row
    obtain ⟨g2, c2, rfl, hl2, hm2, -⟩ := ho2.shape (put_ne x)
    clear ho2
    have hb2 := hb1.trans (hb2'.mono hz1)
    have hz2 := hb2.size
    clear hb2'
    go_wp2_with fail
    refine (Put_any y w2 HY.out).mono ?_
    rintro e w3 ⟨v3, rfl, ho3, hb3'⟩
    have hr3 := ho3.row
    obtain ⟨g3, c3, rfl, hl3, hm3, -⟩ := ho3.shape (put_ne y)
    clear ho3
    have hb3 := hb2.trans (hb3'.mono hz2)
    have hz3 := hb3.size
    have hr2 := hr2.below hb3' (Nat.le_refl _)
    clear hb3'
    unfold maxLen at hm2 hm3
    have hle2 : (put x).length ≤ (put y).length := hle.out
    have hne0 : (((put x).length : Int) == 0) = false := by rw [beq_eq_false_iff_ne]; omega
    go_wp2_with (with_reducible first | refine stop_append ?_ | refine stop_make ?_ | refine stop_slice ?_ | refine stop_copy ?_); refine Stop.out ?_
    refine wpList_slice_h rfl _ _ 22 rfl Try.undB Try.sizeB (put y) (by exact hr3) _ _ (put x).length rfl rfl hle.out ?_
    intro v4 hr4 _
    go_wp2_with fail
    refine (Same_no _ _ _ _ w3 hr2 hr4 (fun h => by have := hpre.out.1 h; omega)).mono ?_
    rintro e w4 ⟨rfl, hb4'⟩
    have hb4 := hb3.trans (hb4'.mono hz3)
    have hz4 := hb4.size
    clear hb4'
    go_wp2
    go_ret
    exact ⟨rfl, hb4⟩
  · subst hxy
    have hle := Lib.hid (put_length_mono x x x (Nat.le_refl _) (by omega))
    have hpre := Lib.hid (put_prefix HX.out HX.out)
    have h10 := put_length_ten HX.out
    have h11 := put_length_ten HX.out
    have hpos : 0 < (put x).length := List.length_pos_iff.2 (put_ne x)
    go_enter Try.func5, Try.ntmps5
    go_wp2_with fail
    refine (vwakes_any w).mono ?_
    rintro e w1 ⟨rfl, hb1⟩
    have hz1 := hb1.size
    go_wp2_with fail
    refine (Put_any x w1 HX.out).mono ?_
    rintro e w2 ⟨v2, rfl, ho2, hb2'⟩
    have hr2 := ho2.row
    obtain ⟨g2, c2, rfl, hl2, hm2, -⟩ := ho2.shape (put_ne x)
    clear ho2
    have hb2 := hb1.trans (hb2'.mono hz1)
    have hz2 := hb2.size
    clear hb2'
    go_wp2_with fail
    refine (Put_any x w2 HX.out).mono ?_
    rintro e w3 ⟨v3, rfl, ho3, hb3'⟩
    have hr3 := ho3.row
    obtain ⟨g3, c3, rfl, hl3, hm3, -⟩ := ho3.shape (put_ne x)
    clear ho3
    have hb3 := hb2.trans (hb3'.mono hz2)
    have hz3 := hb3.size
    have hr2 := hr2.below hb3' (Nat.le_refl _)
    clear hb3'
    unfold maxLen at hm2 hm3
    have hle2 : (put x).length ≤ (put x).length := hle.out
    have hne0 : (((put x).length : Int) == 0) = false := by rw [beq_eq_false_iff_ne]; omega
    go_wp2_with (with_reducible first | refine stop_append ?_ | refine stop_make ?_ | refine stop_slice ?_ | refine stop_copy ?_); refine Stop.out ?_
    refine wpList_slice_h rfl _ _ 22 rfl Try.undB Try.sizeB (put x) (by exact hr3) _ _ (put x).length rfl rfl hle.out ?_
    intro v4 hr4 _
    go_wp2_with fail
    refine (Same_yes _ _ _ _ w3 hr2 hr4 (by simp)).mono ?_
    rintro e w4 ⟨rfl, hb4'⟩
    have hb4 := hb3.trans (hb4'.mono hz3)
    have hz4 := hb4.size
    clear hb4'
    go_wp2
    go_ret
    exact ⟨rfl, hb4⟩
  · have hbe : ((x : Int) == (y : Int)) = false := by simp; omega
    have hle := Lib.hid (put_length_mono x y x (Nat.le_refl _) (by omega))
    have hpre := Lib.hid (put_prefix HY.out HX.out)
    have h10 := put_length_ten HY.out
    have h11 := put_length_ten HX.out
    have hpos : 0 < (put y).length := List.length_pos_iff.2 (put_ne y)
    go_enter Try.func5, Try.ntmps5
    go_wp2_with fail
    refine (vwakes_any w).mono ?_
    rintro e w1 ⟨rfl, hb1⟩
    have hz1 := hb1.size
    go_wp2_with fail
    refine (Put_any y w1 HY.out).mono ?_
    rintro e w2 ⟨v2, rfl, ho2, hb2'⟩
    have hr2 := ho2.row
    obtain ⟨g2, c2, rfl, hl2, hm2, -⟩ := ho2.shape (put_ne y)
    clear ho2
    have hb2 := hb1.trans (hb2'.mono hz1)
    have hz2 := hb2.size
    clear hb2'
    go_wp2_with fail
    refine (Put_any x w2 HX.out).mono ?_
    rintro e w3 ⟨v3, rfl, ho3, hb3'⟩
    have hr3 := ho3.row
    obtain ⟨g3, c3, rfl, hl3, hm3, -⟩ := ho3.shape (put_ne x)
    clear ho3
    have hb3 := hb2.trans (hb3'.mono hz2)
    have hz3 := hb3.size
    have hr2 := hr2.below hb3' (Nat.le_refl _)
    clear hb3'
    unfold maxLen at hm2 hm3
    have hle2 : (put y).length ≤ (put x).length := hle.out
    have hne0 : (((put y).length : Int) == 0) = false := by rw [beq_eq_false_iff_ne]; omega
    go_wp2_with (with_reducible first | refine stop_append ?_ | refine stop_make ?_ | refine stop_slice ?_ | refine stop_copy ?_); refine Stop.out ?_
    refine wpList_slice_h rfl _ _ 22 rfl Try.undB Try.sizeB (put x) (by exact hr3) _ _ (put y).length rfl rfl hle.out ?_
    intro v4 hr4 _
    go_wp2_with fail
    refine (Same_no _ _ _ _ w3 hr2 hr4 (fun h => by have := hpre.out.1 h; omega)).mono ?_
    rintro e w4 ⟨rfl, hb4'⟩
    have hb4 := hb3.trans (hb4'.mono hz3)
    have hz4 := hb4.size
    clear hb4'
    go_wp2
    go_ret
    exact ⟨rfl, hb4⟩
end Go.Proofs.Ytoccanppfdeggaa
