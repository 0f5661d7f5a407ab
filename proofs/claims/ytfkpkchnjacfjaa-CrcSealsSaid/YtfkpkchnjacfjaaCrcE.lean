/- The walk of CrcSeals: it returns true. -/
import Derived.Test.YtfkpkchnjacfjaaCrcC
namespace Go.Proofs.Ytfkpkchnjacfjaa
open Go.RowKit Go.Tab

set_option maxHeartbeats 2000000 in
theorem CrcSeals_walk (a0 : Value) (l0 : List UInt8) (w : World) (w0 : BytesAt w a0 l0) :
    Calls Try.prog 6 #[a0] w fun e w' => e = .returned (.bool true) ∧ Below w.heap.size w w' := by
  have wk := w0
  obtain ⟨a, cap, rfl, hl, hm, hn⟩ := w0.len
  unfold maxLen at hm
  by_cases h : 2000 < l0.length
  · go_enter Try.func6, Try.ntmps6
    go_wp2_with fail
    refine (wakes_any w).mono ?_
    rintro e w1 ⟨rfl, hb1⟩
    go_wp2
    go_ret
    exact ⟨rfl, hb1⟩
  · have hs0 := sum_lt l0
    go_enter Try.func6, Try.ntmps6
    go_wp2_with fail
    refine (wakes_any w).mono ?_
    rintro e w1 ⟨rfl, hb1⟩
    have hz1 := hb1.size
    go_wp2_with fail
    refine (Seal_any _ l0 w1 (wk.below hb1 (Nat.le_refl _)) (by omega)).mono ?_
    rintro e w2 ⟨v2, rfl, ho2, hb2'⟩
    have hb2 := hb1.trans (hb2'.mono hz1)
    have hz2 := hb2.size
    clear hb2'
    have hr2 := ho2.row
    go_wp2_with fail
    refine (Sealed_yes v2 l0 _ _ _ _ w2 (by exact hr2) (by omega) (num4_four (sum l0) hs0)).mono ?_
    rintro e w3 ⟨v3, rfl, ho3, hb3'⟩
    have hb3 := hb2.trans (hb3'.mono hz2)
    have hz3 := hb3.size
    have hr2 := hr2.below hb3' (Nat.le_refl _)
    have hr3 := ho3.row
    clear hb3' ho2 ho3
    go_wp2_with fail
    by_cases h4 : l0.length < 4
    · refine (Sealed_short _ l0 w3 (wk.below hb3 (Nat.le_refl _)) h4).mono ?_
      rintro e w4 ⟨rfl, hb4'⟩
      have hb4 := hb3.trans (hb4'.mono hz3)
      have hz4 := hb4.size
      have hr2 := hr2.below hb4' (Nat.le_refl _)
      have hr3 := hr3.below hb4' (Nat.le_refl _)
      clear hb4'
      have hd : decide (4 ≤ (l0.length : Int)) = false := by simp; omega
      go_wp2_with fail
      refine (rSeal_any _ l0 w4 (wk.below hb4 (Nat.le_refl _)) (by omega)).mono ?_
      rintro e w5 ⟨v5, rfl, ho5, hb5'⟩
      have hb5 := hb4.trans (hb5'.mono hz4)
      have hz5 := hb5.size
      have hr2 := hr2.below hb5' (Nat.le_refl _)
      have hr3 := hr3.below hb5' (Nat.le_refl _)
      have hr5 := ho5.row
      clear hb5'
      go_wp2_with fail
      refine (Same_yes _ _ _ _ w5 hr2 hr5 rfl).mono ?_
      rintro e w6 ⟨rfl, hb6'⟩
      have hb6 := hb5.trans (hb6'.mono hz5)
      have hz6 := hb6.size
      have hr3 := hr3.below hb6' (Nat.le_refl _)
      clear hb6'
      go_wp2_with fail
      refine (Same_yes _ _ _ _ w6 hr3 (wk.below hb6 (Nat.le_refl _)) rfl).mono ?_
      rintro e w7 ⟨rfl, hb7'⟩
      have hb7 := hb6.trans (hb7'.mono hz6)
      go_wp2
      go_ret
      exact ⟨rfl, hb7⟩
    · obtain ⟨m, x0, x1, x2, x3, rfl⟩ := last4 l0 (by omega)
      have hlen : (m ++ [x0, x1, x2, x3]).length = m.length + 4 := by simp
      have hnum := num4_lt x0 x1 x2 x3
      have hsm := sum_lt m
      have hp := Lib.hid (four_eq x0 x1 x2 x3 (sum m) hsm)
      have hr0 : ∀ w', Below w.heap.size w w' → BytesAt w' (.slice a (m ++ [x0, x1, x2, x3]).length cap) (m ++ [x0, x1, x2, x3]) := fun w' hb => wk.below hb (Nat.le_refl _)
      by_cases hs : num4 x0 x1 x2 x3 = sum m
      · refine (Sealed_yes _ m x0 x1 x2 x3 w3 (hr0 _ hb3) (by omega) hs).mono ?_
        rintro e w4 ⟨v4, rfl, ho4, hb4'⟩
        have hr4 := ho4.row
        have hb4 := hb3.trans (hb4'.mono hz3)
        have hz4 := hb4.size
        have hr2 := hr2.below hb4' (Nat.le_refl _)
        have hr3 := hr3.below hb4' (Nat.le_refl _)
        clear hb4'
        have HS := Lib.hid hs
        clear hs ho4
        have hd : decide (4 ≤ ((m ++ [x0, x1, x2, x3]).length : Int)) = true := by simp; omega
        rw [hlen] at hd hl h h4 hr0 wk ⊢
        go_wp2_with (with_reducible first | refine stop_append ?_ | refine stop_make ?_ | refine stop_slice ?_ | refine stop_copy ?_); refine Stop.out ?_
        refine wpList_slice_h rfl _ _ 22 rfl Try.undB Try.sizeB (m ++ [x0, x1, x2, x3]) (by exact hr0 _ hb4) _ _ m.length rfl rfl (by simp) ?_
        intro v5 hr5 _
        rw [List.take_left] at hr5
        go_wp2_with fail
        refine (rSeal_any _ m w4 hr5 (by omega)).mono ?_
        rintro e w5 ⟨v5, rfl, ho5, hb5'⟩
        have hr5 := ho5.row
        have hb5 := hb4.trans (hb5'.mono hz4)
        have hz5 := hb5.size
        have hr2 := hr2.below hb5' (Nat.le_refl _)
        have hr3 := hr3.below hb5' (Nat.le_refl _)
        have hr4 := hr4.below hb5' (Nat.le_refl _)
        clear hb5'
        clear ho5
        go_wp2_with fail
        refine (Same_yes _ _ _ _ w5 hr5 (hr0 _ hb5) (by rw [hp.out.2 HS.out])).mono ?_
        rintro e w6 ⟨rfl, hb6'⟩
        have hb6 := hb5.trans (hb6'.mono hz5)
        have hz6 := hb6.size
        have hr2 := hr2.below hb6' (Nat.le_refl _)
        have hr3 := hr3.below hb6' (Nat.le_refl _)
        have hr4 := hr4.below hb6' (Nat.le_refl _)
        clear hb6'
        go_wp2_with fail
        refine (rSeal_any _ _ w6 (hr0 _ hb6) (by omega)).mono ?_
        rintro e w7 ⟨v7, rfl, ho7, hb7'⟩
        have hr7 := ho7.row
        have hb7 := hb6.trans (hb7'.mono hz6)
        have hz7 := hb7.size
        have hr2 := hr2.below hb7' (Nat.le_refl _)
        have hr3 := hr3.below hb7' (Nat.le_refl _)
        have hr4 := hr4.below hb7' (Nat.le_refl _)
        clear hb7'
        clear ho7
        go_wp2_with fail
        refine (Same_yes _ _ _ _ w7 hr2 hr7 rfl).mono ?_
        rintro e w8 ⟨rfl, hb8'⟩
        have hb8 := hb7.trans (hb8'.mono hz7)
        have hz8 := hb8.size
        have hr3 := hr3.below hb8' (Nat.le_refl _)
        have hr4 := hr4.below hb8' (Nat.le_refl _)
        clear hb8'
        go_wp2_with fail
        refine (Same_yes _ _ _ _ w8 hr3 (hr0 _ hb8) rfl).mono ?_
        rintro e w9 ⟨rfl, hb9'⟩
        have hb9 := hb8.trans (hb9'.mono hz8)
        have hz9 := hb9.size
        have hr4 := hr4.below hb9' (Nat.le_refl _)
        clear hb9'
        go_wp2_with (with_reducible first | refine stop_append ?_ | refine stop_make ?_ | refine stop_slice ?_ | refine stop_copy ?_); refine Stop.out ?_
        refine wpList_slice_h rfl _ _ 22 rfl Try.undB Try.sizeB (m ++ [x0, x1, x2, x3]) (by exact hr0 _ hb9) _ _ m.length rfl rfl (by simp) ?_
        intro v10 hr10 _
        rw [List.take_left] at hr10
        go_wp2_with fail
        refine (Same_yes _ _ _ _ w9 hr4 hr10 rfl).mono ?_
        rintro e w10 ⟨rfl, hb10'⟩
        have hb10 := hb9.trans (hb10'.mono hz9)
        have hz10 := hb10.size
        clear hb10'
        go_wp2
        go_ret
        exact ⟨rfl, hb10⟩
      · refine (Sealed_no _ m x0 x1 x2 x3 w3 (hr0 _ hb3) (by omega) hs).mono ?_
        rintro e w4 ⟨rfl, hb4'⟩
        have hb4 := hb3.trans (hb4'.mono hz3)
        have hz4 := hb4.size
        have hr2 := hr2.below hb4' (Nat.le_refl _)
        have hr3 := hr3.below hb4' (Nat.le_refl _)
        clear hb4'
        have HS := Lib.hid hs
        clear hs
        have hd : decide (4 ≤ ((m ++ [x0, x1, x2, x3]).length : Int)) = true := by simp; omega
        rw [hlen] at hd hl h h4 hr0 wk ⊢
        go_wp2_with (with_reducible first | refine stop_append ?_ | refine stop_make ?_ | refine stop_slice ?_ | refine stop_copy ?_); refine Stop.out ?_
        refine wpList_slice_h rfl _ _ 22 rfl Try.undB Try.sizeB (m ++ [x0, x1, x2, x3]) (by exact hr0 _ hb4) _ _ m.length rfl rfl (by simp) ?_
        intro v5 hr5 _
        rw [List.take_left] at hr5
        go_wp2_with fail
        refine (rSeal_any _ m w4 hr5 (by omega)).mono ?_
        rintro e w5 ⟨v5, rfl, ho5, hb5'⟩
        have hr5 := ho5.row
        have hb5 := hb4.trans (hb5'.mono hz4)
        have hz5 := hb5.size
        have hr2 := hr2.below hb5' (Nat.le_refl _)
        have hr3 := hr3.below hb5' (Nat.le_refl _)
        clear hb5'
        clear ho5
        go_wp2_with fail
        refine (Same_no _ _ _ _ w5 hr5 (hr0 _ hb5) (fun h => HS.out (hp.out.1 (List.append_cancel_left h)))).mono ?_
        rintro e w6 ⟨rfl, hb6'⟩
        have hb6 := hb5.trans (hb6'.mono hz5)
        have hz6 := hb6.size
        have hr2 := hr2.below hb6' (Nat.le_refl _)
        have hr3 := hr3.below hb6' (Nat.le_refl _)
        clear hb6'
        go_wp2_with fail
        refine (rSeal_any _ _ w6 (hr0 _ hb6) (by omega)).mono ?_
        rintro e w7 ⟨v7, rfl, ho7, hb7'⟩
        have hr7 := ho7.row
        have hb7 := hb6.trans (hb7'.mono hz6)
        have hz7 := hb7.size
        have hr2 := hr2.below hb7' (Nat.le_refl _)
        have hr3 := hr3.below hb7' (Nat.le_refl _)
        clear hb7'
        clear ho7
        go_wp2_with fail
        refine (Same_yes _ _ _ _ w7 hr2 hr7 rfl).mono ?_
        rintro e w8 ⟨rfl, hb8'⟩
        have hb8 := hb7.trans (hb8'.mono hz7)
        have hz8 := hb8.size
        have hr3 := hr3.below hb8' (Nat.le_refl _)
        clear hb8'
        go_wp2_with fail
        refine (Same_yes _ _ _ _ w8 hr3 (hr0 _ hb8) rfl).mono ?_
        rintro e w9 ⟨rfl, hb9'⟩
        have hb9 := hb8.trans (hb9'.mono hz8)
        have hz9 := hb9.size
        clear hb9'
        go_wp2
        go_ret
        exact ⟨rfl, hb9⟩
end Go.Proofs.Ytfkpkchnjacfjaa
