/- The walks of the print's smallest functions (layer 7). -/
import Derived.Test.YtgkgdmpbcneoiaaDoorQuoK
namespace Go.Proofs.YtgkgdmpbcneoiaaDoor
open Go.RowKit Go.Tab

theorem shortB_cases {c : Nat} : c = 34 ∨ c = 92 ∨ c = 8 ∨ c = 12 ∨ c = 10 ∨ c = 13 ∨ c = 9 ∨ (shortB c = 0 ∧ c ≠ 34 ∧ c ≠ 92 ∧ c ≠ 8 ∧ c ≠ 12 ∧ c ≠ 10 ∧ c ≠ 13 ∧ c ≠ 9) := by
  by_cases h : c = 34 ∨ c = 92 ∨ c = 8 ∨ c = 12 ∨ c = 10 ∨ c = 13 ∨ c = 9
  · omega
  · refine .inr (.inr (.inr (.inr (.inr (.inr (.inr ⟨?_, by omega⟩))))))
    unfold shortB
    rw [if_neg (by omega), if_neg (by omega), if_neg (by omega), if_neg (by omega), if_neg (by omega), if_neg (by omega)]

theorem shortFor_any (c : Nat) (w : World) : Calls Tryd.prog 24 #[.int .u8 (c : Int)] w fun e w' => e = .returned (.int .u8 (shortB c : Int)) ∧ w = w' := by
  rcases @shortB_cases c with rfl | rfl | rfl | rfl | rfl | rfl | rfl | ⟨h0, h1, h2, h3, h4, h5, h6, h7⟩
  iterate 7
    · go_enter Tryd.func24, Tryd.ntmps24
      go_wp2
      go_ret
      exact ⟨rfl, rfl⟩
  · skip
    have b1 : ((c : Int) == 34) = false := by rw [beq_eq_false_iff_ne]; omega
    have b2 : ((c : Int) == 92) = false := by rw [beq_eq_false_iff_ne]; omega
    have b3 : ((c : Int) == 8) = false := by rw [beq_eq_false_iff_ne]; omega
    have b4 : ((c : Int) == 12) = false := by rw [beq_eq_false_iff_ne]; omega
    have b5 : ((c : Int) == 10) = false := by rw [beq_eq_false_iff_ne]; omega
    have b6 : ((c : Int) == 13) = false := by rw [beq_eq_false_iff_ne]; omega
    have b7 : ((c : Int) == 9) = false := by rw [beq_eq_false_iff_ne]; omega
    have H := Lib.hid h0
    clear h0 h1 h2 h3 h4 h5 h6 h7
    go_enter Tryd.func24, Tryd.ntmps24
    go_wp2
    go_ret
    exact ⟨by rw [H.out]; rfl, rfl⟩

def shortL (c : Nat) : List Nat := if shortB c ≠ 0 then [shortB c] else []
theorem rshort_any (c : Nat) (w : World) : Calls Tryd.prog 26 #[.int .u8 (c : Int)] w fun e w' => e = .returned (.string (strOf (un (shortL c)))) ∧ w = w' := by
  rcases @shortB_cases c with rfl | rfl | rfl | rfl | rfl | rfl | rfl | ⟨h0, h1, h2, h3, h4, h5, h6, h7⟩
  iterate 7
    · go_enter Tryd.func26, Tryd.ntmps26
      go_wp2
      go_ret
      exact ⟨rfl, rfl⟩
  · skip
    have b1 : ((c : Int) == 34) = false := by rw [beq_eq_false_iff_ne]; omega
    have b2 : ((c : Int) == 92) = false := by rw [beq_eq_false_iff_ne]; omega
    have b3 : ((c : Int) == 8) = false := by rw [beq_eq_false_iff_ne]; omega
    have b4 : ((c : Int) == 12) = false := by rw [beq_eq_false_iff_ne]; omega
    have b5 : ((c : Int) == 10) = false := by rw [beq_eq_false_iff_ne]; omega
    have b6 : ((c : Int) == 13) = false := by rw [beq_eq_false_iff_ne]; omega
    have b7 : ((c : Int) == 9) = false := by rw [beq_eq_false_iff_ne]; omega
    have H := Lib.hid h0
    clear h0 h1 h2 h3 h4 h5 h6 h7
    go_enter Tryd.func26, Tryd.ntmps26
    go_wp2
    go_ret
    exact ⟨by unfold shortL; rw [H.out]; rfl, rfl⟩

theorem rdigit_any (n : Nat) (w : World) (hn : n < 16) : Calls Tryd.prog 27 #[.int .i64 (n : Int)] w fun e w' => e = .returned (.string (strOf (un [digB n]))) ∧ Below w.heap.size w w' := by
  obtain ⟨S, hS⟩ : ∃ S, S = un [digB n] := ⟨_, rfl⟩
  by_cases h : n < 10
  · have hcv := conv_back w S #[.int .u8 (48 + (n : Int))] 1 S rfl (by rw [hS]; simp [un, digB, h, byteV]; omega) (by rw [hS]; rfl)
    rw [← hS]
    have HS := Lib.hid hS
    clear hS
    go_enter Tryd.func27, Tryd.ntmps27
    go_wp2
    go_ret
    exact ⟨rfl, (Below.refl _ _).alloc (Nat.le_refl _) _⟩
  · have hcv := conv_back w S #[.int .u8 (97 + (n : Int) - 10)] 1 S rfl (by rw [hS]; simp [un, digB, h, byteV]; omega) (by rw [hS]; rfl)
    rw [← hS]
    have HS := Lib.hid hS
    have h' : 10 ≤ n := by omega
    clear hS h
    go_enter Tryd.func27, Tryd.ntmps27
    go_wp2
    go_ret
    exact ⟨rfl, (Below.refl _ _).alloc (Nat.le_refl _) _⟩
end Go.Proofs.YtgkgdmpbcneoiaaDoor
