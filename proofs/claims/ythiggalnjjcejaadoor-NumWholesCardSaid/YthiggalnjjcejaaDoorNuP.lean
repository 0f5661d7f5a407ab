/- The plain law of comparing numbers (layer 6). -/
import Derived.Test.YthiggalnjjcejaaDoorNumA
import Derived.Lib.Bytealg
import Derived.Lib.Small
namespace Go.Proofs.YthiggalnjjcejaaDoor
set_option linter.unusedSimpArgs false
set_option linter.unusedVariables false

theorem cb_anti : ∀ (a b : List UInt8), Lib.compareBytes b a = - Lib.compareBytes a b
  | [], [] => by simp [Lib.compareBytes]
  | [], _ :: _ => by simp [Lib.compareBytes]
  | _ :: _, [] => by simp [Lib.compareBytes]
  | x :: a, y :: b => by
    have ih := cb_anti a b
    simp only [Lib.compareBytes]
    by_cases h1 : x < y
    · have h2 : ¬ y < x := by rw [UInt8.lt_iff_toNat_lt] at *; omega
      rw [if_neg h2, if_pos h1, if_pos h1]; rfl
    · by_cases h2 : y < x
      · rw [if_pos h2, if_neg h1, if_pos h2]
      · rw [if_neg h2, if_neg h1, if_neg h1, if_neg h2, ih]
theorem cb_trans : ∀ (a b c : List UInt8), Lib.compareBytes a b ≤ 0 → Lib.compareBytes b c ≤ 0 → Lib.compareBytes a c ≤ 0
  | [], _, [], _, _ => by simp [Lib.compareBytes]
  | [], _, _ :: _, _, _ => by simp [Lib.compareBytes]
  | _ :: _, [], _, h, _ => by simp [Lib.compareBytes] at h
  | _ :: _, _ :: _, [], _, h => by simp [Lib.compareBytes] at h
  | x :: a, y :: b, z :: c, h1, h2 => by
    have ih := cb_trans a b c
    simp only [Lib.compareBytes] at h1 h2 ⊢
    by_cases p1 : x < y
    · by_cases q1 : z < y
      · have q2 : ¬ y < z := by rw [UInt8.lt_iff_toNat_lt] at *; omega
        rw [if_neg q2, if_pos q1] at h2; omega
      · have r : x < z := by rw [UInt8.lt_iff_toNat_lt] at *; omega
        rw [if_pos r]; omega
    · by_cases p2 : y < x
      · rw [if_neg p1, if_pos p2] at h1; omega
      · rw [if_neg p1, if_neg p2] at h1
        by_cases q1 : y < z
        · have r : x < z := by rw [UInt8.lt_iff_toNat_lt] at *; omega
          rw [if_pos r]; omega
        · by_cases q2 : z < y
          · rw [if_neg q1, if_pos q2] at h2; omega
          · rw [if_neg q1, if_neg q2] at h2
            have r1 : ¬ x < z := by rw [UInt8.lt_iff_toNat_lt] at *; omega
            have r2 : ¬ z < x := by rw [UInt8.lt_iff_toNat_lt] at *; omega
            rw [if_neg r1, if_neg r2]
            exact ih h1 h2
/-- On which side of nought a number is. -/
def sideN (neg : Bool) (d : ByteArray) : Int := if d.size = 0 then 0 else if neg then -1 else 1
/-- How two numbers' sizes compare. -/
def magN (d1 : ByteArray) (e1 : Int) (d2 : ByteArray) (e2 : Int) : Int :=
  if (d1.size : Int) + e1 < d2.size + e2 then -1 else if (d2.size : Int) + e2 < d1.size + e1 then 1 else Lib.compareBytes d1.data.toList d2.data.toList
def cmpN (n1 : Bool) (d1 : ByteArray) (e1 : Int) (n2 : Bool) (d2 : ByteArray) (e2 : Int) : Int :=
  if sideN n1 d1 < sideN n2 d2 then -1 else if sideN n2 d2 < sideN n1 d1 then 1 else magN d1 e1 d2 e2 * sideN n1 d1
theorem mag_anti (d1 : ByteArray) (e1 : Int) (d2 : ByteArray) (e2 : Int) : magN d2 e2 d1 e1 = - magN d1 e1 d2 e2 := by
  unfold magN
  by_cases h1 : (d1.size : Int) + e1 < d2.size + e2
  · rw [if_neg (by omega), if_pos h1, if_pos h1]; rfl
  · by_cases h2 : (d2.size : Int) + e2 < d1.size + e1
    · rw [if_pos h2, if_neg h1, if_pos h2]
    · rw [if_neg h2, if_neg h1, if_neg h1, if_neg h2, cb_anti]
theorem mag_trans {d1 : ByteArray} {e1 : Int} {d2 : ByteArray} {e2 : Int} {d3 : ByteArray} {e3 : Int} (h1 : magN d1 e1 d2 e2 ≤ 0) (h2 : magN d2 e2 d3 e3 ≤ 0) : magN d1 e1 d3 e3 ≤ 0 := by
  unfold magN at *
  by_cases p1 : (d1.size : Int) + e1 < d2.size + e2
  · by_cases q : (d3.size : Int) + e3 < d2.size + e2
    · rw [if_neg (by omega), if_pos q] at h2; omega
    · rw [if_pos (by omega)]; omega
  · by_cases p2 : (d2.size : Int) + e2 < d1.size + e1
    · rw [if_neg p1, if_pos p2] at h1; omega
    · rw [if_neg p1, if_neg p2] at h1
      by_cases q1 : (d2.size : Int) + e2 < d3.size + e3
      · rw [if_pos (by omega)]; omega
      · by_cases q2 : (d3.size : Int) + e3 < d2.size + e2
        · rw [if_neg q1, if_pos q2] at h2; omega
        · rw [if_neg q1, if_neg q2] at h2
          rw [if_neg (by omega), if_neg (by omega)]
          exact cb_trans _ _ _ h1 h2
theorem side_cases (n : Bool) (d : ByteArray) : sideN n d = 0 ∨ sideN n d = 1 ∨ sideN n d = -1 := by
  unfold sideN
  split
  · exact .inl rfl
  · split
    · exact .inr (.inr rfl)
    · exact .inr (.inl rfl)
/-- Of three numbers, each at most the next one, the first one is at most the third one. -/
theorem cmpN_trans {n1 : Bool} {d1 : ByteArray} {e1 : Int} {n2 : Bool} {d2 : ByteArray} {e2 : Int} {n3 : Bool} {d3 : ByteArray} {e3 : Int} (h1 : cmpN n1 d1 e1 n2 d2 e2 ≤ 0) (h2 : cmpN n2 d2 e2 n3 d3 e3 ≤ 0) : cmpN n1 d1 e1 n3 d3 e3 ≤ 0 := by
  unfold cmpN at *
  by_cases p1 : sideN n1 d1 < sideN n2 d2
  · by_cases q : sideN n3 d3 < sideN n2 d2
    · rw [if_neg (by omega), if_pos q] at h2; omega
    · rw [if_pos (by omega)]; omega
  · by_cases p2 : sideN n2 d2 < sideN n1 d1
    · rw [if_neg p1, if_pos p2] at h1; omega
    · rw [if_neg p1, if_neg p2] at h1
      by_cases q1 : sideN n2 d2 < sideN n3 d3
      · rw [if_pos (by omega)]; omega
      · by_cases q2 : sideN n3 d3 < sideN n2 d2
        · rw [if_neg q1, if_pos q2] at h2; omega
        · rw [if_neg q1, if_neg q2] at h2
          rw [if_neg (by omega), if_neg (by omega)]
          have hs : sideN n2 d2 = sideN n1 d1 := by omega
          rw [hs] at h2
          rcases side_cases n1 d1 with h | h | h
          · rw [h]; omega
          · rw [h] at h1 h2 ⊢
            have := mag_trans (by omega : magN d1 e1 d2 e2 ≤ 0) (by omega : magN d2 e2 d3 e3 ≤ 0)
            omega
          · rw [h] at h1 h2 ⊢
            have a1 : magN d2 e2 d1 e1 ≤ 0 := by rw [mag_anti]; omega
            have a2 : magN d3 e3 d2 e2 ≤ 0 := by rw [mag_anti]; omega
            have a3 := mag_trans a2 a1
            rw [mag_anti] at a3
            omega
theorem cmpN_anti (n1 : Bool) (d1 : ByteArray) (e1 : Int) (n2 : Bool) (d2 : ByteArray) (e2 : Int) : cmpN n2 d2 e2 n1 d1 e1 = - cmpN n1 d1 e1 n2 d2 e2 := by
  unfold cmpN
  by_cases p1 : sideN n1 d1 < sideN n2 d2
  · rw [if_neg (by omega), if_pos p1, if_pos p1]; rfl
  · by_cases p2 : sideN n2 d2 < sideN n1 d1
    · rw [if_pos p2, if_neg p1, if_pos p2]
    · rw [if_neg p2, if_neg p1, if_neg p1, if_neg p2, mag_anti, show sideN n2 d2 = sideN n1 d1 by omega, Int.neg_mul]
end Go.Proofs.YthiggalnjjcejaaDoor
