/- The plain law of VarintAll: the numbers of a list of bytes, one by one. -/
import Derived.Test.YtoccanppfdeggaaVarP
namespace Go.Proofs.Ytoccanppfdeggaa

/-- Where a number is read, its bytes are one at least. -/
theorem get_pos {b : List UInt8} {N s : Nat} (h : get b = (N, s, 0)) : 0 < s ∧ s ≤ b.length ∧ N < 18446744073709551616 := by
  obtain ⟨h1, h2, h3, h4⟩ := put_get h
  exact ⟨by rw [h3]; exact List.length_pos_iff.2 (put_ne N), h2, h4⟩

def numsF : Nat → List UInt8 → List Nat
  | 0, _ => []
  | f + 1, b => if (get b).2.2 = 0 then (get b).1 :: numsF f (b.drop (get b).2.1) else []
/-- The numbers of b, up to where it goes wrong. -/
def nums (b : List UInt8) : List Nat := numsF b.length b

theorem get_nil : get [] = (0, 0, 2) := rfl

theorem numsF_more : ∀ (f : Nat) (b : List UInt8), b.length ≤ f → numsF f b = nums b
  | 0, b, h => by
    obtain rfl : b = [] := List.eq_nil_of_length_eq_zero (by omega)
    rfl
  | f + 1, b, h => by
    by_cases hb : b = []
    · subst hb
      simp [numsF, nums, get_nil]
    · obtain ⟨k, hk⟩ : ∃ k, b.length = k + 1 := ⟨b.length - 1, by have := List.length_pos_iff.2 hb; omega⟩
      unfold nums
      rw [hk]
      simp only [numsF]
      by_cases he : (get b).2.2 = 0
      · have hg : get b = ((get b).1, (get b).2.1, 0) := by rw [← he]
        obtain ⟨h1, h2, _⟩ := get_pos hg
        rw [if_pos he, if_pos he, numsF_more f _ (by rw [List.length_drop]; omega)]
        congr 1
        clear he hg
        have hkf : k ≤ f := by omega
        have := numsF_more k (b.drop (get b).2.1) (by rw [List.length_drop]; omega)
        exact this.symm
      · rw [if_neg he, if_neg he]
  termination_by f _ _ => f
  decreasing_by all_goals omega

theorem nums_step {b : List UInt8} {N s : Nat} (h : get b = (N, s, 0)) : nums b = N :: nums (b.drop s) := by
  obtain ⟨h1, h2, _⟩ := get_pos h
  obtain ⟨k, hk⟩ : ∃ k, b.length = k + 1 := ⟨b.length - 1, by omega⟩
  conv => lhs; unfold nums; rw [hk]; simp only [numsF]
  rw [h]
  simp only [if_true]
  rw [numsF_more k _ (by rw [List.length_drop]; omega)]

theorem nums_stop {b : List UInt8} {N s e : Nat} (h : get b = (N, s, e)) (he : e ≠ 0) : nums b = [] := by
  unfold nums
  cases b.length with
  | zero => rfl
  | succ k => simp only [numsF]; rw [h]; simp [he]

theorem nums_small : ∀ (k : Nat) (b : List UInt8), b.length ≤ k → ∀ n ∈ nums b, n < 18446744073709551616
  | 0, b, h, n, hn => by
    obtain rfl : b = [] := List.eq_nil_of_length_eq_zero (by omega)
    simp [nums, numsF] at hn
  | k + 1, b, h, n, hn => by
    by_cases he : (get b).2.2 = 0
    · have hg : get b = ((get b).1, (get b).2.1, 0) := by rw [← he]
      obtain ⟨h1, h2, h3⟩ := get_pos hg
      rw [nums_step hg] at hn
      rcases List.mem_cons.1 hn with rfl | hn
      · exact h3
      · exact nums_small k _ (by rw [List.length_drop]; omega) n hn
    · rw [nums_stop (b := b) (N := (get b).1) (s := (get b).2.1) rfl he] at hn
      cases hn

theorem nums_length : ∀ (k : Nat) (b : List UInt8), b.length ≤ k → (nums b).length ≤ b.length
  | 0, b, h => by
    obtain rfl : b = [] := List.eq_nil_of_length_eq_zero (by omega)
    simp [nums, numsF]
  | k + 1, b, h => by
    by_cases he : (get b).2.2 = 0
    · have hg : get b = ((get b).1, (get b).2.1, 0) := by rw [← he]
      obtain ⟨h1, h2, h3⟩ := get_pos hg
      rw [nums_step hg]
      have := nums_length k (b.drop (get b).2.1) (by rw [List.length_drop]; omega)
      rw [List.length_drop] at this
      simp; omega
    · rw [nums_stop (b := b) (N := (get b).1) (s := (get b).2.1) rfl he]; simp

/-- A list written number by number. -/
def putAll (l : List Nat) : List UInt8 := l.flatMap put

theorem putAll_snoc (l : List Nat) (n : Nat) : putAll (l ++ [n]) = putAll l ++ put n := by simp [putAll]

theorem nums_putAll : ∀ (l : List Nat), (∀ n ∈ l, n < 18446744073709551616) → nums (putAll l) = l
  | [], _ => by simp [putAll, nums, numsF]
  | n :: l, h => by
    have hn := h n (by simp)
    have e : putAll (n :: l) = put n ++ putAll l := by simp [putAll]
    rw [e, nums_step (get_put hn _), List.drop_left]
    rw [nums_putAll l (fun m hm => h m (by simp [hm]))]

theorem putAll_length : ∀ (l : List Nat), (∀ n ∈ l, n < 18446744073709551616) → (putAll l).length ≤ 10 * l.length
  | [], _ => by simp [putAll]
  | n :: l, h => by
    have h1 := put_length_ten (h n (by simp))
    have h2 := putAll_length l (fun m hm => h m (by simp [hm]))
    have e : putAll (n :: l) = put n ++ putAll l := by simp [putAll]
    rw [e]
    simp only [List.length_append, List.length_cons]
    omega
end Go.Proofs.Ytoccanppfdeggaa
