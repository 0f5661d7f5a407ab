/- Plain law of layer 5: what a reader tells, what frames are, without any program. -/
import Derived.Test.YtoccanppfdeggaaVarP
namespace Go.Proofs.Ytoccanppfdeggaa

/-- The next bytes: what is told, what is left, the error. -/
def rdTake (n : Int) (l : List UInt8) (e : Nat) : List UInt8 × List UInt8 × Nat :=
  if e ≠ 0 then ([], l, e) else if (l.length : Int) < max n 0 then ([], l, 2) else (l.take (max n 0).toNat, l.drop (max n 0).toNat, 0)
/-- The next number. -/
def rdNum (l : List UInt8) (e : Nat) : Nat × List UInt8 × Nat :=
  if e ≠ 0 then (0, l, e) else if (get l).2.2 ≠ 0 then (0, l, (get l).2.2) else ((get l).1, l.drop (get l).2.1, 0)
/-- The next frame. -/
def rdFrame (most : Int) (l : List UInt8) (e : Nat) : List UInt8 × List UInt8 × Nat :=
  if e ≠ 0 then ([], l, e) else if (get l).2.2 ≠ 0 then ([], l, (get l).2.2) else
  if max most 0 < ((get l).1 : Int) then ([], l, 4) else if l.length - (get l).2.1 < (get l).1 then ([], l, 2) else
  ((l.drop (get l).2.1).take (get l).1, l.drop ((get l).2.1 + (get l).1), 0)

abbrev big : Int := 9223372036854775807
def splitF : Nat → List UInt8 → List (List UInt8) × Nat
  | 0, _ => ([], 0)
  | k + 1, l => if l = [] then ([], 0) else if (rdFrame big l 0).2.2 ≠ 0 then ([], (rdFrame big l 0).2.2) else
    if (splitF k (rdFrame big l 0).2.1).2 ≠ 0 then ([], (splitF k (rdFrame big l 0).2.1).2) else ((rdFrame big l 0).1 :: (splitF k (rdFrame big l 0).2.1).1, 0)
def split (l : List UInt8) : List (List UInt8) × Nat := splitF l.length l

/-- The frames of a list, one behind the other. -/
def puts (fs : List (List UInt8)) : List UInt8 := fs.flatMap fun b => put b.length ++ b
theorem puts_cons (b : List UInt8) (fs : List (List UInt8)) : puts (b :: fs) = put b.length ++ (b ++ puts fs) := by simp [puts]
theorem puts_append (a b : List (List UInt8)) : puts (a ++ b) = puts a ++ puts b := by simp [puts]
theorem puts_nil : puts [] = [] := rfl
theorem puts_snoc (a : List (List UInt8)) (b : List UInt8) : puts (a ++ [b]) = puts a ++ put b.length ++ b := by simp [puts]

theorem get_err {l : List UInt8} : (get l).2.2 = 0 → 1 ≤ (get l).2.1 ∧ (get l).2.1 ≤ l.length ∧ (get l).1 < 18446744073709551616 := by
  intro h
  obtain ⟨h1, h2, h3, h4⟩ := put_get (b := l) (N := (get l).1) (s := (get l).2.1) (by rw [← h])
  have := List.length_pos_iff.2 (put_ne (get l).1)
  omega

/-- A frame that is told leaves less. -/
theorem rdFrame_less {most : Int} {l : List UInt8} (h : (rdFrame most l 0).2.2 = 0) (hl : l ≠ []) : (rdFrame most l 0).2.1.length < l.length := by
  have hp := List.length_pos_iff.2 hl
  unfold rdFrame at h ⊢
  simp only [ne_eq, not_true_eq_false, if_false] at h ⊢
  by_cases h1 : (get l).2.2 = 0
  · have := get_err h1
    rw [if_neg (by simp [h1])] at h ⊢
    by_cases h2 : max most 0 < ((get l).1 : Int)
    · rw [if_pos h2] at h; simp at h
    · rw [if_neg h2] at h ⊢
      by_cases h3 : l.length - (get l).2.1 < (get l).1
      · rw [if_pos h3] at h; simp at h
      · rw [if_neg h3]; simp; omega
  · rw [if_pos h1] at h; exact absurd h h1

theorem rdFrame_len (most : Int) (l : List UInt8) (e : Nat) : (rdFrame most l e).2.1.length ≤ l.length ∧ (rdFrame most l e).1.length ≤ l.length := by
  unfold rdFrame
  split
  · simp
  split
  · simp
  split
  · simp
  split
  · simp
  · simp; omega

theorem splitF_same : ∀ (k j : Nat) (l : List UInt8), l.length ≤ k → l.length ≤ j → splitF k l = splitF j l
  | 0, 0, _, _, _ => rfl
  | 0, j + 1, l, h, _ => by
    have : l = [] := List.eq_nil_of_length_eq_zero (by omega)
    subst this; simp [splitF]
  | k + 1, 0, l, _, h => by
    have : l = [] := List.eq_nil_of_length_eq_zero (by omega)
    subst this; simp [splitF]
  | k + 1, j + 1, l, h1, h2 => by
    by_cases hl : l = []
    · subst hl; simp [splitF]
    · simp only [splitF, if_neg hl]
      by_cases he : (rdFrame big l 0).2.2 = 0
      · have := rdFrame_less he hl
        rw [splitF_same k j _ (by omega) (by omega)]
      · simp [he]

theorem split_nil : split [] = ([], 0) := rfl
theorem split_step {l : List UInt8} (hl : l ≠ []) : split l = if (rdFrame big l 0).2.2 ≠ 0 then ([], (rdFrame big l 0).2.2) else
    if (split (rdFrame big l 0).2.1).2 ≠ 0 then ([], (split (rdFrame big l 0).2.1).2) else ((rdFrame big l 0).1 :: (split (rdFrame big l 0).2.1).1, 0) := by
  unfold split
  obtain ⟨k, hk⟩ : ∃ k, l.length = k + 1 := ⟨l.length - 1, by have := List.length_pos_iff.2 hl; omega⟩
  rw [hk]
  simp only [splitF, if_neg hl]
  by_cases he : (rdFrame big l 0).2.2 = 0
  · have := rdFrame_less he hl
    rw [splitF_same k (rdFrame big l 0).2.1.length _ (by omega) (Nat.le_refl _)]
  · simp [he]

/-- What is told so far, and the rest's answer. -/
def fore (o : List (List UInt8)) (r : List (List UInt8) × Nat) : List (List UInt8) × Nat := if r.2 ≠ 0 then ([], r.2) else (o ++ r.1, 0)
theorem fore_nil (l : List UInt8) : fore [] (split l) = split l := by
  unfold fore
  by_cases h : (split l).2 = 0
  · simp [h, Prod.ext_iff]
  · rw [if_pos h]
    by_cases hl : l = []
    · subst hl; exact absurd rfl h
    · rw [split_step hl] at h ⊢
      split
      · rfl
      · split
        · rfl
        · rename_i h1 h2; rw [if_neg h1, if_neg h2] at h; simp at h
theorem fore_end (o : List (List UInt8)) : fore o (split []) = (o, 0) := by simp [fore, split_nil]
theorem fore_bad {o : List (List UInt8)} {l : List UInt8} (hl : l ≠ []) (he : (rdFrame big l 0).2.2 ≠ 0) : fore o (split l) = ([], (rdFrame big l 0).2.2) := by
  rw [split_step hl, if_pos he]; simp [fore, he]
theorem fore_good {o : List (List UInt8)} {l : List UInt8} (hl : l ≠ []) (he : (rdFrame big l 0).2.2 = 0) : fore o (split l) = fore (o ++ [(rdFrame big l 0).1]) (split (rdFrame big l 0).2.1) := by
  rw [split_step hl, if_neg (by simp [he])]
  by_cases h : (split (rdFrame big l 0).2.1).2 = 0
  · rw [if_neg (by simp [h])]; simp [fore, h]
  · rw [if_pos h]; simp [fore, h]

/-- What is split is put together again. -/
theorem puts_split : ∀ (k : Nat) (l : List UInt8), l.length ≤ k → (split l).2 = 0 → puts (split l).1 = l
  | k, l, hk, h => by
    by_cases hl : l = []
    · subst hl; rfl
    rw [split_step hl] at h ⊢
    by_cases he : (rdFrame big l 0).2.2 = 0
    · rw [if_neg (by simp [he])] at h ⊢
      by_cases h2 : (split (rdFrame big l 0).2.1).2 = 0
      · rw [if_neg (by simp [h2])]
        have hless := rdFrame_less he hl
        cases k with
        | zero => omega
        | succ k =>
          have ih := puts_split k (rdFrame big l 0).2.1 (by omega) h2
          rw [puts_cons, ih]
          clear ih h h2 hless
          unfold rdFrame at he ⊢
          simp only [ne_eq, not_true_eq_false, if_false] at he ⊢
          by_cases h1 : (get l).2.2 = 0
          · obtain ⟨g1, g2, g3, g4⟩ := put_get (b := l) (N := (get l).1) (s := (get l).2.1) (by rw [← h1])
            rw [if_neg (by simp [h1])] at he ⊢
            by_cases h2 : max big 0 < ((get l).1 : Int)
            · rw [if_pos h2] at he; simp at he
            · rw [if_neg h2] at he ⊢
              by_cases h3 : l.length - (get l).2.1 < (get l).1
              · rw [if_pos h3] at he; simp at he
              · rw [if_neg h3]
                have hlen : ((l.drop (get l).2.1).take (get l).1).length = (get l).1 := by simp; omega
                simp only [hlen, g1]
                rw [← List.drop_drop, List.take_append_drop, List.take_append_drop]
          · rw [if_pos h1] at he; exact absurd he h1
      · rw [if_pos h2] at h; exact absurd h h2
    · rw [if_pos he] at h; exact absurd h he

/-- A frame ahead of anything. -/
theorem rdFrame_put (b more : List UInt8) (hb : b.length ≤ 9223372036854775807) : rdFrame big (put b.length ++ (b ++ more)) 0 = (b, more, 0) := by
  have hg := get_put (n := b.length) (by omega) (b ++ more)
  unfold rdFrame
  rw [hg]
  simp only [ne_eq, not_true_eq_false, if_false]
  rw [if_neg (by unfold big; omega), if_neg (by simp)]
  rw [← List.drop_drop, List.drop_left]
  simp

theorem put_append_ne (n : Nat) (l : List UInt8) : put n ++ l ≠ [] := by simp [put_ne]

/-- What is put is split into what it was. -/
theorem split_puts : ∀ (fs : List (List UInt8)), (∀ b ∈ fs, b.length ≤ 9223372036854775807) → split (puts fs) = (fs, 0)
  | [], _ => rfl
  | b :: fs, h => by
    rw [puts_cons, split_step (put_append_ne _ _), rdFrame_put _ _ (h b (by simp))]
    simp only [ne_eq, not_true_eq_false, if_false]
    rw [split_puts fs fun x hx => h x (by simp [hx])]
    simp

/-- Cut short, it lacks something. -/
theorem split_cut : ∀ (fs : List (List UInt8)) (n : Nat), (∀ b ∈ fs, b.length ≤ 9223372036854775807) → (split ((puts fs).take n)).2 = 0 ∨ (split ((puts fs).take n)).2 = 2
  | [], n, _ => by simp [puts_nil, split_nil]
  | b :: fs, n, h => by
    rw [puts_cons]
    have hb := h b (by simp)
    by_cases h0 : n = 0
    · subst h0; simp [split_nil]
    have hp := List.length_pos_iff.2 (put_ne b.length)
    by_cases h1 : n < (put b.length).length
    · have hne : (put b.length).take n ≠ [] := by intro h; have := congrArg List.length h; rw [List.length_take, List.length_nil] at this; omega
      have e : (put b.length ++ (b ++ puts fs)).take n = (put b.length).take n := by rw [List.take_append_of_le_length (by omega)]
      rw [e, split_step hne]
      have hf : rdFrame big ((put b.length).take n) 0 = ([], (put b.length).take n, 2) := by
        unfold rdFrame; rw [get_cut (by omega) h1]; simp
      rw [hf]; simp
    · obtain ⟨k, rfl⟩ : ∃ k, n = (put b.length).length + k := ⟨n - (put b.length).length, by omega⟩
      have e : (put b.length ++ (b ++ puts fs)).take ((put b.length).length + k) = put b.length ++ (b ++ puts fs).take k := List.take_length_add_append _
      rw [e]
      by_cases h2 : k < b.length
      · have e2 : (b ++ puts fs).take k = b.take k := by rw [List.take_append_of_le_length (by omega)]
        rw [e2, split_step (put_append_ne _ _)]
        have hf : rdFrame big (put b.length ++ b.take k) 0 = ([], put b.length ++ b.take k, 2) := by
          unfold rdFrame; rw [get_put (by omega)]
          simp only [ne_eq, not_true_eq_false, if_false]
          rw [if_neg (by unfold big; omega), if_pos (by simp; omega)]
        rw [hf]; simp
      · obtain ⟨j, rfl⟩ : ∃ j, k = b.length + j := ⟨k - b.length, by omega⟩
        rw [List.take_length_add_append, split_step (put_append_ne _ _), rdFrame_put _ _ hb]
        simp only [ne_eq, not_true_eq_false, if_false]
        have ih := split_cut fs j fun x hx => h x (by simp [hx])
        rcases ih with ih | ih <;> simp [ih]

theorem puts_length_le : ∀ (fs : List (List UInt8)) (M : Nat), (∀ b ∈ fs, b.length ≤ M) → M < 18446744073709551616 → (puts fs).length ≤ fs.length * (M + 10)
  | [], _, _, _ => by simp [puts_nil]
  | b :: fs, M, h, hM => by
    have ih := puts_length_le fs M (fun x hx => h x (by simp [hx])) hM
    have hb := h b (by simp)
    have := put_length_ten (n := b.length) (by omega)
    rw [puts_cons]; simp only [List.length_append, List.length_cons, Nat.add_mul]; omega
theorem splitF_len : ∀ (k : Nat) (l : List UInt8), (splitF k l).1.length ≤ k
  | 0, _ => by simp [splitF]
  | k + 1, l => by
    have := splitF_len k (rdFrame big l 0).2.1
    unfold splitF
    split
    · simp
    split
    · simp
    split
    · simp
    · simp; omega
theorem split_len (l : List UInt8) : (split l).1.length ≤ l.length := splitF_len _ _
end Go.Proofs.Ytoccanppfdeggaa
