/- The grammar of numbers' texts, plain (layer 6): the automaton reads what the grammar says; a text that is read whole parts into its pieces. -/
import Derived.Test.YthiggalnjjcejaaDoorNumA
namespace Go.Proofs.YthiggalnjjcejaaDoor
set_option linter.unusedSimpArgs false
set_option linter.unusedVariables false

abbrev Bs := List UInt8
def dg (c : UInt8) : Bool := dig c.toNat
/-- How many digits a text begins with. -/
def digs : Bs → Nat
  | [] => 0
  | c :: l => if dg c then digs l + 1 else 0
theorem digs_le : ∀ l : Bs, digs l ≤ l.length
  | [] => Nat.le_refl _
  | c :: l => by
    have := digs_le l
    simp only [digs, List.length_cons]
    split <;> omega
theorem digs_app : ∀ (a b : Bs), a.all dg = true → digs (a ++ b) = a.length + digs b
  | [], b, _ => by simp
  | c :: a, b, h => by
    rw [List.all_cons, Bool.and_eq_true] at h
    rw [List.cons_append, digs, if_pos h.1, digs_app a b h.2, List.length_cons]
    omega
theorem digs_take : ∀ l : Bs, (l.take (digs l)).all dg = true
  | [] => rfl
  | c :: l => by
    rw [digs]
    split
    · next h => rw [List.take_succ_cons, List.all_cons, h, digs_take l]; rfl
    · rfl
theorem digs_none : ∀ (l : Bs), (∀ c, l.head? = some c → dg c = false) → digs l = 0
  | [], _ => rfl
  | c :: l, h => by rw [digs, h c rfl]; rfl
theorem digs_drop : ∀ (l : Bs), ∀ c, (l.drop (digs l)).head? = some c → dg c = false
  | [], c, h => by simp [digs] at h
  | a :: l, c, h => by
    rw [digs] at h
    split at h
    · rw [List.drop_succ_cons] at h; exact digs_drop l c h
    · next hn => simp at h; subst h; simpa using hn

/-- How long the fraction is that a text begins with. -/
def fracS : Bs → Nat
  | [] => 0
  | p :: l => if p = 46 ∧ digs l ≠ 0 then 1 + digs l else 0
def sgS : Bs → Nat
  | [] => 0
  | c :: _ => if c = 43 ∨ c = 45 then 1 else 0
def powS : Bs → Nat
  | [] => 0
  | m :: t => if (m = 101 ∨ m = 69) ∧ digs (t.drop (sgS t)) ≠ 0 then 1 + sgS t + digs (t.drop (sgS t)) else 0
def intS : Bs → Nat
  | [] => 0
  | c :: l => if c = 48 then 1 else digs (c :: l)
def mnS : Bs → Nat
  | [] => 0
  | c :: _ => if c = 45 then 1 else 0
def tailS (l : Bs) : Nat := fracS l + powS (l.drop (fracS l))
/-- How long the longest number's text is that a text begins with. -/
def scanN (l : Bs) : Nat :=
  if intS (l.drop (mnS l)) = 0 then 0 else mnS l + intS (l.drop (mnS l)) + tailS (l.drop (mnS l + intS (l.drop (mnS l))))

/-! The automaton. -/
def signN (c : UInt8) : Nat := if c = 45 then 0 else if c = 43 then 1 else if c = 48 then 2 else if 49 ≤ c.toNat ∧ c.toNat ≤ 57 then 3 else if c = 46 then 4 else if c = 101 ∨ c = 69 then 5 else 6
def stepsN : List Nat := [1, 9, 2, 3, 9, 9, 9,  9, 9, 2, 3, 9, 9, 9,  9, 9, 9, 9, 4, 6, 9,  9, 9, 3, 3, 4, 6, 9,  9, 9, 5, 5, 9, 9, 9,  9, 9, 5, 5, 9, 6, 9,  7, 7, 8, 8, 9, 9, 9,  9, 9, 8, 8, 9, 9, 9,  9, 9, 8, 8, 9, 9, 9]
def stepN (st sg : Nat) : Nat := stepsN.getD (7 * st + sg) 9
def wholeB (st : Nat) : Bool := st == 2 || (st == 3 || (st == 5 || st == 8))
def autoS : Nat → Nat → Nat → Bs → Nat
  | _, _, L, [] => L
  | st, i, L, c :: l => if stepN st (signN c) = 9 then L else autoS (stepN st (signN c)) (i + 1) (if wholeB (stepN st (signN c)) then i + 1 else L) l
inductive Sort6 (c : UInt8) : Prop
  | minus : c = 45 → dg c = false → signN c = 0 → Sort6 c
  | plus : c = 43 → dg c = false → signN c = 1 → Sort6 c
  | nought : c = 48 → dg c = true → signN c = 2 → Sort6 c
  | digit : dg c = true → c ≠ 48 → c ≠ 45 → c ≠ 43 → c ≠ 46 → c ≠ 101 → c ≠ 69 → signN c = 3 → Sort6 c
  | point : c = 46 → dg c = false → signN c = 4 → Sort6 c
  | mark : (c = 101 ∨ c = 69) → c ≠ 46 → c ≠ 45 → c ≠ 43 → c ≠ 48 → dg c = false → signN c = 5 → Sort6 c
  | other : c ≠ 45 → c ≠ 43 → c ≠ 48 → dg c = false → c ≠ 46 → c ≠ 101 → c ≠ 69 → signN c = 6 → Sort6 c
theorem sort6 (c : UInt8) : Sort6 c := by
  by_cases h1 : c = 45
  · subst h1; exact .minus rfl rfl rfl
  by_cases h2 : c = 43
  · subst h2; exact .plus rfl rfl rfl
  by_cases h3 : c = 48
  · subst h3; exact .nought rfl rfl rfl
  by_cases h4 : 49 ≤ c.toNat ∧ c.toNat ≤ 57
  · refine .digit (by simp only [dg, dig, decide_eq_true_eq]; omega) h3 h1 h2 ?_ ?_ ?_ (by rw [signN, if_neg h1, if_neg h2, if_neg h3, if_pos h4]) <;> (rintro rfl; revert h4; decide)
  have hd : dg c = false := by
    rw [Bool.eq_false_iff]
    intro h
    simp only [dg, dig, decide_eq_true_eq] at h
    have : c.toNat ≠ 48 := fun e => h3 (UInt8.toNat_inj.1 e)
    omega
  by_cases h5 : c = 46
  · subst h5; exact .point rfl rfl rfl
  by_cases h6 : c = 101 ∨ c = 69
  · exact .mark h6 h5 h1 h2 h3 hd (by rw [signN, if_neg h1, if_neg h2, if_neg h3, if_neg h4, if_neg h5, if_pos h6])
  · exact .other h1 h2 h3 hd h5 (fun h => h6 (.inl h)) (fun h => h6 (.inr h)) (by rw [signN, if_neg h1, if_neg h2, if_neg h3, if_neg h4, if_neg h5, if_neg h6])

theorem auto_cons (st i L : Nat) (c : UInt8) (l : Bs) : autoS st i L (c :: l) = if stepN st (signN c) = 9 then L else autoS (stepN st (signN c)) (i + 1) (if wholeB (stepN st (signN c)) then i + 1 else L) l := rfl
theorem auto8 : ∀ (l : Bs) (i : Nat), autoS 8 i i l = i + digs l
  | [], i => rfl
  | c :: l, i => by
    have ih := auto8 l (i + 1)
    rw [auto_cons, digs]
    cases sort6 c <;> simp_all [stepN, stepsN, wholeB] <;> omega
theorem auto7 (l : Bs) (i L : Nat) : autoS 7 i L l = if digs l = 0 then L else i + digs l := by
  cases l with
  | nil => rfl
  | cons c l =>
    have ih := auto8 l (i + 1)
    rw [auto_cons, digs]
    cases sort6 c <;> simp_all [stepN, stepsN, wholeB] <;> omega
theorem auto6 (m : UInt8) (l : Bs) (i : Nat) (hm : m = 101 ∨ m = 69) : autoS 6 (i + 1) i l = i + powS (m :: l) := by
  rw [powS]
  simp only [hm, true_and]
  cases l with
  | nil => rfl
  | cons c l =>
    have ih := auto8 l (i + 2)
    have i7 := auto7 l (i + 2) i
    rw [auto_cons, sgS]
    cases sort6 c with
    | minus h h2 h3 => 
      subst h
      simp [stepN, stepsN, wholeB, h3, i7]
      split <;> omega
    | plus h h2 h3 =>
      subst h
      simp [stepN, stepsN, wholeB, h3, i7]
      split <;> omega
    | nought h h2 h3 =>
      subst h
      simp [stepN, stepsN, wholeB, h3, ih, digs, h2]
      omega
    | digit h h1 h2 h4 h5 h6 h7 h3 =>
      simp [stepN, stepsN, wholeB, h3, ih, digs, h, h2, h4]
      omega
    | point h h2 h3 =>
      subst h
      simp [stepN, stepsN, h3, digs, h2]
    | mark h h1 h2 h4 h5 h6 h3 =>
      simp [stepN, stepsN, h3, digs, h2, h4, h6]
    | other h h1 h2 h4 h5 h6 h7 h3 =>
      simp [stepN, stepsN, h3, digs, h, h1, h4]
theorem auto5 : ∀ (l : Bs) (i : Nat), autoS 5 i i l = i + digs l + powS (l.drop (digs l))
  | [], i => rfl
  | c :: l, i => by
    have ih := auto5 l (i + 1)
    have i6 := auto6 c l i
    rw [auto_cons, digs]
    cases sort6 c with
    | minus h h2 h3 => subst h; simp [stepN, stepsN, h3, h2, powS]
    | plus h h2 h3 => subst h; simp [stepN, stepsN, h3, h2, powS]
    | nought h h2 h3 => subst h; simp [stepN, stepsN, wholeB, h3, h2, ih]; omega
    | digit h h1 h2 h4 h5 h6 h7 h3 => simp [stepN, stepsN, wholeB, h3, h, ih]; omega
    | point h h2 h3 => subst h; simp [stepN, stepsN, h3, h2, powS]
    | mark h h1 h2 h4 h5 h6 h3 => simp [stepN, stepsN, wholeB, h3, h6, i6 h]
    | other h h1 h2 h4 h5 h6 h7 h3 => simp [stepN, stepsN, h3, h4, powS, h6, h7]
theorem auto4 (l : Bs) (i : Nat) : autoS 4 (i + 1) i l = i + tailS (46 :: l) := by
  cases l with
  | nil => rfl
  | cons c l =>
    have ih := auto5 l (i + 2)
    rw [auto_cons, tailS, fracS, digs]
    have hp : ∀ x, powS (46 :: x) = 0 := fun x => by simp [powS]
    cases sort6 c with
    | minus h h2 h3 => subst h; simp [stepN, stepsN, h3, h2, hp]
    | plus h h2 h3 => subst h; simp [stepN, stepsN, h3, h2, hp]
    | nought h h2 h3 => subst h; simp [stepN, stepsN, wholeB, h3, h2, ih, Nat.add_comm 1]; omega
    | digit h h1 h2 h4 h5 h6 h7 h3 => simp [stepN, stepsN, wholeB, h3, h, ih, Nat.add_comm 1]; omega
    | point h h2 h3 => subst h; simp [stepN, stepsN, h3, h2, hp]
    | mark h h1 h2 h4 h5 h6 h3 => simp [stepN, stepsN, h3, h6, hp]
    | other h h1 h2 h4 h5 h6 h7 h3 => simp [stepN, stepsN, h3, h4, hp]
theorem auto2 (l : Bs) (i : Nat) : autoS 2 i i l = i + tailS l := by
  cases l with
  | nil => rfl
  | cons c l =>
    have i4 := auto4 l i
    have i6 := auto6 c l i
    rw [auto_cons]
    cases sort6 c with
    | minus h h2 h3 => subst h; simp [stepN, stepsN, h3, tailS, fracS, powS]
    | plus h h2 h3 => subst h; simp [stepN, stepsN, h3, tailS, fracS, powS]
    | nought h h2 h3 => subst h; simp [stepN, stepsN, h3, tailS, fracS, powS]
    | digit h h1 h2 h4 h5 h6 h7 h3 => simp [stepN, stepsN, h3, tailS, fracS, powS, h5, h6, h7]
    | point h h2 h3 => subst h; simp [stepN, stepsN, wholeB, h3, i4]
    | mark h h1 h2 h4 h5 h6 h3 => simp [stepN, stepsN, wholeB, h3, i6 h, tailS, fracS, h1]
    | other h h1 h2 h4 h5 h6 h7 h3 => simp [stepN, stepsN, h3, tailS, fracS, powS, h5, h6, h7]
theorem auto3 : ∀ (l : Bs) (i : Nat), autoS 3 i i l = i + digs l + tailS (l.drop (digs l))
  | [], i => rfl
  | c :: l, i => by
    have ih := auto3 l (i + 1)
    have i4 := auto4 l i
    have i6 := auto6 c l i
    rw [auto_cons, digs]
    cases sort6 c with
    | minus h h2 h3 => subst h; simp [stepN, stepsN, h3, h2, tailS, fracS, powS]
    | plus h h2 h3 => subst h; simp [stepN, stepsN, h3, h2, tailS, fracS, powS]
    | nought h h2 h3 => subst h; simp [stepN, stepsN, wholeB, h3, h2, ih]; omega
    | digit h h1 h2 h4 h5 h6 h7 h3 => simp [stepN, stepsN, wholeB, h3, h, ih]; omega
    | point h h2 h3 => subst h; simp [stepN, stepsN, wholeB, h3, h2, i4]
    | mark h h1 h2 h4 h5 h6 h3 => simp [stepN, stepsN, wholeB, h3, i6 h, tailS, fracS, h1, h6]
    | other h h1 h2 h4 h5 h6 h7 h3 => simp [stepN, stepsN, h3, h4, tailS, fracS, powS, h5, h6, h7]
theorem auto1 (l : Bs) (i : Nat) : autoS 1 i 0 l = if intS l = 0 then 0 else i + intS l + tailS (l.drop (intS l)) := by
  cases l with
  | nil => rfl
  | cons c l =>
    have i2 := auto2 l (i + 1)
    have i3 := auto3 l (i + 1)
    rw [auto_cons, intS]
    cases sort6 c with
    | minus h h2 h3 => subst h; simp [stepN, stepsN, h3, h2, digs]
    | plus h h2 h3 => subst h; simp [stepN, stepsN, h3, h2, digs]
    | nought h h2 h3 => subst h; simp [stepN, stepsN, wholeB, h3, i2]
    | digit h h1 h2 h4 h5 h6 h7 h3 => simp [stepN, stepsN, wholeB, h3, h, i3, h1, digs]; omega
    | point h h2 h3 => subst h; simp [stepN, stepsN, h3, h2, digs]
    | mark h h1 h2 h4 h5 h6 h3 => simp [stepN, stepsN, h3, h5, h6, digs]
    | other h h1 h2 h4 h5 h6 h7 h3 => simp [stepN, stepsN, h3, h2, h4, digs]
/-- The automaton reads what the grammar says. -/
theorem auto_scan (l : Bs) : autoS 0 0 0 l = scanN l := by
  cases l with
  | nil => rfl
  | cons c l =>
    have i1 := auto1 l 1
    have i2 := auto2 l 1
    have i3 := auto3 l 1
    rw [auto_cons, scanN, mnS]
    cases sort6 c with
    | minus h h2 h3 => subst h; simp [stepN, stepsN, wholeB, h3, i1, Nat.add_comm 1, Nat.add_assoc]
    | plus h h2 h3 => subst h; simp [stepN, stepsN, h3, h2, intS, digs]
    | nought h h2 h3 => subst h; simp [stepN, stepsN, wholeB, h3, i2, intS]
    | digit h h1 h2 h4 h5 h6 h7 h3 => simp [stepN, stepsN, wholeB, h3, h, i3, h1, h2, digs, intS]; omega
    | point h h2 h3 => subst h; simp [stepN, stepsN, h3, h2, intS, digs]
    | mark h h1 h2 h4 h5 h6 h3 => simp [stepN, stepsN, h3, h5, h6, h2, intS, digs]
    | other h h1 h2 h4 h5 h6 h7 h3 => simp [stepN, stepsN, h3, h, h2, h4, intS, digs]
end Go.Proofs.YthiggalnjjcejaaDoor
