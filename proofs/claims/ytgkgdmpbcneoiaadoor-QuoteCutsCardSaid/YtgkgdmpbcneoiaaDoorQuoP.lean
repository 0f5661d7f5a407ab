/- Plain law of layer 7: quoted texts, without any program. -/
import Derived.Test.YtgkgdmpbcneoiaaDoorUtfP
namespace Go.Proofs.YtgkgdmpbcneoiaaDoor

/-- A hexadecimal digit's value. -/
def hexV (c : Nat) : Option Nat := if 48 ≤ c ∧ c ≤ 57 then some (c - 48) else if 97 ≤ c ∧ c ≤ 102 then some (c - 87) else if 65 ≤ c ∧ c ≤ 70 then some (c - 55) else none
/-- The number of so many digits; the error. -/
def unitF : Nat → Nat → List Nat → Nat × Nat
  | 0, n, _ => (n, 0)
  | _ + 1, _, [] => (0, 2)
  | k + 1, n, c :: r => match hexV c with
    | none => (0, 3)
    | some d => unitF k (n * 16 + d) r
def unitQ (l : List Nat) : Nat × Nat := unitF 4 0 l

/-- What a part stands for, its size, the error. -/
abbrev PartR := List Nat × Nat × Nat
def errR (e : Nat) : PartR := ([], 0, e)
/-- The second half of a pair, behind the first number n: from the second backslash on. -/
def lowQ (n : Nat) : List Nat → PartR
  | [] => errR 2
  | c :: t => if c ≠ 92 then errR 3 else match t with
    | [] => errR 2
    | d :: u => if d ≠ 117 then errR 3 else if (unitQ u).2 ≠ 0 then errR (unitQ u).2 else
      if (unitQ u).1 < 56320 ∨ 57343 < (unitQ u).1 then errR 3 else (putN (65536 + (n - 55296) * 1024 + ((unitQ u).1 - 56320)), 12, 0)
/-- Behind a backslash and u. -/
def codedQ (r : List Nat) : PartR :=
  if (unitQ r).2 ≠ 0 then errR (unitQ r).2 else
  if 56320 ≤ (unitQ r).1 ∧ (unitQ r).1 ≤ 57343 then errR 3 else
  if (unitQ r).1 < 55296 ∨ 57343 < (unitQ r).1 then (putN (unitQ r).1, 6, 0) else lowQ (unitQ r).1 (r.drop 4)
/-- The byte that a sign behind a backslash stands for. -/
def escB (c : Nat) : Option Nat :=
  if c = 34 ∨ c = 92 ∨ c = 47 then some c else if c = 98 then some 8 else if c = 102 then some 12 else if c = 110 then some 10 else if c = 114 then some 13 else if c = 116 then some 9 else none
/-- Behind a backslash. -/
def escQ : List Nat → PartR
  | [] => errR 2
  | c :: r => match escB c with
    | some b => ([b], 2, 0)
    | none => if c = 117 then codedQ r else errR 3
def partQ : List Nat → PartR
  | [] => errR 2
  | c :: r => if c < 32 then errR 3 else if c = 92 then escQ r else if (oneN (c :: r)).2 = 0 then errR 7 else ((c :: r).take (oneN (c :: r)).2, (oneN (c :: r)).2, 0)

theorem unitF_val : ∀ (k n : Nat) (l : List Nat), (unitF k n l).2 = 0 → k ≤ l.length ∧ (unitF k n l).1 < (n + 1) * 16 ^ k
  | 0, n, l, _ => by simp [unitF]
  | k + 1, n, [], h => by simp [unitF] at h
  | k + 1, n, c :: r, h => by
    simp only [unitF] at h ⊢
    cases hc : hexV c with
    | none => rw [hc] at h; simp at h
    | some d =>
      rw [hc] at h
      simp only at h
      have hd : d < 16 := by
        unfold hexV at hc
        split at hc
        · cases hc; omega
        split at hc
        · cases hc; omega
        split at hc
        · cases hc; omega
        · cases hc
      obtain ⟨h1, h2⟩ := unitF_val k _ r h
      refine ⟨by simp; omega, Nat.lt_of_lt_of_le h2 ?_⟩
      have : n * 16 + d + 1 ≤ (n + 1) * 16 := by omega
      calc (n * 16 + d + 1) * 16 ^ k ≤ ((n + 1) * 16) * 16 ^ k := Nat.mul_le_mul_right _ this
        _ = (n + 1) * 16 ^ (k + 1) := by rw [Nat.pow_succ]; ac_rfl
theorem unitQ_val {l : List Nat} (h : (unitQ l).2 = 0) : 4 ≤ l.length ∧ (unitQ l).1 < 65536 := by
  have := unitF_val 4 0 l h
  exact ⟨this.1, by have := this.2; simpa [unitQ] using this⟩

theorem errR_err {e : Nat} (h : (errR e).2.2 = 0) : e = 0 := h
set_option maxRecDepth 20000 in
theorem lowQ_ok {n : Nat} {l : List Nat} (hn : 55296 ≤ n ∧ n ≤ 56319) (h : (lowQ n l).2.2 = 0) : ∃ c, isSc c = true ∧ (lowQ n l).1 = putN c ∧ (lowQ n l).2.1 = 12 ∧ 6 ≤ l.length := by
  unfold lowQ at h ⊢
  match l with
  | [] => simp [errR] at h
  | [c] => by_cases hc : c = 92 <;> simp [errR, hc] at h
  | c :: d :: u =>
    simp only at h ⊢
    by_cases hc : c = 92
    · by_cases hd : d = 117
      · rw [if_neg (by simp [hc]), if_neg (by simp [hd])] at h ⊢
        by_cases hu : (unitQ u).2 = 0
        · rw [if_neg (by simp [hu])] at h ⊢
          by_cases hr : (unitQ u).1 < 56320 ∨ 57343 < (unitQ u).1
          · rw [if_pos hr] at h; simp [errR] at h
          · rw [if_neg hr]
            obtain ⟨v1, v2⟩ := unitQ_val hu
            obtain ⟨x, hx⟩ : ∃ x, x = 65536 + (n - 55296) * 1024 + ((unitQ u).1 - 56320) := ⟨_, rfl⟩
            rw [← hx]
            have hs : isSc x = true := by rw [isSc_iff]; omega
            exact ⟨x, hs, rfl, rfl, by simp only [List.length_cons]; omega⟩
        · rw [if_pos (by simpa using hu)] at h; exact absurd h hu
      · rw [if_neg (by simp [hc]), if_pos (by simpa using hd)] at h; simp [errR] at h
    · rw [if_pos (by simpa using hc)] at h; simp [errR] at h
theorem codedQ_ok {r : List Nat} (h : (codedQ r).2.2 = 0) : ∃ c, isSc c = true ∧ (codedQ r).1 = putN c ∧ 1 ≤ (codedQ r).2.1 ∧ (codedQ r).2.1 ≤ r.length + 2 := by
  unfold codedQ at h ⊢
  by_cases hu : (unitQ r).2 = 0
  · rw [if_neg (by simp [hu])] at h ⊢
    have hv := unitQ_val hu
    by_cases h1 : 56320 ≤ (unitQ r).1 ∧ (unitQ r).1 ≤ 57343
    · rw [if_pos h1] at h; simp [errR] at h
    · rw [if_neg h1] at h ⊢
      by_cases h2 : (unitQ r).1 < 55296 ∨ 57343 < (unitQ r).1
      · rw [if_pos h2]
        exact ⟨_, by rw [isSc_iff]; omega, rfl, by simp, by simp; omega⟩
      · rw [if_neg h2] at h ⊢
        obtain ⟨c, q1, q2, q3, q4⟩ := lowQ_ok (by omega) h
        simp at q4
        exact ⟨c, q1, q2, by omega, by omega⟩
  · rw [if_pos (by simpa using hu)] at h; exact absurd h hu
/-- A part that is told stands for a scalar. -/
theorem partQ_ok {l : List Nat} (hl : ∀ x ∈ l, x < 256) (h : (partQ l).2.2 = 0) : ∃ c, isSc c = true ∧ (partQ l).1 = putN c ∧ 1 ≤ (partQ l).2.1 ∧ (partQ l).2.1 ≤ l.length := by
  match l with
  | [] => simp [partQ, errR] at h
  | c :: r =>
    simp only [partQ] at h ⊢
    by_cases h1 : c < 32
    · rw [if_pos h1] at h; simp [errR] at h
    rw [if_neg h1] at h ⊢
    by_cases h2 : c = 92
    · rw [if_pos h2] at h ⊢
      match r with
      | [] => simp [escQ, errR] at h
      | d :: t =>
        simp only [escQ] at h ⊢
        cases hd : escB d with
        | some b =>
          have hb : b < 128 := by
            unfold escB at hd
            repeat' (split at hd)
            all_goals first | (cases hd; omega) | cases hd
          exact ⟨b, by rw [isSc_iff]; omega, by simp [putN, hb], by simp, by simp⟩
        | none =>
          rw [hd] at h
          simp only at h ⊢
          by_cases h3 : d = 117
          · rw [if_pos h3] at h ⊢
            obtain ⟨c, q1, q2, q3, q4⟩ := codedQ_ok h
            exact ⟨c, q1, q2, q3, by simp; omega⟩
          · rw [if_neg h3] at h; simp [errR] at h
    · rw [if_neg h2] at h ⊢
      by_cases h3 : (oneN (c :: r)).2 = 0
      · rw [if_pos h3] at h; simp [errR] at h
      · rw [if_neg h3]
        obtain ⟨q1, q2, q3, q4⟩ := put_oneN hl rfl h3
        exact ⟨_, q1, q3.symm, by simp only; omega, q4⟩

/-- From a place behind the first mark on: what is told, how many bytes with the last mark, the error. -/
def bodyF : Nat → List Nat → PartR
  | 0, _ => errR 2
  | k + 1, l => if l.head? = some 34 then ([], 1, 0) else if (partQ l).2.2 ≠ 0 then errR (partQ l).2.2 else
    if (bodyF k (l.drop (partQ l).2.1)).2.2 ≠ 0 then errR (bodyF k (l.drop (partQ l).2.1)).2.2 else
    ((partQ l).1 ++ (bodyF k (l.drop (partQ l).2.1)).1, (partQ l).2.1 + (bodyF k (l.drop (partQ l).2.1)).2.1, 0)
def bodyQ (l : List Nat) : PartR := bodyF (l.length + 1) l
def Byt (l : List Nat) : Prop := ∀ x ∈ l, x < 256
theorem Byt.drop {l : List Nat} (h : Byt l) (k : Nat) : Byt (l.drop k) := fun x hx => h x (List.mem_of_mem_drop hx)
theorem Byt.take {l : List Nat} (h : Byt l) (k : Nat) : Byt (l.take k) := fun x hx => h x (List.mem_of_mem_take hx)
theorem bodyF_same : ∀ (k j : Nat) (l : List Nat), Byt l → l.length < k → l.length < j → bodyF k l = bodyF j l
  | 0, _, _, _, h, _ => by omega
  | _ + 1, 0, _, _, _, h => by omega
  | k + 1, j + 1, l, hl, h1, h2 => by
    simp only [bodyF]
    split
    · rfl
    by_cases h3 : (partQ l).2.2 = 0
    · obtain ⟨_, _, _, q3, q4⟩ := partQ_ok hl h3
      rw [bodyF_same k j _ (hl.drop _) (by simp; omega) (by simp; omega)]
    · rw [if_pos (by simpa using h3), if_pos (by simpa using h3)]
theorem bodyQ_step {l : List Nat} (hl : Byt l) : bodyQ l = if l.head? = some 34 then ([], 1, 0) else if (partQ l).2.2 ≠ 0 then errR (partQ l).2.2 else
    if (bodyQ (l.drop (partQ l).2.1)).2.2 ≠ 0 then errR (bodyQ (l.drop (partQ l).2.1)).2.2 else
    ((partQ l).1 ++ (bodyQ (l.drop (partQ l).2.1)).1, (partQ l).2.1 + (bodyQ (l.drop (partQ l).2.1)).2.1, 0) := by
  unfold bodyQ
  rw [bodyF]
  split
  · rfl
  by_cases h3 : (partQ l).2.2 = 0
  · obtain ⟨_, _, _, q3, q4⟩ := partQ_ok hl h3
    rw [bodyF_same l.length ((l.drop (partQ l).2.1).length + 1) _ (hl.drop _) (by simp; omega) (by simp)]
  · rw [if_pos (by simpa using h3), if_pos (by simpa using h3)]
/-- What is told so far, and the rest's answer. -/
def joinR (pre : List Nat) (k : Nat) (q : PartR) : PartR := if q.2.2 ≠ 0 then errR q.2.2 else (pre ++ q.1, k + q.2.1, 0)
def scanQ : List Nat → PartR
  | [] => errR 2
  | c :: r => if c ≠ 34 then errR 3 else joinR [] 1 (bodyQ r)

theorem joinR_err {pre : List Nat} {k e : Nat} : joinR pre k (errR e) = if e ≠ 0 then errR e else (pre, k, 0) := by simp [joinR, errR]
theorem joinR_end {l : List Nat} (hl : Byt l) {pre : List Nat} {k : Nat} (h : l.head? = some 34) : joinR pre k (bodyQ l) = (pre, k + 1, 0) := by
  rw [bodyQ_step hl, if_pos h]; simp [joinR]
theorem joinR_bad {l : List Nat} (hl : Byt l) {pre : List Nat} {k : Nat} (h : l.head? ≠ some 34) (he : (partQ l).2.2 ≠ 0) : joinR pre k (bodyQ l) = errR (partQ l).2.2 := by
  rw [bodyQ_step hl, if_neg h, if_pos he, joinR_err, if_pos he]
theorem joinR_good {l : List Nat} (hl : Byt l) {pre : List Nat} {k : Nat} (h : l.head? ≠ some 34) (he : (partQ l).2.2 = 0) :
    joinR pre k (bodyQ l) = joinR (pre ++ (partQ l).1) (k + (partQ l).2.1) (bodyQ (l.drop (partQ l).2.1)) := by
  rw [bodyQ_step hl, if_neg h, if_neg (by simp [he])]
  by_cases h2 : (bodyQ (l.drop (partQ l).2.1)).2.2 = 0
  · rw [if_neg (by simp [h2])]; simp [joinR, h2, Nat.add_assoc]
  · rw [if_pos h2, joinR_err, if_pos h2]; simp [joinR, h2]

/-- The sign behind a backslash for a byte. -/
def shortB (c : Nat) : Nat := if c = 34 ∨ c = 92 then c else if c = 8 then 98 else if c = 12 then 102 else if c = 10 then 110 else if c = 13 then 114 else if c = 9 then 116 else 0
def digB (n : Nat) : Nat := if n < 10 then 48 + n else 87 + n
def prB (c : Nat) : List Nat := if shortB c ≠ 0 then [92, shortB c] else if c < 32 then [92, 117, 48, 48, digB (c / 16), digB (c % 16)] else [c]
def printQ (l : List Nat) : List Nat := 34 :: (l.flatMap prB ++ [34])

theorem hex_dig {n : Nat} (h : n < 16) : hexV (digB n) = some n := by
  have : n = 0 ∨ n = 1 ∨ n = 2 ∨ n = 3 ∨ n = 4 ∨ n = 5 ∨ n = 6 ∨ n = 7 ∨ n = 8 ∨ n = 9 ∨ n = 10 ∨ n = 11 ∨ n = 12 ∨ n = 13 ∨ n = 14 ∨ n = 15 := by omega
  rcases this with rfl | rfl | rfl | rfl | rfl | rfl | rfl | rfl | rfl | rfl | rfl | rfl | rfl | rfl | rfl | rfl <;> rfl
theorem unitF_00 {c : Nat} (h : c < 32) (m : List Nat) : unitQ (48 :: 48 :: digB (c / 16) :: digB (c % 16) :: m) = (c, 0) := by
  simp [unitQ, unitF, hex_dig (show c / 16 < 16 by omega), hex_dig (show c % 16 < 16 by omega), show hexV 48 = some 0 by rfl]
  omega
/-- A byte's print stands for it. -/
theorem partQ_prB {c : Nat} (h : c < 128) (m : List Nat) : partQ (prB c ++ m) = ([c], (prB c).length, 0) ∧ (prB c ++ m).head? ≠ some 34 := by
  unfold prB
  by_cases h1 : shortB c = 0
  · rw [if_neg (by simp [h1])]
    by_cases h2 : c < 32
    · rw [if_pos h2]
      refine ⟨?_, by simp⟩
      simp only [List.cons_append, List.nil_append, partQ, escQ, escB]
      rw [if_neg (by omega), if_pos trivial]
      simp only [show ¬ ((117 : Nat) = 34 ∨ (117 : Nat) = 92 ∨ (117 : Nat) = 47) by omega, if_false, show ¬ (117 : Nat) = 98 by omega, show ¬ (117 : Nat) = 102 by omega, show ¬ (117 : Nat) = 110 by omega, show ¬ (117 : Nat) = 114 by omega, show ¬ (117 : Nat) = 116 by omega, if_true]
      unfold codedQ
      rw [unitF_00 h2]
      simp only [ne_eq, not_true_eq_false, if_false]
      rw [if_neg (by omega), if_pos (by omega)]
      simp [putN, show c < 128 by omega]
    · rw [if_neg h2]
      have hne : c ≠ 34 ∧ c ≠ 92 := by
        unfold shortB at h1
        constructor
        · rintro rfl; simp at h1
        · rintro rfl; simp at h1
      refine ⟨?_, by simp; omega⟩
      simp only [List.cons_append, List.nil_append, partQ]
      rw [if_neg h2, if_neg hne.2]
      simp [oneN, h]
  · rw [if_pos h1]
    refine ⟨?_, by simp⟩
    simp only [List.cons_append, List.nil_append, partQ, escQ]
    rw [if_neg (by omega), if_pos trivial]
    have : escB (shortB c) = some c := by
      unfold shortB at h1 ⊢
      by_cases a1 : c = 34 ∨ c = 92
      · rw [if_pos a1]; unfold escB; rw [if_pos (by omega)]
      rw [if_neg a1] at h1 ⊢
      by_cases a2 : c = 8
      · subst a2; rfl
      rw [if_neg a2] at h1 ⊢
      by_cases a3 : c = 12
      · subst a3; rfl
      rw [if_neg a3] at h1 ⊢
      by_cases a4 : c = 10
      · subst a4; rfl
      rw [if_neg a4] at h1 ⊢
      by_cases a5 : c = 13
      · subst a5; rfl
      rw [if_neg a5] at h1 ⊢
      by_cases a6 : c = 9
      · subst a6; rfl
      rw [if_neg a6] at h1; simp at h1
    rw [this]
    simp
theorem prB_high {c : Nat} (h : 128 ≤ c) : prB c = [c] := by
  unfold prB shortB
  rw [if_neg (by rw [if_neg (by omega), if_neg (by omega), if_neg (by omega), if_neg (by omega), if_neg (by omega), if_neg (by omega)]; simp), if_neg (by omega)]
theorem flat_high : ∀ (l : List Nat), (∀ x ∈ l, 128 ≤ x) → l.flatMap prB = l
  | [], _ => rfl
  | c :: r, h => by
    rw [List.flatMap_cons, prB_high (h c (by simp)), flat_high r (fun x hx => h x (by simp [hx]))]
    rfl
theorem putN_high {c : Nat} (h : 128 ≤ c) : ∀ x ∈ putN c, 128 ≤ x := by
  unfold putN
  rw [if_neg (by omega)]
  intro x hx
  split at hx
  · simp at hx; omega
  split at hx
  · simp at hx; omega
  · simp at hx; omega
/-- A scalar's print stands for it. -/
theorem partQ_scalar {c : Nat} (h : isSc c = true) (m : List Nat) : partQ ((putN c).flatMap prB ++ m) = (putN c, ((putN c).flatMap prB).length, 0) ∧ ((putN c).flatMap prB ++ m).head? ≠ some 34 := by
  by_cases h1 : c < 128
  · have e : putN c = [c] := by simp [putN, h1]
    rw [e]
    simpa using partQ_prB h1 m
  · have hh := putN_high (show 128 ≤ c by omega)
    rw [flat_high _ hh]
    have ho := oneN_put h m
    have hw := wid_pos c
    have hl := putN_len c
    obtain ⟨a, r, hr⟩ : ∃ a r, putN c = a :: r := by
      cases hp : putN c with
      | nil => rw [hp] at hl; simp at hl; omega
      | cons a r => exact ⟨a, r, rfl⟩
    have ha := hh a (by rw [hr]; simp)
    rw [hr] at ho hl ⊢
    refine ⟨?_, by simp; omega⟩
    simp only [List.cons_append, partQ] at ho ⊢
    rw [if_neg (by omega), if_neg (by omega), ho, if_neg (by simp only; omega)]
    simp only [← hl]
    simp
end Go.Proofs.YtgkgdmpbcneoiaaDoor
