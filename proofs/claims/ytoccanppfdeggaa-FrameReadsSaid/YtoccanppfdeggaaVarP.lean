/- Plain facts on numbers that are written in groups of seven bits: no program. -/
namespace Go.Proofs.Ytoccanppfdeggaa
def putF : Nat → Nat → List UInt8
  | 0, n => [UInt8.ofNat n]
  | f + 1, n => if n < 128 then [UInt8.ofNat n] else UInt8.ofNat (n % 128 + 128) :: putF f (n / 128)
theorem putF_same : ∀ (f g n : Nat), n ≤ f → n ≤ g → putF f n = putF g n
  | 0, 0, _, _, _ => rfl
  | 0, g + 1, n, h, _ => by simp [putF, show n < 128 by omega]
  | f + 1, 0, n, _, h => by simp [putF, show n < 128 by omega]
  | f + 1, g + 1, n, h1, h2 => by
    simp only [putF]
    split
    · rfl
    · rw [putF_same f g (n / 128) (by omega) (by omega)]
/-- As a number is written. -/
def put (n : Nat) : List UInt8 := putF n n
theorem put_small {n : Nat} (h : n < 128) : put n = [UInt8.ofNat n] := by
  unfold put
  cases n with
  | zero => rfl
  | succ m => simp [putF, h]
theorem put_big {n : Nat} (h : 128 ≤ n) : put n = UInt8.ofNat (n % 128 + 128) :: put (n / 128) := by
  unfold put
  cases n with
  | zero => omega
  | succ m =>
    simp only [putF]
    rw [if_neg (by omega), putF_same m ((m + 1) / 128) _ (by omega) (Nat.le_refl _)]
theorem put_ne (n : Nat) : put n ≠ [] := by
  by_cases h : n < 128
  · rw [put_small h]; simp
  · rw [put_big (by omega)]; simp
theorem put_length_le : ∀ (k n : Nat), n < 128 ^ (k + 1) → (put n).length ≤ k + 1
  | 0, n, h => by rw [put_small (by simpa using h)]; simp
  | k + 1, n, h => by
    by_cases hn : n < 128
    · rw [put_small hn]; simp
    · rw [put_big (by omega)]
      have : n / 128 < 128 ^ (k + 1) := by rw [Nat.pow_succ] at h; exact Nat.div_lt_of_lt_mul (by rw [Nat.mul_comm]; exact h)
      have := put_length_le k (n / 128) this
      simp; omega
theorem put_length_ten {n : Nat} (h : n < 18446744073709551616) : (put n).length ≤ 10 :=
  put_length_le 9 n (Nat.lt_of_lt_of_le h (by decide))

/-- What bytes begin with, from group i on, n being what is told so far: the number, how many bytes, the error's number. -/
def getF : List UInt8 → Nat → Nat → Nat × Nat × Nat
  | [], _, _ => (0, 0, 2)
  | c :: r, i, n =>
    if i = 9 ∧ 1 < c.toNat then (0, 0, 4)
    else if 128 ≤ c.toNat then getF r (i + 1) (n + c.toNat % 128 * 128 ^ i)
    else if c.toNat = 0 ∧ 0 < i then (0, 0, 3)
    else (n + c.toNat * 128 ^ i, i + 1, 0)
def get (b : List UInt8) : Nat × Nat × Nat := getF b 0 0
/-- What is left of a number from group i on still fits. -/
theorem getF_put : ∀ (f m : Nat) (more : List UInt8) (i n : Nat), m ≤ f → i ≤ 9 → m < 2 * 128 ^ (9 - i) → (m = 0 → i = 0) → getF (put m ++ more) i n = (n + m * 128 ^ i, i + (put m).length, 0)
  | f, m, more, i, n, hf, hi, hm, h0 => by
    by_cases hs : m < 128
    · rw [put_small hs]
      simp only [List.cons_append, List.nil_append, getF, List.length_cons, List.length_nil]
      have e : (UInt8.ofNat m).toNat = m := by rw [UInt8.toNat_ofNat']; omega
      rw [e]
      have h9 : ¬ (i = 9 ∧ 1 < m) := by
        rintro ⟨rfl, h⟩
        simp at hm; omega
      rw [if_neg h9, if_neg (by omega), if_neg (by omega)]
    · have hb : 128 ≤ m := by omega
      rw [put_big hb]
      cases f with
      | zero => omega
      | succ f =>
        have hi9 : i ≠ 9 := by
          rintro rfl
          simp at hm; omega
        have e : (UInt8.ofNat (m % 128 + 128)).toNat = m % 128 + 128 := by rw [UInt8.toNat_ofNat']; omega
        simp only [List.cons_append, getF, e]
        rw [if_neg (by omega), if_pos (by omega)]
        have hm2 : m / 128 < 2 * 128 ^ (9 - (i + 1)) := by
          rw [show 9 - i = (9 - (i + 1)) + 1 by omega, Nat.pow_succ] at hm
          omega
        rw [getF_put f (m / 128) more (i + 1) _ (by omega) (by omega) hm2 (by omega)]
        refine Prod.ext ?_ (Prod.ext ?_ rfl)
        · show n + (m % 128 + 128) % 128 * 128 ^ i + m / 128 * 128 ^ (i + 1) = n + m * 128 ^ i
          rw [Nat.pow_succ, show (m % 128 + 128) % 128 = m % 128 by omega, show m / 128 * (128 ^ i * 128) = (m / 128 * 128) * 128 ^ i by ac_rfl, Nat.add_assoc, ← Nat.add_mul]
          congr 2
          omega
        · simp; omega
theorem get_put {n : Nat} (h : n < 18446744073709551616) (more : List UInt8) : get (put n ++ more) = (n, (put n).length, 0) := by
  have := getF_put n n more 0 0 (Nat.le_refl _) (by omega) (by simpa using h) (fun _ => rfl)
  simpa [get] using this

/-- What is read is written in just these bytes. -/
theorem put_getF : ∀ (b : List UInt8) (i n N s : Nat), i ≤ 9 → getF b i n = (N, s, 0) → ∃ m, N = n + m * 128 ^ i ∧ s = i + (put m).length ∧ b.take (put m).length = put m ∧ (put m).length ≤ b.length ∧ m < 2 * 128 ^ (9 - i) ∧ (m = 0 → i = 0)
  | [], _, _, _, _, _, h => by simp [getF] at h
  | c :: r, i, n, N, s, hi, h => by
    simp only [getF] at h
    have hc := c.toNat_lt
    split at h
    · simp at h
    rename_i h9
    split at h
    · rename_i hb
      have hi9 : i ≠ 9 := by
        rintro rfl
        exact h9 ⟨rfl, by omega⟩
      obtain ⟨m, h1, h2, h3, h4, h5, h6⟩ := put_getF r (i + 1) _ N s (by omega) h
      have hm0 : m ≠ 0 := by
        intro h0; have := h6 h0; omega
      refine ⟨c.toNat % 128 + m * 128, ?_, ?_, ?_, ?_, ?_, ?_⟩
      · rw [h1, Nat.pow_succ, Nat.add_mul, Nat.add_assoc]; congr 2; ac_rfl
      all_goals try rw [put_big (show 128 ≤ c.toNat % 128 + m * 128 by omega), show (c.toNat % 128 + m * 128) / 128 = m by omega]
      · simp; omega
      · have e : UInt8.ofNat ((c.toNat % 128 + m * 128) % 128 + 128) = c := by
          apply UInt8.toNat_inj.1
          rw [UInt8.toNat_ofNat']; omega
        rw [e, List.length_cons, List.take_succ_cons, h3]
      · simp; omega
      · rw [show 9 - i = (9 - (i + 1)) + 1 by omega, Nat.pow_succ]; omega
      · omega
    · split at h
      · simp at h
      rename_i hb h0
      simp only [Prod.mk.injEq, and_true] at h
      obtain ⟨rfl, rfl⟩ := h
      have e : UInt8.ofNat c.toNat = c := UInt8.ofNat_toNat
      refine ⟨c.toNat, rfl, ?_, ?_, ?_, ?_, ?_⟩
      all_goals try rw [put_small (by omega)]
      · simp
      · simp [e]
      · simp
      · by_cases h8 : i = 9
        · subst h8; simp; omega
        · have : 128 ^ 1 ≤ 128 ^ (9 - i) := Nat.pow_le_pow_right (by decide) (by omega)
          omega
      · omega
theorem put_get {b : List UInt8} {N s : Nat} (h : get b = (N, s, 0)) : put N = b.take s ∧ s ≤ b.length ∧ s = (put N).length ∧ N < 18446744073709551616 := by
  obtain ⟨m, h1, h2, h3, h4, h5, h6⟩ := put_getF b 0 0 N s (by omega) h
  simp at h1 h2 h5
  subst h1 h2
  exact ⟨h3.symm, h4, rfl, h5⟩

/-- Cut short, it lacks something. -/
theorem getF_cut : ∀ (f m k i n : Nat), m ≤ f → i ≤ 9 → m < 2 * 128 ^ (9 - i) → k < (put m).length → getF ((put m).take k) i n = (0, 0, 2)
  | f, m, 0, i, n, _, _, _, _ => by simp [getF]
  | f, m, k + 1, i, n, hf, hi, hm, hk => by
    by_cases hs : m < 128
    · rw [put_small hs] at hk; simp at hk
    · rw [put_big (by omega)] at hk ⊢
      cases f with
      | zero => omega
      | succ f =>
        have hi9 : i ≠ 9 := by
          rintro rfl
          simp at hm; omega
        have e : (UInt8.ofNat (m % 128 + 128)).toNat = m % 128 + 128 := by rw [UInt8.toNat_ofNat']; omega
        simp only [List.take_succ_cons, getF, e]
        rw [if_neg (by omega), if_pos (by omega)]
        refine getF_cut f (m / 128) k (i + 1) _ (by omega) (by omega) ?_ (by simpa using hk)
        rw [show 9 - i = (9 - (i + 1)) + 1 by omega, Nat.pow_succ] at hm
        omega
theorem get_cut {n k : Nat} (h : n < 18446744073709551616) (hk : k < (put n).length) : get ((put n).take k) = (0, 0, 2) :=
  getF_cut n n k 0 0 (Nat.le_refl _) (by omega) (by simpa using h) hk

/-- With its last byte going on and a nought behind it, it isn't as it is written. -/
theorem getF_long : ∀ (f m i n : Nat), m ≤ f → i ≤ 9 → m < 2 * 128 ^ (9 - i) → ∃ x, (put m).getLast? = some x ∧
    ∃ e, getF ((put m).dropLast ++ [UInt8.ofNat (x.toNat ||| 128), 0]) i n = (0, 0, e) ∧ (e = 3 ∧ i + (put m).length ≤ 9 ∨ e = 4 ∧ i + (put m).length = 10)
  | f, m, i, n, hf, hi, hm => by
    by_cases hs : m < 128
    · rw [put_small hs]
      refine ⟨UInt8.ofNat m, rfl, ?_⟩
      have e : (UInt8.ofNat m).toNat = m := by rw [UInt8.toNat_ofNat']; omega
      have e2 : m ||| 128 = m + 128 := by
        have h7 := Nat.two_pow_add_eq_or_of_lt (i := 7) (b := m) (by omega) 1
        rw [show 2 ^ 7 * 1 = 128 by decide] at h7
        rw [Nat.or_comm, ← h7]; omega
      have e3 : (UInt8.ofNat (m + 128)).toNat = m + 128 := by rw [UInt8.toNat_ofNat']; omega
      rw [show [UInt8.ofNat m].dropLast = [] from rfl]
      simp only [List.nil_append, getF, e, e2, e3, List.length_cons, List.length_nil]
      by_cases h9 : i = 9
      · exact ⟨4, by rw [if_pos ⟨h9, by omega⟩], .inr ⟨rfl, by omega⟩⟩
      · refine ⟨3, ?_, .inl ⟨rfl, by omega⟩⟩
        rw [if_neg (by omega), if_pos (by omega)]
        have : (0 : UInt8).toNat = 0 := rfl
        rw [this, if_neg (by omega), if_neg (by omega), if_pos (by omega)]
    · rw [put_big (by omega)]
      cases f with
      | zero => omega
      | succ f =>
        have hi9 : i ≠ 9 := by
          rintro rfl
          simp at hm; omega
        have hm2 : m / 128 < 2 * 128 ^ (9 - (i + 1)) := by
          rw [show 9 - i = (9 - (i + 1)) + 1 by omega, Nat.pow_succ] at hm
          omega
        obtain ⟨x, hx, e, h1, h2⟩ := getF_long f (m / 128) (i + 1) (n + m % 128 * 128 ^ i) (by omega) (by omega) hm2
        have hne := put_ne (m / 128)
        refine ⟨x, ?_, e, ?_, ?_⟩
        · rw [List.getLast?_cons]; simp [hx]
        · rw [List.dropLast_cons_of_ne_nil hne]
          have e1 : (UInt8.ofNat (m % 128 + 128)).toNat = m % 128 + 128 := by rw [UInt8.toNat_ofNat']; omega
          simp only [List.cons_append, getF, e1]
          rw [if_neg (by omega), if_pos (by omega), show (m % 128 + 128) % 128 = m % 128 by omega]
          exact h1
        · simp only [List.length_cons]; omega
theorem get_long {n : Nat} (h : n < 18446744073709551616) : ∃ x, (put n).getLast? = some x ∧
    ∃ e, get ((put n).dropLast ++ [UInt8.ofNat (x.toNat ||| 128), 0]) = (0, 0, e) ∧ (e = 3 ∨ e = 4 ∧ (put n).length = 10) := by
  obtain ⟨x, hx, e, h1, h2⟩ := getF_long n n 0 0 (Nat.le_refl _) (by omega) (by simpa using h)
  exact ⟨x, hx, e, h1, by omega⟩

theorem put_length_mono : ∀ (f a b : Nat), b ≤ f → a ≤ b → (put a).length ≤ (put b).length
  | f, a, b, hf, hab => by
    by_cases ha : a < 128
    · rw [put_small ha]
      have := put_ne b
      cases hp : put b with
      | nil => exact absurd hp this
      | cons x l => simp
    · rw [put_big (show 128 ≤ a by omega), put_big (show 128 ≤ b by omega)]
      cases f with
      | zero => omega
      | succ f =>
        have := put_length_mono f (a / 128) (b / 128) (by omega) (by omega)
        simp; omega
/-- Neither begins the other. -/
theorem put_prefix {a b : Nat} (ha : a < 18446744073709551616) (hb : b < 18446744073709551616) : put a = (put b).take (put a).length ↔ a = b := by
  refine ⟨fun h => ?_, fun h => by subst h; simp⟩
  have h1 := get_put ha ((put b).drop (put a).length)
  have h2 := get_put hb []
  have h3 : put a ++ (put b).drop (put a).length = put b := by
    have := List.take_append_drop (put a).length (put b)
    rw [← h] at this; exact this
  rw [h3] at h1
  rw [List.append_nil, h1] at h2
  exact (Prod.mk.inj h2).1
end Go.Proofs.Ytoccanppfdeggaa
