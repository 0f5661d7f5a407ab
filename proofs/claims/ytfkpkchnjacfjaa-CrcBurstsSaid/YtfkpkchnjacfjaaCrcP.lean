/- Plain facts on the check sum: no program. -/
namespace Go.Proofs.Ytfkpkchnjacfjaa
def stp (n : Nat) : Nat := if n % 2 = 1 then (n / 2) ^^^ 3988292384 else n / 2
def stps : Nat → Nat → Nat
  | 0, n => n
  | k + 1, n => stp (stps k n)
theorem xor_lt32 {a b : Nat} (ha : a < 4294967296) (hb : b < 4294967296) : a ^^^ b < 4294967296 :=
  Nat.xor_lt_two_pow (n := 32) ha hb
theorem stp_lt (n : Nat) (h : n < 4294967296) : stp n < 4294967296 := by
  unfold stp; split
  · exact xor_lt32 (by omega) (by decide)
  · omega
theorem stps_lt (k n : Nat) (h : n < 4294967296) : stps k n < 4294967296 := by
  induction k with
  | zero => exact h
  | succ k ih => exact stp_lt _ ih
theorem stps_add (j k n : Nat) : stps (j + k) n = stps j (stps k n) := by
  induction j with
  | zero => simp [stps]
  | succ j ih => rw [show j + 1 + k = (j + k) + 1 by omega]; simp [stps, ih]
theorem xor_div2 (a b : Nat) : (a ^^^ b) / 2 = (a / 2) ^^^ (b / 2) := by
  have := Nat.shiftRight_xor_distrib (a := a) (b := b) (i := 1)
  simpa [Nat.shiftRight_eq_div_pow] using this
theorem xor_mod2 (a b : Nat) : (a ^^^ b) % 2 = (a % 2 + b % 2) % 2 := by
  have := Nat.xor_mod_two_pow (a := a) (b := b) (n := 1)
  rw [Nat.pow_one] at this; rw [this]
  rcases Nat.mod_two_eq_zero_or_one a with ha | ha <;> rcases Nat.mod_two_eq_zero_or_one b with hb | hb <;> simp [ha, hb]
theorem stp_xor (a b : Nat) : stp (a ^^^ b) = stp a ^^^ stp b := by
  unfold stp
  rw [xor_mod2, xor_div2]
  rcases Nat.mod_two_eq_zero_or_one a with ha | ha <;> rcases Nat.mod_two_eq_zero_or_one b with hb | hb <;> simp [ha, hb]
  · rw [Nat.xor_assoc]
  · rw [Nat.xor_assoc, Nat.xor_assoc, Nat.xor_comm (b / 2)]
  · rw [show a / 2 ^^^ 3988292384 ^^^ (b / 2 ^^^ 3988292384) = a / 2 ^^^ (b / 2) ^^^ (3988292384 ^^^ 3988292384) by ac_rfl]
    simp
theorem stps_xor (k a b : Nat) : stps k (a ^^^ b) = stps k a ^^^ stps k b := by
  induction k with
  | zero => rfl
  | succ k ih => simp only [stps, ih, stp_xor]
theorem stps_shift (k m : Nat) : stps k (2 ^ k * m) = m := by
  induction k generalizing m with
  | zero => simp [stps]
  | succ k ih =>
    simp only [stps]
    rw [show 2 ^ (k + 1) * m = 2 ^ k * (2 * m) by rw [Nat.pow_succ]; ac_rfl, ih]
    unfold stp
    rw [if_neg (by omega)]; omega
theorem stp_zero {n : Nat} (h : n < 4294967296) (hz : stp n = 0) : n = 0 := by
  unfold stp at hz
  split at hz
  · have h2 : n / 2 = 3988292384 := by
      have h3 : (n / 2 ^^^ 3988292384) ^^^ 3988292384 = 0 ^^^ 3988292384 := by rw [hz]
      rw [Nat.xor_assoc] at h3
      simpa using h3
    omega
  · omega
theorem stps_zero (k : Nat) {n : Nat} (h : n < 4294967296) (hz : stps k n = 0) : n = 0 := by
  induction k with
  | zero => exact hz
  | succ k ih => exact ih (stp_zero (stps_lt k n h) hz)
theorem stps_nought (k : Nat) : stps k 0 = 0 := by
  induction k with
  | zero => rfl
  | succ k ih => simp [stps, ih, stp]

/-- A byte more. -/
def upd (n : Nat) (c : UInt8) : Nat := stps 8 (n ^^^ c.toNat)
theorem low8 (n : Nat) : n = (2 ^ 8 * (n / 256)) ^^^ (n % 256) := by
  have h : (2 ^ 8 * (n / 256)) ^^^ (n % 256) = 2 ^ 8 * (n / 256) + n % 256 := by
    rw [Nat.two_pow_add_eq_or_of_lt (i := 8) (by omega)]
    apply Nat.eq_of_testBit_eq; intro i
    simp only [Nat.testBit_xor, Nat.testBit_or]
    have h1 : Nat.testBit (2 ^ 8 * (n / 256)) i = (decide (8 ≤ i) && Nat.testBit (n / 256) (i - 8)) := by
      rw [Nat.testBit_two_pow_mul]
    by_cases hi : 8 ≤ i
    · have h2 : Nat.testBit (n % 256) i = false := Nat.testBit_lt_two_pow (Nat.lt_of_lt_of_le (by omega : n % 256 < 2 ^ 8) (Nat.pow_le_pow_right (by decide) hi))
      simp [h2]
    · rw [h1]; simp [hi]
  rw [h]; omega
/-- The table's way. -/
theorem upd_table (n : Nat) (c : UInt8) : (n / 256) ^^^ stps 8 ((n % 256) ^^^ c.toNat) = upd n c := by
  unfold upd
  have h : n ^^^ c.toNat = (2 ^ 8 * (n / 256)) ^^^ ((n % 256) ^^^ c.toNat) := by
    rw [← Nat.xor_assoc, ← low8]
  rw [h, stps_xor 8 (2 ^ 8 * (n / 256)), stps_shift]
theorem upd_lt (n : Nat) (c : UInt8) (h : n < 4294967296) : upd n c < 4294967296 :=
  stps_lt _ _ (xor_lt32 h (by have := c.toNat_lt; omega))
def reg (n : Nat) (l : List UInt8) : Nat := l.foldl upd n
theorem reg_lt (n : Nat) (l : List UInt8) (h : n < 4294967296) : reg n l < 4294967296 := by
  induction l generalizing n with
  | nil => exact h
  | cons c l ih => exact ih _ (upd_lt n c h)
theorem reg_append (n : Nat) (a b : List UInt8) : reg n (a ++ b) = reg (reg n a) b := by simp [reg]
def sum (l : List UInt8) : Nat := 4294967295 - reg 4294967295 l
theorem sum_lt (l : List UInt8) : sum l < 4294967296 := by unfold sum; omega
theorem reg_snoc (n : Nat) (l : List UInt8) (c : UInt8) : reg n (l ++ [c]) = upd (reg n l) c := by simp [reg]
theorem take_snoc {α : Type} (l : List α) (k : Nat) (h : k < l.length) : l.take (k + 1) = l.take k ++ [l[k]] := by
  rw [List.take_succ_eq_append_getElem h]
theorem reg_take (n : Nat) (l : List UInt8) (k : Nat) (h : k < l.length) : reg n (l.take (k + 1)) = upd (reg n (l.take k)) l[k] := by
  rw [take_snoc l k h, reg_snoc]
end Go.Proofs.Ytfkpkchnjacfjaa
