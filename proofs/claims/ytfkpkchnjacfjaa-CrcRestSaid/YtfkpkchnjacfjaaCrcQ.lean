/- Plain facts on sealed bytes and on bursts: no program. -/
import Derived.Test.YtfkpkchnjacfjaaCrcP
namespace Go.Proofs.Ytfkpkchnjacfjaa
theorem xor_shift (k x y : Nat) (hx : x < 2 ^ k) : x ^^^ (2 ^ k * y) = x + 2 ^ k * y := by
  rw [Nat.add_comm, Nat.two_pow_add_eq_or_of_lt hx]
  apply Nat.eq_of_testBit_eq; intro i
  simp only [Nat.testBit_xor, Nat.testBit_or, Nat.testBit_two_pow_mul]
  by_cases hi : k ≤ i
  · have h2 : Nat.testBit x i = false := Nat.testBit_lt_two_pow (Nat.lt_of_lt_of_le hx (Nat.pow_le_pow_right (by decide) hi))
    simp [h2]
  · simp [hi]

/-- The four bytes of a number, the lowest first. -/
def four (n : Nat) : List UInt8 := [UInt8.ofNat (n % 256), UInt8.ofNat (n / 256 % 256), UInt8.ofNat (n / 65536 % 256), UInt8.ofNat (n / 16777216 % 256)]
/-- The number that four bytes are, the lowest first. -/
def num4 (a b c d : UInt8) : Nat := a.toNat + b.toNat * 256 + c.toNat * 65536 + d.toNat * 16777216

theorem stps_in (k m b : Nat) : stps k m ^^^ b = stps k (m ^^^ (2 ^ k * b)) := by rw [stps_xor, stps_shift]

theorem num4_xor (a b c d : UInt8) : a.toNat ^^^ (2 ^ 8 * b.toNat) ^^^ (2 ^ 16 * c.toNat) ^^^ (2 ^ 24 * d.toNat) = num4 a b c d := by
  have ha := a.toNat_lt; have hb := b.toNat_lt; have hc := c.toNat_lt
  rw [xor_shift 8 _ _ (by omega), xor_shift 16 _ _ (by omega), xor_shift 24 _ _ (by omega)]
  unfold num4; omega

theorem reg4 (n : Nat) (a b c d : UInt8) : reg n [a, b, c, d] = stps 32 (n ^^^ num4 a b c d) := by
  rw [← num4_xor]
  simp only [reg, List.foldl_cons, List.foldl_nil, upd]
  rw [stps_in 8 (n ^^^ a.toNat), ← stps_add, stps_in (8 + 8), ← stps_add, stps_in (8 + (8 + 8)), ← stps_add]
  congr 1
  ac_rfl

theorem num4_four (n : Nat) (h : n < 4294967296) : num4 (UInt8.ofNat (n % 256)) (UInt8.ofNat (n / 256 % 256)) (UInt8.ofNat (n / 65536 % 256)) (UInt8.ofNat (n / 16777216 % 256)) = n := by
  unfold num4
  simp only [UInt8.toNat_ofNat']
  omega

theorem num4_lt (a b c d : UInt8) : num4 a b c d < 4294967296 := by
  have ha := a.toNat_lt; have hb := b.toNat_lt; have hc := c.toNat_lt; have hd := d.toNat_lt
  unfold num4; omega

theorem xor_neg (r : Nat) (h : r < 4294967296) : r ^^^ (4294967295 - r) = 4294967295 := by
  apply Nat.eq_of_testBit_eq
  intro i
  have h3 := @Nat.testBit_two_pow_sub_succ r 32 (by simpa using h) i
  rw [show 2 ^ 32 - (r + 1) = 4294967295 - r by omega] at h3
  have h4 := Nat.testBit_two_pow_sub_one 32 i
  rw [show 2 ^ 32 - 1 = 4294967295 by decide] at h4
  rw [Nat.testBit_xor, h3, h4]
  by_cases hi : i < 32
  · simp [hi]
  · have : Nat.testBit r i = false := Nat.testBit_lt_two_pow (Nat.lt_of_lt_of_le (by simpa using h : r < 2 ^ 32) (Nat.pow_le_pow_right (by decide) (by omega)))
    simp [hi, this]

theorem reg_rest (l : List UInt8) : reg 4294967295 (l ++ four (sum l)) = 3736805603 := by
  rw [reg_append]
  unfold four
  rw [reg4, num4_four _ (sum_lt l)]
  unfold sum
  rw [xor_neg _ (reg_lt _ _ (by omega))]
  decide +kernel

theorem sum_rest (l : List UInt8) : sum (l ++ four (sum l)) = 558161692 := by
  unfold sum
  have := reg_rest l
  unfold sum at this
  rw [this]
end Go.Proofs.Ytfkpkchnjacfjaa
