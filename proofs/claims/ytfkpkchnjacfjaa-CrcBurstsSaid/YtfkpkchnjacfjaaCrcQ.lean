/- Plain facts on sealed bytes and on bursts: no program. -/
import Derived.Test.YtfkpkchnjacfjaaCrcP
namespace Go.Proofs.Ytfkpkchnjacfjaa
theorem xor_shift (k x y : Nat) (hx : x < 2 ^ k) : x ^^^ (2 ^ k * y) = x + 2 ^ k * y := by
  rw [Nat.add_comm, Nat.two_pow_add_eq_or_of_lt hx]
  apply Nat.eq_of_testBit_eq; intro i
  simp only [Nat.testBit_xor, Nat.testBit_or, Nat.testBit_two_pow_mul]
  by_cases hi : k ≤ i
  · have h2 : Nat.testBit x i = false := Nat.testBit_lt_two_pow (Nat.lt_of_lt_of_le hx (Nat.pow_le_pow_right (by decide) hi))
    simp [h2]
  · simp [hi]

/-- The four bytes of a number, the lowest first. -/
def four (n : Nat) : List UInt8 := [UInt8.ofNat (n % 256), UInt8.ofNat (n / 256 % 256), UInt8.ofNat (n / 65536 % 256), UInt8.ofNat (n / 16777216 % 256)]
/-- The number that four bytes are, the lowest first. -/
def num4 (a b c d : UInt8) : Nat := a.toNat + b.toNat * 256 + c.toNat * 65536 + d.toNat * 16777216

theorem stps_in (k m b : Nat) : stps k m ^^^ b = stps k (m ^^^ (2 ^ k * b)) := by rw [stps_xor, stps_shift]

theorem num4_xor (a b c d : UInt8) : a.toNat ^^^ (2 ^ 8 * b.toNat) ^^^ (2 ^ 16 * c.toNat) ^^^ (2 ^ 24 * d.toNat) = num4 a b c d := by
  have ha := a.toNat_lt; have hb := b.toNat_lt; have hc := c.toNat_lt
  rw [xor_shift 8 _ _ (by omega), xor_shift 16 _ _ (by omega), xor_shift 24 _ _ (by omega)]
  unfold num4; omega

theorem reg4 (n : Nat) (a b c d : UInt8) : reg n [a, b, c, d] = stps 32 (n ^^^ num4 a b c d) := by
  rw [← num4_xor]
  simp only [reg, List.foldl_cons, List.foldl_nil, upd]
  rw [stps_in 8 (n ^^^ a.toNat), ← stps_add, stps_in (8 + 8), ← stps_add, stps_in (8 + (8 + 8)), ← stps_add]
  congr 1
  ac_rfl

theorem num4_four (n : Nat) (h : n < 4294967296) : num4 (UInt8.ofNat (n % 256)) (UInt8.ofNat (n / 256 % 256)) (UInt8.ofNat (n / 65536 % 256)) (UInt8.ofNat (n / 16777216 % 256)) = n := by
  unfold num4
  simp only [UInt8.toNat_ofNat']
  omega

theorem num4_lt (a b c d : UInt8) : num4 a b c d < 4294967296 := by
  have ha := a.toNat_lt; have hb := b.toNat_lt; have hc := c.toNat_lt; have hd := d.toNat_lt
  unfold num4; omega

theorem xor_neg (r : Nat) (h : r < 4294967296) : r ^^^ (4294967295 - r) = 4294967295 := by
  apply Nat.eq_of_testBit_eq
  intro i
  have h3 := @Nat.testBit_two_pow_sub_succ r 32 (by simpa using h) i
  rw [show 2 ^ 32 - (r + 1) = 4294967295 - r by omega] at h3
  have h4 := Nat.testBit_two_pow_sub_one 32 i
  rw [show 2 ^ 32 - 1 = 4294967295 by decide] at h4
  rw [Nat.testBit_xor, h3, h4]
  by_cases hi : i < 32
  · simp [hi]
  · have : Nat.testBit r i = false := Nat.testBit_lt_two_pow (Nat.lt_of_lt_of_le (by simpa using h : r < 2 ^ 32) (Nat.pow_le_pow_right (by decide) (by omega)))
    simp [hi, this]

theorem reg_rest (l : List UInt8) : reg 4294967295 (l ++ four (sum l)) = 3736805603 := by
  rw [reg_append]
  unfold four
  rw [reg4, num4_four _ (sum_lt l)]
  unfold sum
  rw [xor_neg _ (reg_lt _ _ (by omega))]
  decide +kernel

theorem sum_rest (l : List UInt8) : sum (l ++ four (sum l)) = 558161692 := by
  unfold sum
  have := reg_rest l
  unfold sum at this
  rw [this]
theorem four_inj (a b c d : UInt8) (n : Nat) (h : num4 a b c d = n) : four n = [a, b, c, d] := by
  have ha := a.toNat_lt; have hb := b.toNat_lt; have hc := c.toNat_lt; have hd := d.toNat_lt
  subst h
  unfold four num4
  have e : ∀ (x : UInt8) (m : Nat), m = x.toNat → UInt8.ofNat m = x := fun x m hm => by subst hm; exact UInt8.ofNat_toNat
  rw [e a _ (by omega), e b _ (by omega), e c _ (by omega), e d _ (by omega)]

theorem four_eq (a b c d : UInt8) (n : Nat) (hn : n < 4294967296) : four n = [a, b, c, d] ↔ num4 a b c d = n := by
  refine ⟨fun h => ?_, four_inj a b c d n⟩
  unfold four at h
  simp only [List.cons.injEq, and_true] at h
  obtain ⟨rfl, rfl, rfl, rfl⟩ := h
  exact num4_four n hn

/-- Four bytes or more: the last four are told apart. -/
theorem last4 (l : List UInt8) (h : 4 ≤ l.length) : ∃ m a b c d, l = m ++ [a, b, c, d] := by
  have h1 : (l.drop (l.length - 4)).length = 4 := by simp; omega
  have h2 := List.take_append_drop (l.length - 4) l
  match hd : l.drop (l.length - 4), h1 with
  | [a, b, c, d], _ => exact ⟨l.take (l.length - 4), a, b, c, d, by rw [← hd]; exact h2.symm⟩
/-- A row of noughts, its first cells written over. -/
def over (n : Nat) (A : List UInt8) : List UInt8 := A ++ List.replicate (n - A.length) 0
theorem over_length (n : Nat) (A : List UInt8) (h : A.length ≤ n) : (over n A).length = n := by simp [over]; omega
theorem over_set (n : Nat) (A : List UInt8) (c : UInt8) (h : A.length < n) : (over n A).set A.length c = over n (A ++ [c]) := by
  unfold over
  rw [List.set_append_right _ _ (Nat.le_refl _), Nat.sub_self, show n - A.length = (n - (A ++ [c]).length) + 1 by simp; omega, List.replicate_succ]
  simp
theorem over_nil (n : Nat) : over n [] = List.replicate n 0 := by simp [over]
theorem over_full (n : Nat) (A : List UInt8) (h : A.length = n) : over n A = A := by simp [over, h]
/-- The bytes of two texts, one against the other. -/
def xors (a b : List UInt8) : List UInt8 := List.zipWith (fun x y => x ^^^ y) a b
theorem xors_take (a b : List UInt8) (k : Nat) (h1 : k < a.length) (h2 : k < b.length) : xors (a.take (k + 1)) (b.take (k + 1)) = xors (a.take k) (b.take k) ++ [a[k] ^^^ b[k]] := by
  unfold xors
  rw [take_snoc a k h1, take_snoc b k h2, List.zipWith_append (by simp; omega)]
  rfl
theorem xors_length (a b : List UInt8) (k : Nat) (h1 : k ≤ a.length) (h2 : k ≤ b.length) : (xors (a.take k) (b.take k)).length = k := by simp [xors]; omega
theorem reg_xors (m n : Nat) : ∀ (a b : List UInt8), a.length = b.length → reg (m ^^^ n) (xors a b) = reg m a ^^^ reg n b
  | [], [], _ => rfl
  | x :: a, y :: b, h => by
    have ih := reg_xors (upd m x) (upd n y) a b (by simpa using h)
    simp only [xors, List.zipWith_cons_cons, reg, List.foldl_cons] at *
    have : upd (m ^^^ n) (x ^^^ y) = upd m x ^^^ upd n y := by
      unfold upd
      rw [← stps_xor, UInt8.toNat_xor]
      congr 1; ac_rfl
    rw [this]; exact ih
theorem xors_zero (b : List UInt8) : xors (List.replicate b.length 0) b = b := by
  induction b with
  | nil => rfl
  | cons x b ih => simp only [xors, List.length_cons, List.replicate_succ, List.zipWith_cons_cons] at *; rw [ih]; simp
theorem neg_xor (a b : Nat) (ha : a < 4294967296) (hb : b < 4294967296) : (4294967295 - a) ^^^ (4294967295 - b) = a ^^^ b := by
  have h1 := xor_neg a ha
  have h2 := xor_neg b hb
  have h3 : (a ^^^ (4294967295 - a)) ^^^ (b ^^^ (4294967295 - b)) = 0 := by rw [h1, h2]; exact Nat.xor_self _
  have h4 : ((4294967295 - a) ^^^ (4294967295 - b)) ^^^ (a ^^^ b) = 0 := by rw [← h3]; ac_rfl
  have h5 : (((4294967295 - a) ^^^ (4294967295 - b)) ^^^ (a ^^^ b)) ^^^ (a ^^^ b) = 0 ^^^ (a ^^^ b) := by rw [h4]
  rw [Nat.xor_assoc, Nat.xor_self] at h5
  simpa using h5
/-- Sums of bytes that are changed alike differ alike. -/
theorem sum_xors (a b : List UInt8) (h : a.length = b.length) : sum (xors a b) ^^^ sum (List.replicate a.length 0) = sum a ^^^ sum b := by
  unfold sum
  rw [neg_xor _ _ (reg_lt _ _ (by omega)) (reg_lt _ _ (by omega)), neg_xor _ _ (reg_lt _ _ (by omega)) (reg_lt _ _ (by omega))]
  have h1 := reg_xors 4294967295 0 a b h
  have h2 := reg_xors 4294967295 0 (List.replicate b.length 0) b (by simp)
  rw [xors_zero] at h2
  simp only [Nat.xor_zero] at h1 h2
  rw [h1, h2, h]
  rw [show reg 4294967295 a ^^^ reg 0 b ^^^ reg 4294967295 (List.replicate b.length 0) = reg 4294967295 a ^^^ (reg 4294967295 (List.replicate b.length 0) ^^^ reg 0 b) by ac_rfl]
/-- One bit turned, if it is there. -/
def flip (l : List UInt8) (i : Nat) : List UInt8 := if i / 8 < l.length then l.set (i / 8) (l.getD (i / 8) 0 ^^^ UInt8.ofNat (2 ^ (i % 8))) else l
/-- The bits of a number turned, the first so many of them. -/
def bst (l : List UInt8) (at_ bits : Nat) : Nat → List UInt8
  | 0 => l
  | k + 1 => if bits / 2 ^ k % 2 = 1 then flip (bst l at_ bits k) (at_ + k) else bst l at_ bits k
theorem flip_length (l : List UInt8) (i : Nat) : (flip l i).length = l.length := by unfold flip; split <;> simp
theorem bst_length (l : List UInt8) (a b k : Nat) : (bst l a b k).length = l.length := by
  induction k with
  | zero => rfl
  | succ k ih => simp only [bst]; split <;> simp [flip_length, ih]
/-- The number that bytes are, the lowest first. -/
def num : List UInt8 → Nat
  | [] => 0
  | c :: l => c.toNat ^^^ (2 ^ 8 * num l)
theorem reg_num : ∀ (l : List UInt8) (n : Nat), reg n l = stps (8 * l.length) (n ^^^ num l)
  | [], n => by simp [reg, num, stps]
  | c :: l, n => by
    have ih := reg_num l (upd n c)
    simp only [reg, List.foldl_cons, num, List.length_cons] at *
    rw [ih]
    unfold upd
    rw [stps_in 8 (n ^^^ c.toNat), ← stps_add]
    congr 1
    ac_rfl
theorem num_cons (c : UInt8) (l : List UInt8) : num (c :: l) = c.toNat + 2 ^ 8 * num l := xor_shift 8 _ _ c.toNat_lt
theorem num_inj : ∀ (a b : List UInt8), a.length = b.length → num a = num b → a = b
  | [], [], _, _ => rfl
  | x :: a, y :: b, h, e => by
    rw [num_cons, num_cons] at e
    have hx := x.toNat_lt
    have hy := y.toNat_lt
    have e1 : x.toNat = y.toNat := by omega
    have e2 : num a = num b := by omega
    rw [UInt8.toNat_inj.1 e1, num_inj a b (by simpa using h) e2]
theorem mul_xor (k x y : Nat) : 2 ^ k * (x ^^^ y) = (2 ^ k * x) ^^^ (2 ^ k * y) := by
  have := Nat.shiftLeft_xor_distrib (a := x) (b := y) (i := k)
  simpa [Nat.shiftLeft_eq, Nat.mul_comm] using this
theorem num_set : ∀ (l : List UInt8) (p : Nat) (c : UInt8), p < l.length → num (l.set p (l.getD p 0 ^^^ c)) = num l ^^^ (2 ^ (8 * p) * c.toNat)
  | x :: l, 0, c, _ => by
    simp only [List.set_cons_zero, List.getD_cons_zero, num, UInt8.toNat_xor]
    simp only [Nat.mul_zero, Nat.pow_zero, Nat.one_mul]
    ac_rfl
  | x :: l, p + 1, c, h => by
    have ih := num_set l p c (by simpa using h)
    simp only [List.set_cons_succ, List.getD_cons_succ, num]
    rw [ih, mul_xor, ← Nat.xor_assoc, ← Nat.mul_assoc, ← Nat.pow_add, show 8 + 8 * p = 8 * (p + 1) by omega]
theorem num_flip (l : List UInt8) (j : Nat) : ∃ b, (b = 0 ∨ b = 1) ∧ num (flip l j) = num l ^^^ (2 ^ j * b) := by
  unfold flip
  split
  · rename_i h
    refine ⟨1, .inr rfl, ?_⟩
    rw [num_set l (j / 8) _ h]
    have h8 : 2 ^ (j % 8) < 256 := Nat.lt_of_lt_of_le (Nat.pow_lt_pow_right (by decide) (by omega : j % 8 < 8)) (by decide)
    rw [UInt8.toNat_ofNat', Nat.mod_eq_of_lt h8, ← Nat.pow_add, show 8 * (j / 8) + j % 8 = j by omega, Nat.mul_one]
  · exact ⟨0, .inl rfl, by simp⟩
theorem num_bst (l : List UInt8) (m i : Nat) : ∀ k, ∃ v, v < 2 ^ k ∧ num (bst l m i k) = num l ^^^ (2 ^ m * v)
  | 0 => ⟨0, by simp, by simp [bst]⟩
  | k + 1 => by
    obtain ⟨v, hv, he⟩ := num_bst l m i k
    simp only [bst]
    have hlt : v < 2 ^ (k + 1) := by rw [Nat.pow_succ]; omega
    split
    · obtain ⟨b, hb, hf⟩ := num_flip (bst l m i k) (m + k)
      refine ⟨v ^^^ (2 ^ k * b), ?_, ?_⟩
      · refine Nat.xor_lt_two_pow hlt ?_
        rcases hb with rfl | rfl
        · simpa using Nat.two_pow_pos (k + 1)
        · rw [Nat.pow_succ]; have := Nat.two_pow_pos k; omega
      · rw [hf, he, mul_xor, Nat.pow_add, Nat.mul_assoc, Nat.xor_assoc]
    · exact ⟨v, hlt, he⟩
theorem xor_zero_eq {a b : Nat} (h : a ^^^ b = 0) : a = b := by
  have h1 : (a ^^^ b) ^^^ b = 0 ^^^ b := by rw [h]
  rw [Nat.xor_assoc, Nat.xor_self] at h1
  simpa using h1
/-- A burst that leaves the sum's rest as it was has changed nothing. -/
theorem burst_nothing (L : List UInt8) (m i : Nat) (hm : m ≤ 8 * L.length) (n : Nat) (h : reg n (bst L m i 32) = reg n L) : bst L m i 32 = L := by
  obtain ⟨v, hv, he⟩ := num_bst L m i 32
  rw [reg_num, reg_num, bst_length, he] at h
  have h1 : stps (8 * L.length) (n ^^^ (num L ^^^ 2 ^ m * v)) ^^^ stps (8 * L.length) (n ^^^ num L) = 0 := by rw [h]; exact Nat.xor_self _
  rw [← stps_xor] at h1
  have h2 : n ^^^ (num L ^^^ 2 ^ m * v) ^^^ (n ^^^ num L) = 2 ^ m * v := by
    rw [show n ^^^ (num L ^^^ 2 ^ m * v) ^^^ (n ^^^ num L) = (n ^^^ n) ^^^ ((num L ^^^ num L) ^^^ 2 ^ m * v) by ac_rfl]
    simp
  rw [h2, show 8 * L.length = (8 * L.length - m) + m by omega, stps_add, stps_shift] at h1
  have h3 := stps_zero _ (by simpa using hv) h1
  subst h3
  exact num_inj _ _ (bst_length _ _ _ _) (by rw [he]; simp)

/-- Sealed bytes that a burst has changed are sealed no more. -/
theorem burst_not_sealed (l : List UInt8) (m i : Nat) (b : List UInt8) (x0 x1 x2 x3 : UInt8) (hm : m ≤ 8 * (l.length + 4)) (hs : bst (l ++ four (sum l)) m i 32 ≠ l ++ four (sum l))
    (he : bst (l ++ four (sum l)) m i 32 = b ++ [x0, x1, x2, x3]) : num4 x0 x1 x2 x3 ≠ sum b := by
  intro hn
  apply hs
  refine burst_nothing _ m i (by simp [four]; omega) 4294967295 ?_
  rw [reg_rest, he, ← four_inj x0 x1 x2 x3 (sum b) hn, reg_rest]
end Go.Proofs.Ytfkpkchnjacfjaa
