/- The walks of the smallest functions of layer 2: isScalar, width, tail, first. -/
import Derived.Test.YtpcfhiipkbpmkaaDoorRows
import Derived.Test.YtpcfhiipkbpmkaaDoorKit
import Derived.Test.YtpcfhiipkbpmkaaDoorUtfP
import Derived.Laws.BitsAllLaws
namespace Go.Proofs.YtpcfhiipkbpmkaaDoor
open Go.RowKit Go.Tab

/-- A string's bytes, as numbers. -/
def bs (s : ByteArray) : List Nat := s.data.toList.map UInt8.toNat
theorem bs_length (s : ByteArray) : (bs s).length = s.size := by
  unfold bs
  rw [List.length_map, Array.length_toList]
  rfl
theorem bs_lt {s : ByteArray} : ∀ x ∈ bs s, x < 256 := by
  intro x hx
  obtain ⟨c, _, rfl⟩ := List.mem_map.1 hx
  exact c.toNat_lt
theorem bs_get {s : ByteArray} {i : Nat} (h : i < s.size) : (s[i]'h).toNat = (bs s)[i]'(by rw [bs_length]; exact h) := by
  simp [bs]; rfl
theorem bs_at {s : ByteArray} {i : Nat} {l : List Nat} (h : (bs s).drop i = l) {j : Nat} (hj : j < l.length) : ∃ h' : i + j < s.size, (s[i + j]'h').toNat = l[j] := by
  subst h
  simp [bs_length] at hj
  refine ⟨by omega, ?_⟩
  rw [bs_get]; simp

/-- The table of sizes, as the program lays it. -/
def Tab (w : World) : Prop := ∀ j : Nat, j < 32 → w.cell? ⟨7, j, none⟩ = some (.int .i64 (sizeOf8 (8 * j) : Nat))
theorem Tab.below {w w' : World} {B : Nat} (h : Tab w) (hb : Below B w w') (hB : 7 < B) : Tab w' := fun j hj => (hb.cell hB).trans (h j hj)
theorem Tab.pos {w : World} (h : Tab w) : 7 < w.heap.size := World.block_lt_of_cell? w _ (h 0 (by decide))
theorem size_same (a : Nat) : sizeOf8 (8 * (a / 8)) = sizeOf8 a := by
  unfold sizeOf8
  have h1 : 8 * (a / 8) < 128 ↔ a < 128 := by omega
  have h2 : 8 * (a / 8) < 192 ↔ a < 192 := by omega
  have h3 : 8 * (a / 8) < 224 ↔ a < 224 := by omega
  have h4 : 8 * (a / 8) < 240 ↔ a < 240 := by omega
  have h5 : 8 * (a / 8) < 248 ↔ a < 248 := by omega
  simp only [h1, h2, h3, h4, h5]

theorem i64_and_nat (a b : Nat) (ha : a < 4611686018427387904) (hb : b < 4611686018427387904) : bits .and .i64 (a : Int) (b : Int) = ((a &&& b : Nat) : Int) := by
  have hx : a &&& b < 2 ^ 62 := Nat.and_lt_two_pow _ (by omega)
  have e1 : (BitVec.ofInt 64 (a : Int)).toNat = a := by rw [BitVec.ofInt_natCast, BitVec.toNat_ofNat]; exact Nat.mod_eq_of_lt (by omega)
  have e2 : (BitVec.ofInt 64 (b : Int)).toNat = b := by rw [BitVec.ofInt_natCast, BitVec.toNat_ofNat]; exact Nat.mod_eq_of_lt (by omega)
  show IntKind.i64.wrap ((BitVec.ofInt 64 (a : Int) &&& BitVec.ofInt 64 (b : Int)).toNat : Int) = _
  rw [BitVec.toNat_and, e1, e2, IntKind.wrap_i64]
  omega
theorem i64_or_nat (a b : Nat) (ha : a < 4611686018427387904) (hb : b < 4611686018427387904) : bits .or .i64 (a : Int) (b : Int) = ((a ||| b : Nat) : Int) := by
  have hx : a ||| b < 2 ^ 62 := Nat.or_lt_two_pow (by omega) (by omega)
  have e1 : (BitVec.ofInt 64 (a : Int)).toNat = a := by rw [BitVec.ofInt_natCast, BitVec.toNat_ofNat]; exact Nat.mod_eq_of_lt (by omega)
  have e2 : (BitVec.ofInt 64 (b : Int)).toNat = b := by rw [BitVec.ofInt_natCast, BitVec.toNat_ofNat]; exact Nat.mod_eq_of_lt (by omega)
  show IntKind.i64.wrap ((BitVec.ofInt 64 (a : Int) ||| BitVec.ofInt 64 (b : Int)).toNat : Int) = _
  rw [BitVec.toNat_or, e1, e2, IntKind.wrap_i64]
  omega
theorem and_mask (a k : Nat) : a &&& (2 ^ k - 1) = a % 2 ^ k := Nat.and_two_pow_sub_one_eq_mod a k
theorem and31 (a : Nat) (h : a < 256) : bits .and .i64 (a : Int) 31 = ((a % 32 : Nat) : Int) := by
  have := i64_and_nat a 31 (by omega) (by omega); rw [show 31 = 2 ^ 5 - 1 by rfl, and_mask] at this; simpa using this
theorem and15 (a : Nat) (h : a < 256) : bits .and .i64 (a : Int) 15 = ((a % 16 : Nat) : Int) := by
  have := i64_and_nat a 15 (by omega) (by omega); rw [show 15 = 2 ^ 4 - 1 by rfl, and_mask] at this; simpa using this
theorem and7 (a : Nat) (h : a < 256) : bits .and .i64 (a : Int) 7 = ((a % 8 : Nat) : Int) := by
  have := i64_and_nat a 7 (by omega) (by omega); rw [show 7 = 2 ^ 3 - 1 by rfl, and_mask] at this; simpa using this
theorem and63 (a : Nat) (h : a < 4611686018427387904) : bits .and .i64 (a : Int) 63 = ((a % 64 : Nat) : Int) := by
  have := i64_and_nat a 63 h (by omega); rw [show 63 = 2 ^ 6 - 1 by rfl, and_mask] at this; simpa using this
theorem and192 (a : Nat) (h : a < 256) : bits .and .i64 (a : Int) 192 = ((a / 64 * 64 : Nat) : Int) := by
  have := i64_and_nat a 192 (by omega) (by omega)
  have h2 : ∀ a : Fin 256, a.val &&& 192 = a.val / 64 * 64 := by decide +kernel
  rw [show a &&& 192 = a / 64 * 64 from h2 ⟨a, h⟩] at this
  simpa using this
theorem or64 (a b : Nat) (h : a < 16777216) (hb : b < 64) : bits .or .i64 ((a : Int) * 64) (b : Int) = ((a * 64 + b : Nat) : Int) := by
  have := i64_or_nat (a * 64) b (by omega) (by omega)
  have h7 := Nat.two_pow_add_eq_or_of_lt (i := 6) (b := b) (by omega) a
  rw [show 2 ^ 6 * a = a * 64 by omega] at h7
  rw [← h7] at this
  simpa using this

def isScI (c : Int) : Bool := decide (0 ≤ c) && decide (c ≤ 1114111) && (decide (c < 55296) || decide (57343 < c))
theorem isScI_nat (c : Nat) : isScI (c : Int) = isSc c := by
  unfold isScI isSc
  have e1 : decide (0 ≤ (c : Int)) = true := by simp
  have e2 : decide ((c : Int) ≤ 1114111) = decide (c ≤ 1114111) := by simp only [decide_eq_decide]; omega
  have e3 : decide ((c : Int) < 55296) = decide (c < 55296) := by simp only [decide_eq_decide]; omega
  have e4 : decide (57343 < (c : Int)) = decide (57343 < c) := by simp only [decide_eq_decide]; omega
  rw [e1, e2, e3, e4]; simp
theorem ret_bool {a b : Bool} (h : a = b) : Ending.returned (.bool a) = .returned (.bool b) := by rw [h]
theorem ret_num {k : IntKind} {a b : Int} (h : a = b) : Ending.returned (.int k a) = .returned (.int k b) := by rw [h]

set_option maxHeartbeats 800000 in
set_option maxRecDepth 100000 in
theorem isScalar_any (c : Int) (w : World) : Calls Tryd.prog 169 #[.int .i64 c] w fun e w' => e = .returned (.bool (isScI c)) ∧ w = w' := by
  unfold isScI
  by_cases h0 : 0 ≤ c
  · by_cases h1 : c ≤ 1114111
    · by_cases h2 : c < 55296
      · go_enter Tryd.func169, Tryd.ntmps169
        go_wp2
        go_ret
        exact ⟨ret_bool (by simp [h0, h1, h2]), rfl⟩
      · have h3 : decide (c < 55296) = false := by simp; omega
        go_enter Tryd.func169, Tryd.ntmps169
        go_wp2
        go_ret
        exact ⟨ret_bool (by simp [h0, h1, h2]), rfl⟩
    · have h3 : decide (c ≤ 1114111) = false := by simp; omega
      go_enter Tryd.func169, Tryd.ntmps169
      go_wp2
      go_ret
      exact ⟨ret_bool (by simp [h0, h1]), rfl⟩
  · have h3 : decide (0 ≤ c) = false := by simp; omega
    go_enter Tryd.func169, Tryd.ntmps169
    go_wp2
    go_ret
    exact ⟨ret_bool (by simp [h0]), rfl⟩

set_option maxHeartbeats 800000 in
set_option maxRecDepth 100000 in
theorem width_any (c : Nat) (w : World) : Calls Tryd.prog 170 #[.int .i64 c] w fun e w' => e = .returned (.int .i64 (wid c : Nat)) ∧ w = w' := by
  unfold wid
  by_cases h1 : c < 128
  · rw [if_pos h1]
    go_enter Tryd.func170, Tryd.ntmps170
    go_wp2
    go_ret
    exact ⟨rfl, rfl⟩
  · rw [if_neg h1]
    by_cases h2 : c < 2048
    · rw [if_pos h2]
      have d1 : decide ((c : Int) < 128) = false := by simp; omega
      have d2 : decide ((c : Int) < 2048) = true := by simp; omega
      clear h1 h2
      go_enter Tryd.func170, Tryd.ntmps170
      go_wp2
      go_ret
      exact ⟨rfl, rfl⟩
    · rw [if_neg h2]
      by_cases h3 : c < 65536
      · rw [if_pos h3]
        have d1 : decide ((c : Int) < 128) = false := by simp; omega
        have d2 : decide ((c : Int) < 2048) = false := by simp; omega
        have d3 : decide ((c : Int) < 65536) = true := by simp; omega
        clear h1 h2 h3
        go_enter Tryd.func170, Tryd.ntmps170
        go_wp2
        go_ret
        exact ⟨rfl, rfl⟩
      · rw [if_neg h3]
        have d1 : decide ((c : Int) < 128) = false := by simp; omega
        have d2 : decide ((c : Int) < 2048) = false := by simp; omega
        have d3 : decide ((c : Int) < 65536) = false := by simp; omega
        clear h1 h2 h3
        go_enter Tryd.func170, Tryd.ntmps170
        go_wp2
        go_ret
        exact ⟨rfl, rfl⟩
end Go.Proofs.YtpcfhiipkbpmkaaDoor
