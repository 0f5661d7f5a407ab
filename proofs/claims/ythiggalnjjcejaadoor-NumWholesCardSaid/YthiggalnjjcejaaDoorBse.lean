/- Bytes of strings, as numbers. -/
import Derived.Test.YthiggalnjjcejaaDoorRows
import Derived.Test.YthiggalnjjcejaaDoorKit
namespace Go.Proofs.YthiggalnjjcejaaDoor
set_option linter.unusedSimpArgs false
set_option linter.unusedVariables false
open Go.RowKit Go.Tab

/-- A string's bytes, as numbers. -/
def bs (s : ByteArray) : List Nat := s.data.toList.map UInt8.toNat
theorem bs_length (s : ByteArray) : (bs s).length = s.size := by
  unfold bs
  rw [List.length_map, Array.length_toList]
  rfl
theorem bs_lt {s : ByteArray} : ∀ x ∈ bs s, x < 256 := by
  intro x hx
  obtain ⟨c, _, rfl⟩ := List.mem_map.1 hx
  exact c.toNat_lt
theorem bs_get {s : ByteArray} {i : Nat} (h : i < s.size) : (s[i]'h).toNat = (bs s)[i]'(by rw [bs_length]; exact h) := by
  simp [bs]; rfl
theorem bs_at {s : ByteArray} {i : Nat} {l : List Nat} (h : (bs s).drop i = l) {j : Nat} (hj : j < l.length) : ∃ h' : i + j < s.size, (s[i + j]'h').toNat = l[j] := by
  subst h
  simp [bs_length] at hj
  refine ⟨by omega, ?_⟩
  rw [bs_get]; simp

theorem emp_of {d : ByteArray} (h0 : d.size = 0) : d = ⟨#[]⟩ := by
  cases d with
  | mk a => exact congrArg ByteArray.mk (Array.eq_empty_of_size_eq_zero h0)
theorem ne_emp {d : ByteArray} (h0 : ¬ d.size = 0) : d.toList.isEmpty = false := by
  rw [ByteArray.toList_eq, List.isEmpty_eq_false_iff]
  intro h
  exact h0 (by have := congrArg List.length h; simpa using this)
/-- The text of a list of bytes. -/
def strL (l : List UInt8) : ByteArray := ⟨l.toArray⟩
theorem strL_list (l : List UInt8) : (strL l).data.toList = l := rfl
theorem strL_of (s : ByteArray) : s = strL s.data.toList := by cases s; rfl
theorem strL_inj {a b : List UInt8} (h : strL a = strL b) : a = b := by have := congrArg (fun s => s.data.toList) h; simpa [strL] using this
theorem str_ext {a b : ByteArray} (h : a.data.toList = b.data.toList) : a = b := by rw [strL_of a, strL_of b, h]
theorem size_list (s : ByteArray) : s.size = s.data.toList.length := by cases s; rfl
theorem size_strL (l : List UInt8) : (strL l).size = l.length := by rw [size_list]; rfl
theorem get_list {s : ByteArray} {i : Nat} (h : i < s.size) : s[i]'h = s.data.toList[i]'(by rw [← size_list]; exact h) := rfl
theorem ext_list (s : ByteArray) (a b : Nat) : (s.extract a b).data.toList = (s.data.toList.take b).drop a := by
  rw [ByteArray.data_extract, Array.toList_extract, List.extract_eq_take_drop, List.drop_take]
theorem app_list (s t : ByteArray) : (s ++ t).data.toList = s.data.toList ++ t.data.toList := by rw [ByteArray.data_append, Array.toList_append]
theorem ret_bool {a b : Bool} (h : a = b) : Ending.returned (.bool a) = .returned (.bool b) := by rw [h]
theorem ret_num {k : IntKind} {a b : Int} (h : a = b) : Ending.returned (.int k a) = .returned (.int k b) := by rw [h]

end Go.Proofs.YthiggalnjjcejaaDoor
