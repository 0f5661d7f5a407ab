/- Whole numbers of 64 bits, plain (layer 6). -/
import Derived.Test.YthiggalnjjcejaaDoorNuQ
import Derived.Lib.ParseIntB
namespace Go.Proofs.YthiggalnjjcejaaDoor
set_option linter.unusedSimpArgs false
set_option linter.unusedVariables false
open Go.Lib (decDigits)

/-- What digits spell behind a number, if 64 bits hold it all the way. -/
def w64 : Nat → Bs → Option Nat
  | a, [] => some a
  | a, c :: l => if 18446744073709551616 ≤ a * 10 + (c.toNat - 48) then none else w64 (a * 10 + (c.toNat - 48)) l
/-- How the library's reader ends. -/
def endOf : Option Nat → Lib.NumEnd Nat
  | some u => .ok u
  | none => .range
theorem parse_w64 : ∀ (l : Bs) (a : Nat), l.all dg = true → a < 18446744073709551616 → Lib.parseUintM (2 ^ 64 - 1) a l = endOf (w64 a l)
  | [], a, _, _ => rfl
  | c :: l, a, h, ha => by
    rw [List.all_cons, Bool.and_eq_true] at h
    have hc := dg_lt h.1
    rw [Lib.parseUintM, if_pos hc, w64]
    by_cases h1 : 18446744073709551616 ≤ a * 10 + (c.toNat - 48)
    · rw [if_pos h1]
      by_cases h2 : 1844674407370955162 ≤ a
      · rw [if_pos h2]; rfl
      · rw [if_neg h2, if_pos (by omega)]; rfl
    · rw [if_neg h1, if_neg (by omega), if_neg (by omega), parse_w64 l _ h.2 (by omega)]
theorem parseB_w64 {l : Bs} (h : l.all dg = true) (h0 : l ≠ []) : Lib.parseUintB 64 l = endOf (w64 0 l) := by
  rw [Lib.parseUintB, if_neg h0, parse_w64 l 0 h (by omega)]
theorem w64_num : ∀ (l : Bs) (a : Nat), l.foldl (fun n c => n * 10 + (c.toNat - 48)) a < 18446744073709551616 → w64 a l = some (l.foldl (fun n c => n * 10 + (c.toNat - 48)) a)
  | [], _, _ => rfl
  | c :: l, a, h => by
    have mono : ∀ (l : Bs) (a : Nat), a ≤ l.foldl (fun n c => n * 10 + (c.toNat - 48)) a := by
      intro l
      induction l with
      | nil => intro a; exact Nat.le_refl _
      | cons c l ih => intro a; exact Nat.le_trans (show a ≤ a * 10 + (c.toNat - 48) by omega) (ih _)
    rw [List.foldl_cons] at h ⊢
    have h1 := mono l (a * 10 + (c.toNat - 48))
    rw [w64, if_neg (by omega), w64_num l _ h]
theorem w64_dec {u : Nat} (h : u < 18446744073709551616) : w64 0 (decDigits u) = some u := by
  have h2 := dec_num u
  rw [numOf] at h2
  rw [w64_num _ 0 (by rw [h2]; exact h), h2]
/-- The number as a whole one of 64 bits, if it is one. -/
def wholeO (neg : Bool) (d : ByteArray) (e : Int) : Option Nat :=
  if numR neg d e = true ∧ neg = false ∧ 0 ≤ e ∧ (d.size : Int) + e ≤ 20 then w64 0 (d.data.toList ++ zeros e.toNat) else none
/-- A whole number's number. -/
def ofV (v : Nat) : Value := .agg #[.bool false, .string (if v = 0 then ⟨#[]⟩ else strL (cutD v)), .int .i64 (if v = 0 then 0 else cutE v)]
theorem cutE_nn (v : Nat) : 0 ≤ cutE v := by unfold cutE; omega
theorem whole_of {v : Nat} (h : v < 18446744073709551616) : wholeO false (if v = 0 then ⟨#[]⟩ else strL (cutD v)) (if v = 0 then 0 else cutE v) = some v := by
  by_cases h0 : v = 0
  · subst h0; rfl
  · have hr := cut_right h0 h
    have hl := dec_len h
    have hs := cut_split v
    have hle := trimR_le (decDigits v)
    change (cutD v).length ≤ _ at hle
    rw [if_neg h0, if_neg h0, wholeO, if_pos ⟨numR_of hr, rfl, cutE_nn v, by rw [size_strL, cutE]; omega⟩, strL_list, show (cutE v).toNat = (decDigits v).length - (cutD v).length from by rw [cutE, Int.toNat_natCast], ← hs, w64_dec h]
end Go.Proofs.YthiggalnjjcejaaDoor
