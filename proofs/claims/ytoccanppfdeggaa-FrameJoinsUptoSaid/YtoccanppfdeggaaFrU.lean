/- What a bound on the bulk of the arguments says of rows of rows of bytes. -/
import Derived.Test.YtoccanppfdeggaaFrO
import Derived.Test.YtoccanppfdeggaaFrJ
import Derived.Test.YtoccanppfdeggaaRows
namespace Go.Proofs.Ytoccanppfdeggaa
open Go.RowKit Go.Tab Go.Deep Go.ChangeShapes

theorem bulk_one {H : Type} (d : DataW H) : 1 ≤ Rows.uptoBulk d := by
  cases d with
  | lit l => cases l <;> simp [Rows.uptoBulk]
  | nil => simp [Rows.uptoBulk]
  | ptr d => simp [Rows.uptoBulk]
  | slice elems spare => simp [Rows.uptoBulk]
  | agg parts => simp [Rows.uptoBulk]
  | iface t d => simp [Rows.uptoBulk]
  | map entries => simp [Rows.uptoBulk]
  | held h => simp [Rows.uptoBulk]
theorem bulk_len {H : Type} (l : List (DataW H)) : l.length ≤ Rows.uptoBulkAll l := by
  induction l with
  | nil => simp [Rows.uptoBulkAll]
  | cons x r ih => have := bulk_one x; simp only [Rows.uptoBulkAll, List.length_cons]; omega
theorem tot_bulk {H : Type} (F : Nat → List UInt8) (G : Nat → DataW H) : ∀ rs : List Nat, (∀ r ∈ rs, (F r).length + 1 ≤ Rows.uptoBulk (G r)) → tot (rs.map F) ≤ Rows.uptoBulkAll (rs.map G)
  | [], _ => by simp [tot, Rows.uptoBulkAll]
  | r :: rs, h => by
    have := tot_bulk F G rs (fun x hx => h x (by simp [hx]))
    have := h r (by simp)
    simp [tot, Rows.uptoBulkAll] at *
    omega

theorem bulk_rows {H : Type} {n c : Nat} {AA : Nat → Option Addr} {LL CC : Nat → Nat} {ZZ : Nat → List Int} {sp : List (DataW H)}
    (h : ∀ r, r < c → LL r ≤ CC r ∧ (ZZ r).length = CC r ∧ (AA r = none → CC r = 0)) (hl : n ≤ c) :
    tot ((List.range n).map fun r => ((ZZ r).take (LL r)).map fun z => UInt8.ofNat z.toNat) ≤ Rows.uptoBulk (DataW.slice (H := H) ((List.range n).map fun r => intRow .u8 (AA r) (LL r) (ZZ r)) sp) := by
  have := tot_bulk (fun r => ((ZZ r).take (LL r)).map fun z => UInt8.ofNat z.toNat) (fun r => intRow (H := H) .u8 (AA r) (LL r) (ZZ r)) (List.range n) fun r hr => by
    have hr' := List.mem_range.1 hr
    obtain ⟨h1, h2, h3⟩ := h r (by omega)
    cases hA : AA r with
    | none =>
      have := h3 hA
      simp [intRow, Rows.uptoBulk]
      omega
    | some x =>
      have := bulk_len (H := H) (lits .u8 ((ZZ r).take (LL r)))
      simp [lits] at this
      simp [intRow, Rows.uptoBulk, lits]
      omega
  simp only [Rows.uptoBulk]
  omega
end Go.Proofs.Ytoccanppfdeggaa
