/- Rows of rows of bytes that came in, as lists. No program of a seat is named here but for its names. -/
import Derived.Test.YtoccanppfdeggaaFrG
import Derived.Deep.Matrix
namespace Go.Proofs.Ytoccanppfdeggaa
open Go.RowKit Go.Tab

theorem SlsAt.nil {w : World} : SlsAt w (.slice none 0 0) [] [] := ⟨RowOf.nil, Rows.nil⟩
theorem bytes_are {w : World} {x : Addr} {n c : Nat} {zs : List Int} (hl : n ≤ c) (hm : c ≤ maxLen) (hz : zs.length = c)
    (hcell : ∀ i, i < zs.length → w.cell? (x.add i) = some (.int .u8 (zs.getD i 0))) (hwz : ∀ z ∈ zs, (Lit.int .u8 z).wf = true) :
    RowOf byteV w (.slice (some x) n c) ((zs.take n).map (fun z => UInt8.ofNat z.toNat)) := by
  refine ⟨some x, c, ?_, ?_, hm, (fun h => by cases h), fun y hy hne => ?_⟩
  · congr 1
    simp [hz, Nat.min_eq_left hl]
  · simp [hz]; omega
  · cases hy
    have hn0 : 0 < zs.length := by
      rcases Nat.eq_zero_or_pos zs.length with h | h
      · simp [List.eq_nil_of_length_eq_zero h] at hne
      · exact h
    have hc := hcell 0 hn0
    obtain ⟨b, off, sp⟩ := x
    have hsp : sp = none := by simpa [Addr.add] using World.cell?_spot hc
    subst hsp
    refine ⟨rfl, World.block_lt_of_cell? w _ hc, fun j hj => ?_⟩
    simp at hj
    have h1 := hcell j (by omega)
    rw [Addr.add_lit] at h1
    rw [h1]
    have h2 := hwz (zs.getD j 0) (by rw [List.getD_eq_getElem?_getD, List.getElem?_eq_getElem (by omega)]; exact List.getElem_mem _)
    have h3 : 0 ≤ zs.getD j 0 ∧ zs.getD j 0 < 256 := by
      rw [Lit.wf, Bool.and_eq_true, decide_eq_true_eq, decide_eq_true_eq] at h2
      have e1 : IntKind.u8.min = 0 := rfl
      have e2 : IntKind.u8.max = 255 := rfl
      omega
    simp only [List.getElem_map, List.getElem_take, byteV]
    have h4 : zs.getD j 0 = zs[j]'(by omega) := by rw [List.getD_eq_getElem?_getD, List.getElem?_eq_getElem (by omega)]; rfl
    rw [h4] at h3 ⊢
    congr 2
    have h5 : (UInt8.ofNat zs[j].toNat).toNat = zs[j].toNat := by rw [UInt8.toNat_ofNat']; omega
    rw [h5]; omega

theorem sls_of_rows {w : World} {a : Addr} {len cap : Nat} {A : Nat → Option Addr} {L C : Nat → Nat} {Z : Nat → List Int} (hl : len ≤ cap) (hm : cap ≤ maxLen)
    (h : ∀ r, r < cap → w.cell? (a.add r) = some (.slice (A r) (L r) (C r)) ∧ L r ≤ C r ∧ C r ≤ maxLen ∧ (Z r).length = C r ∧ (∀ n ∈ Z r, (Lit.int .u8 n).wf = true) ∧ (A r = none → C r = 0) ∧
      ∀ a', A r = some a' → ∀ c, c < C r → w.cell? (a'.add c) = some (.int .u8 ((Z r).getD c 0))) :
    ∃ vs ls, SlsAt w (.slice (some a) len cap) vs ls ∧ vs.length = len ∧ ls = (List.range len).map fun r => ((Z r).take (L r)).map fun z => UInt8.ofNat z.toNat := by
  have each : ∀ r, r < cap → RowOf byteV w (.slice (A r) (L r) (C r)) (((Z r).take (L r)).map fun z => UInt8.ofNat z.toNat) := by
    intro r hr
    obtain ⟨_, q1, q2, q3, q4, q5, q6⟩ := h r hr
    cases hA : A r with
    | none =>
      have h0 := q5 hA
      have h1 : L r = 0 := by omega
      rw [h0, h1]
      exact RowOf.nil
    | some x =>
      exact bytes_are q1 q2 q3 (fun i hi => q6 x hA i (by omega)) q4
  refine ⟨(List.range len).map fun r => (A r, L r, C r), _, ⟨⟨some a, cap, by simp, by simpa using hl, hm, (fun h => by cases h), fun x hx hne => ?_⟩, by simp, fun j h1 h2 => ?_⟩, by simp, rfl⟩
  · cases hx
    have h0 : 0 < len := by
      rcases Nat.eq_zero_or_pos len with h | h
      · subst h; exact absurd rfl hne
      · exact h
    have hc := (h 0 (by omega)).1
    obtain ⟨b, off, sp⟩ := a
    have hsp : sp = none := by simpa [Addr.add] using World.cell?_spot hc
    subst hsp
    refine ⟨rfl, World.block_lt_of_cell? w _ hc, fun j hj => ?_⟩
    simp at hj
    have h1 := (h j (by omega)).1
    rw [Addr.add_lit] at h1
    rw [h1]
    simp [slV]
  · simp at h1
    simpa [slV] using each j (by omega)
end Go.Proofs.Ytoccanppfdeggaa
