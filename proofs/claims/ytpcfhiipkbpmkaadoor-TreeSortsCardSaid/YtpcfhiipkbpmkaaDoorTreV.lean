/- Arguments that are rows of texts, or values, opened as they came in (layer 8). -/
import Derived.Test.YtpcfhiipkbpmkaaDoorTreB
namespace Go.Proofs.YtpcfhiipkbpmkaaDoor
open Go.RowKit Go.Tab Go.ChangeShapes
section
variable {H : Type} {enc : TypeId × Value → H} {W : World} {base : Nat} {spare : Nat → Bool} {held : Bool}
theorem strs_open {n : Nat} {c : Value} {x : DataW H × List MemPlace} (e4 : DataW.trod enc Tryd.prog W base spare held n 24 [c] = some x) :
    ∃ keys, RowOf Value.string W c keys ∧ ksBulk keys ≤ Rows.uptoBulk x.1 := by
  rcases open_strings Tryd.underlying24 Tryd.underlying9 Tryd.cStr e4 with ⟨h1, h2⟩ | ⟨a, ln, cp, ss, h1, hb, hl, hm, hsl, hx, hcell, hsz⟩
  · simp at h1
    subst h1
    exact ⟨[], RowOf.nil, by simp [ksBulk]⟩
  · simp at h1
    subst h1
    have hln : ln ≤ ss.length := by rw [hsl]; split <;> omega
    have htl : (ss.take ln).length = ln := by rw [List.length_take]; omega
    refine ⟨ss.take ln, ⟨some a, cp, by rw [htl], by rw [htl]; exact hl, hm, (fun h => by cases h), fun y hy hne => ?_⟩, ?_⟩
    · cases hy
      have h0 : 0 < ss.length := by
        rcases Nat.eq_zero_or_pos ss.length with h | h
        · rw [List.eq_nil_of_length_eq_zero h] at hne; simp at hne
        · exact h
      have hc0 := hcell 0 h0
      obtain ⟨bb, off, sp⟩ := a
      have hsp : sp = none := by simpa [Addr.add] using World.cell?_spot hc0
      subst hsp
      refine ⟨rfl, World.block_lt_of_cell? W _ hc0, fun j hj => ?_⟩
      rw [htl] at hj
      have := hcell j (by omega)
      rw [Addr.add_lit] at this
      rw [this, List.getD_eq_getElem?_getD, List.getElem?_eq_getElem (by omega)]
      simp
    · rw [hx]
      have := ks_bulk (H := H) (ss.take ln)
      simp only [Rows.uptoBulk, strs]
      omega
end
theorem valV_list (cs : Array Value) : valV cs.toList = .agg cs := by simp [valV]
end Go.Proofs.YtpcfhiipkbpmkaaDoor
