/- A spot's nine cells in its row (layer 8). -/
import Derived.Test.YtpcfhiipkbpmkaaDoorTreZ
namespace Go.Proofs.YtpcfhiipkbpmkaaDoor
open Go.RowKit Go.Tab

theorem flatS_get : ∀ (L : List ((Nat × Tree) × List Value)) (_ : ∀ s ∈ L, s.2.length = 8) (k : Nat) (hk : k < L.length) (j : Nat) (_ : j < 9), (flatS L)[k * 9 + j]? = (Value.int .i64 (L[k].1.1 : Nat) :: L[k].2)[j]?
  | s :: r, h8, 0, _, j, hj => by
    have h := h8 s (by simp)
    simp only [flatS, List.flatMap_cons, Nat.zero_mul, Nat.zero_add, List.getElem_cons_zero]
    rw [List.getElem?_append_left (by simp only [List.length_cons]; omega)]
  | s :: r, h8, k + 1, hk, j, hj => by
    have h := h8 s (by simp)
    have ih := flatS_get r (fun x hx => h8 x (by simp [hx])) k (by simpa using hk) j hj
    simp only [flatS, List.flatMap_cons, List.getElem_cons_succ] at ih ⊢
    rw [List.getElem?_append_right (by simp only [List.length_cons]; omega), ← ih]
    congr 1
    simp only [List.length_cons]
    omega
/-- What a spot's cells are, where the row is told. -/
theorem SpotsP.at {base : Nat} {w0 W : World} {g n cap : Nat} {ss : List (Nat × Tree)} (h : SpotsP base w0 W (.slice (some ⟨g, 0, none⟩) n cap) ss) {k : Nat} (hk : k < ss.length) :
    ∃ cs, ValAt w0 ss[k].2 cs ∧ W.cell? ⟨g, k * 9, none⟩ = some (.int .i64 (ss[k].1 : Nat)) ∧ ∀ j u, cs[j]? = some u → W.cell? ⟨g, k * 9 + (j + 1), none⟩ = some u := by
  obtain ⟨L, h1, h2, h3⟩ := h
  have hl : L.length = ss.length := by rw [← h1, List.length_map]
  have hkL : k < L.length := by omega
  have he : ss[k] = L[k].1 := by subst h1; simp
  have h8 : ∀ s ∈ L, s.2.length = 8 := fun s hs => (h2 s hs).len8
  have hc := World.ownsRow.cells (g := g) h3 rfl
  refine ⟨L[k].2, by rw [he]; exact h2 _ (List.getElem_mem hkL), ?_, fun j u hu => ?_⟩
  · have := hc (k * 9 + 0) (.int .i64 (L[k].1.1 : Nat)) (by rw [flatS_get L h8 k hkL 0 (by omega)]; rfl)
    rw [Addr.add_lit] at this
    rw [he]
    simpa using this
  · have hj : j < 8 := by have := (List.getElem?_eq_some_iff.1 hu).1; have := h8 _ (List.getElem_mem hkL); omega
    have := hc (k * 9 + (j + 1)) u (by rw [flatS_get L h8 k hkL (j + 1) (by omega)]; simpa using hu)
    rw [Addr.add_lit] at this
    simpa using this
end Go.Proofs.YtpcfhiipkbpmkaaDoor
