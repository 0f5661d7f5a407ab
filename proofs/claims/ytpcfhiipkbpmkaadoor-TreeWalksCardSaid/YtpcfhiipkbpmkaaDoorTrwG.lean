/- What an argument keeps where all blocks of cells lie as they lay (layer 8). -/
import Derived.Test.YtpcfhiipkbpmkaaDoorTrwA
namespace Go.Proofs.YtpcfhiipkbpmkaaDoor
open Go.RowKit Go.Tab Go.Shelf

/-- All blocks of cells lie as they lay. -/
def KpA (A B : World) : Prop := A.heap.size ≤ B.heap.size ∧ ∀ (k : Nat) (o : Obj), A.heap[k]? = some o → o.isCells = true → B.heap[k]? = some o
theorem KpA.grown {A B : World} {row : Option Nat} (hg : A.grownBy B row) (hr : ∀ r, row = some r → ∃ o : Obj, A.heap[r]? = some o ∧ o.isCells = false) : KpA A B :=
  ⟨hg.size, fun k o ho hc => (hg.block k (Array.getElem?_eq_some_iff.1 ho).1 (fun e => by
    obtain ⟨q, hq, hqc⟩ := hr k e.symm
    rw [ho] at hq; cases hq; rw [hc] at hqc; cases hqc)).trans ho⟩
theorem KpA.cell {A B : World} (h : KpA A B) {b off : Nat} {u : Value} (hc : A.cell? ⟨b, off, none⟩ = some u) : B.cell? ⟨b, off, none⟩ = some u := by
  obtain ⟨o, ho, hoc⟩ := cell_isCells hc
  exact (cell_same ((h.2 b o ho hoc).trans ho.symm) off).trans hc
theorem KpA.cells {A B : World} (h : KpA A B) {g : Nat} {cs : Array Value} {T : TypeId} (hc : Cells A g cs T) : Cells B g cs T := h.2 g _ hc rfl
theorem KpA.owns {A B : World} (h : KpA A B) {base : Nat} {e : TypeId} {size : Nat} {v : Value} {n : Nat} {xs : List Value} (ho : A.ownsRow base e size v n xs) : B.ownsRow base e size v n xs := by
  obtain ⟨h1, h2⟩ := ho
  refine ⟨h1, ?_⟩
  rcases h2 with h2 | ⟨g, cap, cur, hv, hg, h3, r⟩
  · exact .inl h2
  · exact .inr ⟨g, cap, cur, hv, hg, h.2 g _ h3 rfl, r⟩
theorem KpA.row {A B : World} (h : KpA A B) {v : Value} {l : List ByteArray} (hr : RowOf Value.string A v l) : RowOf Value.string B v l := by
  obtain ⟨a, c, rfl, h1, h2, h3, h4⟩ := hr
  refine ⟨a, c, rfl, h1, h2, h3, fun x hx hne => ?_⟩
  obtain ⟨g1, g2, g3⟩ := h4 x hx hne
  exact ⟨g1, Nat.lt_of_lt_of_le g2 h.1, fun j hj => h.cell (g3 j hj)⟩
mutual
theorem ValAt.kpa {A B : World} (h : KpA A B) : ∀ (t : Tree) (cs : List Value), ValAt A t cs → ValAt B t cs
  | .mk kind is neg digits exp str keys kids, cs, hv => by
    simp only [ValAt] at hv ⊢
    obtain ⟨kv, a, cap, h1, h2, h3, h4, h5, h6⟩ := hv
    refine ⟨kv, a, cap, h1, h.row h2, h3, h4, h5, fun x hx hne => ?_⟩
    obtain ⟨g1, g2, g3⟩ := h6 x hx hne
    exact ⟨g1, Nat.lt_of_lt_of_le g2 h.1, KidsAt.kpa h kids x.off g3⟩
theorem KidsAt.kpa {A B : World} (h : KpA A B) {b : Nat} : ∀ (l : List Tree) (off : Nat), KidsAt A b off l → KidsAt B b off l
  | [], _, _ => by simp only [KidsAt]
  | t :: r, off, hk => by
    simp only [KidsAt] at hk ⊢
    obtain ⟨⟨cs, h1, h2⟩, h3⟩ := hk
    exact ⟨⟨cs, fun j u hu => h.cell (h1 j u hu), ValAt.kpa h t cs h2⟩, KidsAt.kpa h r _ h3⟩
end
end Go.Proofs.YtpcfhiipkbpmkaaDoor
