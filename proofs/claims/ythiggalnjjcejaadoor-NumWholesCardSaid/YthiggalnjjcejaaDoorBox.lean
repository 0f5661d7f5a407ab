/- Boxes of several cells: blocks known whole. -/
import Derived.Test.YthiggalnjjcejaaDoorRows
import Derived.Test.YthiggalnjjcejaaDoorKit
namespace Go.Proofs.YthiggalnjjcejaaDoor
set_option linter.unusedSimpArgs false
set_option linter.unusedVariables false
open Go.RowKit Go.Tab

/-- Block g is a variable of several cells. -/
def Cells (w : World) (g : Nat) (cs : Array Value) (t : TypeId) : Prop := w.heap[g]? = some (.cells cs t (0, 0))
section
variable {w w' : World} {g : Nat} {cs : Array Value} {t : TypeId}
theorem Cells.lt (h : Cells w g cs t) : g < w.heap.size := (Array.getElem?_eq_some_iff.1 h).1
theorem Cells.cell (h : Cells w g cs t) (j : Nat) (v : Value) (hj : cs[j]? = some v) : w.cell? ⟨g, j, none⟩ = some v := by
  rw [cell_of_row w g _ cs t (0, 0) h]; exact hj
theorem Cells.frozen (h : Cells w g cs t) (j : Nat) : w.frozen? ⟨g, j, none⟩ = false := by simp [World.frozen?, show w.heap[g]? = _ from h]
theorem Cells.kept {row : Option Nat} (h : Cells w g cs t) (hg : w.grownBy w' row) (hne : some g ≠ row) : Cells w' g cs t := (hg.block g h.lt hne).trans h
theorem Cells.below {B : Nat} (h : Cells w g cs t) (hb : Below B w w') (hB : g < B) : Cells w' g cs t := (hb.block g hB).trans h
theorem Cells.alloc (h : Cells w g cs t) (o : Obj) : Cells (w.alloc o) g cs t := h.kept (World.grownBy_alloc w o none) (by simp)
theorem Cells.drew (h : Cells w g cs t) : Cells w.drew g cs t := h
theorem Cells.drewN (h : Cells w g cs t) (n : Nat) : Cells (w.drewN n) g cs t := h
theorem Cells.set (h : Cells w g cs t) (j : Nat) (hj : j < cs.size) (v : Value) : Cells (w.setCell ⟨g, j, none⟩ v) g (cs.set j v hj) t := by
  obtain ⟨hlt, hk⟩ := Array.getElem?_eq_some_iff.1 h
  show (w.heap.modify g _)[g]? = _
  rw [Array.getElem?_eq_getElem (by rw [Array.size_modify]; exact hlt), Array.getElem_modify_self, hk]
  simp [Array.setIfInBounds, hj]
theorem Cells.new (w : World) (cs : Array Value) (t : TypeId) : Cells (w.alloc (.cells cs t)) w.heap.size cs t := by
  show (w.heap.push _)[w.heap.size]? = _
  simp
theorem Cells.shape (h : Cells w g cs t) : w.shape? g = some (t, cs.size) := by simp [World.shape?, show w.heap[g]? = _ from h]
theorem Cells.setOther (h : Cells w g cs t) (x : Addr) (u : Value) (hne : x.block ≠ g) : Cells (w.setCell x u) g cs t :=
  (Below.heap_setCell _ _ _ _ (fun e => hne e.symm)).trans h
end
theorem grownBy_setAt (W : World) (b j : Nat) (v : Value) : W.grownBy (W.setCell ⟨b, j, none⟩ v) (some b) :=
  ⟨rfl, rfl, rfl, by simp [World.setCell], fun k _ hk => Below.heap_setCell _ _ _ k (fun e => hk (by rw [e]))⟩

theorem grown_widen {w w' : World} {row : Option Nat} (h : w.grownBy w' none) : w.grownBy w' row := by
  obtain ⟨h1, h2, h3, h4, h5⟩ := h
  exact ⟨h1, h2, h3, h4, fun k hk _ => h5 k hk (by simp)⟩

/-- A slice that is read, by its three parts. -/
theorem _root_.Go.Tab.RowOf.shape {α : Type} {f : α → Value} {w : World} {v : Value} {l : List α} (h : RowOf f w v l) : ∃ a n cap, v = .slice a n cap ∧ n = l.length := by
  obtain ⟨a, cap, h1, _⟩ := h
  exact ⟨a, _, cap, h1, rfl⟩

/-- Unlike types lie in unlike blocks. -/
theorem own_ne_box {α : Type} {f : α → Value} {E : TypeId} {base : Nat} {w : World} {v : Value} {l : List α} {g : Nat} {cs : Array Value} {t : TypeId} (h : OwnOf f E base w v l) (hc : Cells w g cs t) (ht : t ≠ E) : v.ownBlock ≠ some g := by
  rcases h.2 with ⟨rfl, _⟩ | ⟨b, cap, cur, rfl, _, hg, _⟩
  · simp [Value.ownBlock]
  · intro he
    simp only [Value.ownBlock, Option.some.injEq] at he
    subst he
    have hc' : w.heap[b]? = some (.cells cs t (0, 0)) := hc
    rw [hg] at hc'
    simp only [Option.some.injEq, Obj.cells.injEq] at hc'
    exact ht hc'.2.1.symm

/-- Nothing but block g and a row of E's has turned. -/
def Beside (E : TypeId) (g : Nat) (w w' : World) : Prop :=
  w.heap.size ≤ w'.heap.size ∧ ∀ k o, k ≠ g → w.heap[k]? = some o → (∀ cs fr, o ≠ .cells cs E fr) → w'.heap[k]? = some o
theorem Beside.refl {E : TypeId} {g : Nat} {w : World} : Beside E g w w := ⟨Nat.le_refl _, fun _ _ _ h _ => h⟩
theorem Beside.trans {E : TypeId} {g : Nat} {w w' w'' : World} (h : Beside E g w w') (h2 : Beside E g w' w'') : Beside E g w w'' :=
  ⟨Nat.le_trans h.1 h2.1, fun k o hk ho hn => h2.2 k o hk (h.2 k o hk ho hn) hn⟩
theorem Beside.drew {E : TypeId} {g : Nat} {w w' : World} (h : Beside E g w w') : Beside E g w w'.drew := h
theorem Beside.alloc {E : TypeId} {g : Nat} {w w' : World} (h : Beside E g w w') (o : Obj) : Beside E g w (w'.alloc o) :=
  h.trans ⟨by simp, fun k o' _ ho _ => ((World.grownBy_alloc w' o none).block k (Array.getElem?_eq_some_iff.1 ho).1 (by simp)).trans ho⟩
theorem Beside.setCell {E : TypeId} {g : Nat} {w w' : World} (h : Beside E g w w') (j : Nat) (v : Value) : Beside E g w (w'.setCell ⟨g, j, none⟩ v) :=
  h.trans ⟨by simp [World.setCell], fun k o' hk ho _ => by rw [Below.heap_setCell _ _ _ _ hk]; exact ho⟩
theorem Beside.grown {E : TypeId} {g : Nat} {w w' w'' : World} {row : Option Nat} (h : Beside E g w w') (hg : w'.grownBy w'' row) (hr : ∀ k, row = some k → k = g ∨ ∃ cs fr, w'.heap[k]? = some (.cells cs E fr)) : Beside E g w w'' :=
  h.trans ⟨hg.size, fun k o hk ho hn => by
    refine (hg.block k (Array.getElem?_eq_some_iff.1 ho).1 ?_).trans ho
    intro e
    rcases hr k e.symm with rfl | ⟨cs, fr, hc⟩
    · exact hk rfl
    · rw [ho] at hc; cases hc; exact hn _ _ rfl⟩
theorem Beside.cells {E : TypeId} {g : Nat} {w w' : World} (h : Beside E g w w') {k : Nat} {cs : Array Value} {t : TypeId} (hc : Cells w k cs t) (hk : k ≠ g) (ht : t ≠ E) : Cells w' k cs t :=
  h.2 k _ hk hc (fun cs' fr e => by cases e; exact ht rfl)
theorem own_is_row {α : Type} {f : α → Value} {E : TypeId} {base : Nat} {w : World} {v : Value} {l : List α} (h : OwnOf f E base w v l) : ∀ k, v.ownBlock = some k → ∃ cs fr, w.heap[k]? = some (.cells cs E fr) := by
  intro k hk
  rcases h.2 with ⟨rfl, _⟩ | ⟨b, cap, cur, rfl, _, hg, _⟩
  · simp [Value.ownBlock] at hk
  · simp only [Value.ownBlock, Option.some.injEq] at hk
    subst hk
    exact ⟨_, _, hg⟩
end Go.Proofs.YthiggalnjjcejaaDoor
