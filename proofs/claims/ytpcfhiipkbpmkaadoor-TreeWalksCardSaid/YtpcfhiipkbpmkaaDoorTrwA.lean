/- What a value keeps while a loop goes round: blocks of cells lie as they lay, but for two boxes (layer 8). -/
import Derived.Test.YtpcfhiipkbpmkaaDoorTreJ
import Derived.Test.YtpcfhiipkbpmkaaDoorTreU
namespace Go.Proofs.YtpcfhiipkbpmkaaDoor
open Go.RowKit Go.Tab Go.Shelf

/-- All blocks of cells but two lie as they lay. -/
def KpW (b1 b2 : Nat) (A B : World) : Prop := A.heap.size ≤ B.heap.size ∧ ∀ k o, k ≠ b1 → k ≠ b2 → A.heap[k]? = some o → o.isCells = true → B.heap[k]? = some o
theorem KpW.refl (b1 b2 : Nat) (A : World) : KpW b1 b2 A A := ⟨Nat.le_refl _, fun _ _ _ _ h _ => h⟩
theorem KpW.trans {b1 b2 : Nat} {A B C : World} (h : KpW b1 b2 A B) (h2 : KpW b1 b2 B C) : KpW b1 b2 A C := ⟨Nat.le_trans h.1 h2.1, fun k o n1 n2 ho hc => h2.2 k o n1 n2 (h.2 k o n1 n2 ho hc) hc⟩
theorem KpW.below {b1 b2 : Nat} {A B : World} (h : Below A.heap.size A B) : KpW b1 b2 A B := ⟨h.size, fun k o _ _ ho _ => (h.block k (Array.getElem?_eq_some_iff.1 ho).1).trans ho⟩
theorem KpW.put {b1 b2 : Nat} {A : World} {l : Nat} {o o' : Obj} (ho : A.heap[l]? = some o) (hc : o.isCells = false) : KpW b1 b2 A (A.putObj l o') :=
  ⟨(grownBy_putObj' A l o').size, fun k q _ _ hq hqc => by
    by_cases hk : k = l
    · subst hk; rw [ho] at hq; cases hq; rw [hc] at hqc; cases hqc
    · exact (World.putObj_heap_other hk).trans hq⟩
theorem cell_isCells {w : World} {b off : Nat} {u : Value} (h : w.cell? ⟨b, off, none⟩ = some u) : ∃ o, w.heap[b]? = some o ∧ o.isCells = true := by
  unfold World.cell? at h
  cases ho : w.heap[b]? with
  | none => simp [ho] at h
  | some o =>
    refine ⟨o, rfl, ?_⟩
    cases o <;> simp [ho] at h ⊢
    rfl
theorem KpW.block {b1 b2 : Nat} {A B : World} (h : KpW b1 b2 A B) {b off : Nat} {u : Value} (n1 : b ≠ b1) (n2 : b ≠ b2) (hc : A.cell? ⟨b, off, none⟩ = some u) : B.heap[b]? = A.heap[b]? := by
  obtain ⟨o, ho, hoc⟩ := cell_isCells hc
  rw [ho]; exact h.2 b o n1 n2 ho hoc
theorem KpW.cells {b1 b2 : Nat} {A B : World} (h : KpW b1 b2 A B) {g : Nat} {cs : Array Value} {T : TypeId} (hc : Cells A g cs T) (n1 : g ≠ b1) (n2 : g ≠ b2) : Cells B g cs T := h.2 g _ n1 n2 hc rfl
mutual
theorem ValIn.kp {P : Nat → Prop} {b1 b2 : Nat} {w w' : World} (h : KpW b1 b2 w w') (hP : ∀ k, P k → k ≠ b1 ∧ k ≠ b2) : ∀ (t : Tree) (cs : List Value), ValIn P w t cs → ValIn P w' t cs
  | .mk kind is neg digits exp str keys kids, cs, hv => by
    simp only [ValIn] at hv ⊢
    obtain ⟨kv, a, cap, h1, ⟨hr, hkf⟩, h3, h4, h5, h6⟩ := hv
    refine ⟨kv, a, cap, h1, ?_, h3, h4, h5, fun x hx hne => ?_⟩
    · by_cases hk : keys = []
      · subst hk
        obtain ⟨xa, xc, rfl, e2, e3, e4⟩ := hr.len
        exact ⟨RowOf.empty e3 e4, fun b _ hne => absurd rfl hne⟩
      · obtain ⟨xa, xc, rfl, e1, e2, e3, e4⟩ := hr
        cases xa with
        | none =>
          have := e3 rfl
          exact absurd (List.eq_nil_of_length_eq_zero (by omega)) hk
        | some x =>
          obtain ⟨g1, g2, g3⟩ := e4 x rfl hk
          obtain ⟨q1, q2⟩ := hkf x.block rfl hk
          have hb := h.block (hP _ q1).1 (hP _ q1).2 (g3 0 (List.length_pos_iff.2 hk))
          exact ⟨⟨some x, xc, rfl, e1, e2, e3, fun y hy _ => by cases hy; exact ⟨g1, Nat.lt_of_lt_of_le g2 h.1, fun j hj => (cell_same hb _).trans (g3 j hj)⟩⟩,
            fun b hb' _ => by
              simp only [Value.ownBlock, Option.some.injEq] at hb'
              subst hb'
              exact ⟨q1, fun off => (frozen_same hb off).trans (q2 off)⟩⟩
    · obtain ⟨g1, g2, g3⟩ := h6 x hx hne
      have hb : w'.heap[x.block]? = w.heap[x.block]? := by
        cases kids with
        | nil => exact absurd rfl hne
        | cons t r =>
          simp only [KidsIn] at g3
          obtain ⟨⟨kcs, k1, k2⟩, -⟩ := g3
          obtain ⟨c0, hc0⟩ : ∃ u, kcs[0]? = some u := by
            cases t
            simp only [ValIn] at k2
            obtain ⟨_, _, _, rfl, -⟩ := k2
            exact ⟨_, rfl⟩
          exact h.block (hP _ g2.2.1).1 (hP _ g2.2.1).2 (k1 0 c0 hc0)
      exact ⟨g1, ⟨Nat.lt_of_lt_of_le g2.1 h.1, g2.2.1, fun off => (frozen_same hb off).trans (g2.2.2 off)⟩, KidsIn.kp h hP hb kids x.off g3⟩
theorem KidsIn.kp {P : Nat → Prop} {b1 b2 : Nat} {w w' : World} (h : KpW b1 b2 w w') (hP : ∀ k, P k → k ≠ b1 ∧ k ≠ b2) {b : Nat} (hb : w'.heap[b]? = w.heap[b]?) : ∀ (l : List Tree) (off : Nat), KidsIn P w b off l → KidsIn P w' b off l
  | [], _, _ => by simp only [KidsIn]
  | t :: r, off, hk => by
    simp only [KidsIn] at hk ⊢
    obtain ⟨⟨cs, h1, h2⟩, h3⟩ := hk
    exact ⟨⟨cs, fun j u hu => (cell_same hb _).trans (h1 j u hu), ValIn.kp h hP t cs h2⟩, KidsIn.kp h hP hb r _ h3⟩
end
end Go.Proofs.YtpcfhiipkbpmkaaDoor
