/- Values that lie in blocks of a kind, and what they keep (layer 8). -/
import Derived.Test.YtpcfhiipkbpmkaaDoorTreB
namespace Go.Proofs.YtpcfhiipkbpmkaaDoor
open Go.RowKit Go.Tab

/-- A row of texts whose block is of a kind. -/
def KeysIn (P : Nat → Prop) (w : World) (v : Value) (l : List ByteArray) : Prop := RowOf Value.string w v l ∧ ∀ b, v.ownBlock = some b → l ≠ [] → P b ∧ ∀ off, w.frozen? ⟨b, off, none⟩ = false
mutual
def ValIn (P : Nat → Prop) (w : World) : Tree → List Value → Prop
  | .mk kind is neg digits exp str keys kids, cs => ∃ kv a cap, cs = [.int .i64 kind, .bool is, .bool neg, .string digits, .int .i64 exp, .string str, kv, .slice a kids.length cap] ∧ KeysIn P w kv keys ∧
      kids.length ≤ cap ∧ cap ≤ maxLen ∧ (a = none → cap = 0) ∧ ∀ x, a = some x → kids ≠ [] → x.spot = none ∧ (x.block < w.heap.size ∧ P x.block ∧ ∀ off, w.frozen? ⟨x.block, off, none⟩ = false) ∧ KidsIn P w x.block x.off kids
def KidsIn (P : Nat → Prop) (w : World) (b off : Nat) : List Tree → Prop
  | [] => True
  | t :: r => (∃ cs, (∀ j u, cs[j]? = some u → w.cell? ⟨b, off + j, none⟩ = some u) ∧ ValIn P w t cs) ∧ KidsIn P w b (off + 8) r
end

mutual
theorem ValIn.at {P : Nat → Prop} {w : World} : ∀ (t : Tree) (cs : List Value), ValIn P w t cs → ValAt w t cs
  | .mk kind is neg digits exp str keys kids, cs, h => by
    simp only [ValIn] at h
    simp only [ValAt]
    obtain ⟨kv, a, cap, h1, h2, h3, h4, h5, h6⟩ := h
    refine ⟨kv, a, cap, h1, h2.1, h3, h4, h5, fun x hx hne => ?_⟩
    obtain ⟨g1, g2, g3⟩ := h6 x hx hne
    exact ⟨g1, g2.1, KidsIn.at kids x.off g3⟩
theorem KidsIn.at {P : Nat → Prop} {w : World} {b : Nat} : ∀ (l : List Tree) (off : Nat), KidsIn P w b off l → KidsAt w b off l
  | [], _, _ => by simp only [KidsAt]
  | t :: r, off, h => by
    simp only [KidsIn] at h
    simp only [KidsAt]
    obtain ⟨⟨cs, h1, h2⟩, h3⟩ := h
    exact ⟨⟨cs, h1, ValIn.at t cs h2⟩, KidsIn.at r _ h3⟩
end
theorem cell_same {w w' : World} {b : Nat} (h : w'.heap[b]? = w.heap[b]?) (off : Nat) : w'.cell? ⟨b, off, none⟩ = w.cell? ⟨b, off, none⟩ := by
  simp only [World.cell?, h]
theorem frozen_same {w w' : World} {b : Nat} (h : w'.heap[b]? = w.heap[b]?) (off : Nat) : w'.frozen? ⟨b, off, none⟩ = w.frozen? ⟨b, off, none⟩ := by
  simp only [World.frozen?, h]
mutual
/-- What keeps the blocks of the kind keeps the value, and its kind may be widened. -/
theorem ValIn.move {P Q : Nat → Prop} {w w' : World} (hs : w.heap.size ≤ w'.heap.size) (hb : ∀ k, P k → k < w.heap.size → w'.heap[k]? = w.heap[k]?) (hq : ∀ k, P k → k < w.heap.size → Q k) :
    ∀ (t : Tree) (cs : List Value), ValIn P w t cs → ValIn Q w' t cs
  | .mk kind is neg digits exp str keys kids, cs, h => by
    simp only [ValIn] at h ⊢
    obtain ⟨kv, a, cap, h1, h2, h3, h4, h5, h6⟩ := h
    refine ⟨kv, a, cap, h1, ?_, h3, h4, h5, fun x hx hne => ?_⟩
    · obtain ⟨g1, g2⟩ := h2
      by_cases hk : keys = []
      · subst hk
        refine ⟨?_, fun b _ hne => absurd rfl hne⟩
        obtain ⟨xa, xc, rfl, e2, e3, e4⟩ := g1.len
        exact RowOf.empty e3 e4
      · refine ⟨g1.moved hs (fun b off hlt hown => cell_same (hb b (g2 b hown hk).1 hlt) off), fun b hown hne => ⟨hq b (g2 b hown hne).1 (g1.block_lt hne b hown), fun off => (frozen_same (hb b (g2 b hown hk).1 (g1.block_lt hne b hown)) off).trans ((g2 b hown hk).2 off)⟩⟩
    · obtain ⟨g1, g2, g3⟩ := h6 x hx hne
      exact ⟨g1, ⟨Nat.lt_of_lt_of_le g2.1 hs, hq _ g2.2.1 g2.1, fun off => (frozen_same (hb _ g2.2.1 g2.1) off).trans (g2.2.2 off)⟩, KidsIn.move hs hb hq ⟨g2.1, g2.2.1⟩ kids x.off g3⟩
theorem KidsIn.move {P Q : Nat → Prop} {w w' : World} (hs : w.heap.size ≤ w'.heap.size) (hb : ∀ k, P k → k < w.heap.size → w'.heap[k]? = w.heap[k]?) (hq : ∀ k, P k → k < w.heap.size → Q k) {b : Nat} (hP : b < w.heap.size ∧ P b) :
    ∀ (l : List Tree) (off : Nat), KidsIn P w b off l → KidsIn Q w' b off l
  | [], _, _ => by simp only [KidsIn]
  | t :: r, off, h => by
    simp only [KidsIn] at h ⊢
    obtain ⟨⟨cs, h1, h2⟩, h3⟩ := h
    exact ⟨⟨cs, fun j u hu => (cell_same (hb b hP.2 hP.1) _).trans (h1 j u hu), ValIn.move hs hb hq t cs h2⟩, KidsIn.move hs hb hq hP r _ h3⟩
end
/-- The kids of a block that is being filled, from their cells one by one. -/
theorem KidsIn.make {P : Nat → Prop} {w : World} {b : Nat} : ∀ (l : List Tree) (off : Nat), (∀ k (h : k < l.length), ∃ cs, (∀ j u, cs[j]? = some u → w.cell? ⟨b, off + k * 8 + j, none⟩ = some u) ∧ ValIn P w l[k] cs) → KidsIn P w b off l
  | [], _, _ => by simp only [KidsIn]
  | t :: r, off, h => by
    simp only [KidsIn]
    constructor
    · obtain ⟨cs, h1, h2⟩ := h 0 (by simp)
      exact ⟨cs, fun j u hu => by have := h1 j u hu; simpa using this, by simpa using h2⟩
    · refine KidsIn.make r (off + 8) (fun k hk => ?_)
      obtain ⟨cs, h1, h2⟩ := h (k + 1) (by simp; omega)
      refine ⟨cs, fun j u hu => ?_, by simpa using h2⟩
      rw [← h1 j u hu]
      congr 2
      omega
theorem ValIn.below {P : Nat → Prop} {w w' : World} (hb : Below w.heap.size w w') (t : Tree) (cs : List Value) (h : ValIn P w t cs) : ValIn P w' t cs :=
  ValIn.move hb.size (fun k _ hk => hb.block k hk) (fun _ h _ => h) t cs h
end Go.Proofs.YtpcfhiipkbpmkaaDoor
