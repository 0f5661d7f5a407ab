/- A row of kids that the call makes, each in memory of its own (layer 8). -/
import Derived.Test.YtpcfhiipkbpmkaaDoorTsS
import Derived.Test.YtpcfhiipkbpmkaaDoorTsP
import Derived.Deep.AppendLies
namespace Go.Proofs.YtpcfhiipkbpmkaaDoor
open Go.RowKit Go.Tab

/-- The kids' own row: each value lies in blocks from base on that are neither this row's nor the keys'. -/
def KidRow (base : Nat) (w : World) (v kv : Value) (ts : List Tree) : Prop :=
  ∃ L : List (Tree × List Value), L.map (·.1) = ts ∧ (∀ s ∈ L, ValIn (fun k => base ≤ k ∧ some k ≠ v.ownBlock ∧ some k ≠ kv.ownBlock) w s.1 s.2) ∧ w.ownsRow base 27 8 v L.length (L.flatMap (·.2))
theorem own_keeps {w w' : World} {base : Nat} {e : TypeId} {size : Nat} {v : Value} {n : Nat} {xs : List Value} (h : w.ownsRow base e size v n xs) (hb : ∀ g, v.ownBlock = some g → w'.heap[g]? = w.heap[g]?) : w'.ownsRow base e size v n xs := by
  obtain ⟨h1, h2⟩ := h
  refine ⟨h1, ?_⟩
  rcases h2 with h2 | ⟨g, cap, cur, hv, hg, hh, r⟩
  · exact .inl h2
  · exact .inr ⟨g, cap, cur, hv, hg, by rw [hb g (by rw [hv]; rfl)]; exact hh, r⟩
theorem KidRow.nil (base : Nat) (w : World) (kv : Value) : KidRow base w (.slice none 0 0) kv [] := ⟨[], rfl, by simp, World.ownsRow_nil _ _ _ _⟩
theorem KidRow.keep {base : Nat} {w w' : World} {v kv : Value} {ts : List Tree} (h : KidRow base w v kv ts) (hs : w.heap.size ≤ w'.heap.size) (hb : ∀ k, base ≤ k → some k ≠ kv.ownBlock → k < w.heap.size → w'.heap[k]? = w.heap[k]?) (hn : v.ownBlock = none ∨ v.ownBlock ≠ kv.ownBlock) : KidRow base w' v kv ts := by
  obtain ⟨L, h1, h2, h3⟩ := h
  refine ⟨L, h1, fun s hs' => ValIn.move hs (fun k hk hlt => hb k hk.1 hk.2.2 hlt) (fun _ h _ => h) _ _ (h2 s hs'), own_keeps h3 (fun g hg => ?_)⟩
  have hl := World.ownsRow.lt h3 g hg
  refine hb g hl.1 (fun e => ?_) hl.2
  rcases hn with hn | hn
  · rw [hn] at hg; cases hg
  · exact hn (hg.trans e)
theorem KidRow.below {base : Nat} {w w' : World} {v kv : Value} {ts : List Tree} (h : KidRow base w v kv ts) (hb : Below w.heap.size w w') : KidRow base w' v kv ts := by
  obtain ⟨L, h1, h2, h3⟩ := h
  exact ⟨L, h1, fun s hs' => ValIn.below hb _ _ (h2 s hs'), own_keeps h3 (fun g hg => hb.block g (World.ownsRow.lt h3 g hg).2)⟩
theorem KidRow.set {base : Nat} {w : World} {v kv : Value} {ts : List Tree} (h : KidRow base w v kv ts) {b : Nat} (hb : b < base) (j : Nat) (u : Value) : KidRow base (w.setCell ⟨b, j, none⟩ u) v kv ts := by
  obtain ⟨L, h1, h2, h3⟩ := h
  refine ⟨L, h1, fun s hs' => ValIn.move (by rw [World.size_setCell]; exact Nat.le_refl _) (fun k hk _ => Below.heap_setCell _ _ _ _ (by show k ≠ b; have := hk.1; omega)) (fun _ h _ => h) _ _ (h2 s hs'), own_keeps h3 (fun g hg => Below.heap_setCell _ _ _ _ (by show g ≠ b; have := (World.ownsRow.lt h3 g hg).1; omega))⟩
/-- The keys' row is appended to. -/
theorem KidRow.keys {base : Nat} {w w' : World} {v kv kv' : Value} {ts : List Tree} {g : Nat} (h : KidRow base w v kv ts) (hg : w.grownBy w' kv.ownBlock) (hk : kv'.ownBlock = some g) (ha : kv.ownBlock = some g ∨ g = w.heap.size) (hn : v.ownBlock = none ∨ v.ownBlock ≠ kv.ownBlock) : KidRow base w' v kv' ts := by
  obtain ⟨L, h1, h2, h3⟩ := h
  refine ⟨L, h1, fun s hs' => ValIn.move hg.size (fun k hk' hlt => hg.block k hlt hk'.2.2) (fun k hk' hlt => ⟨hk'.1, hk'.2.1, fun e => ?_⟩) _ _ (h2 s hs'), own_keeps h3 (fun g' hg' => hg.block g' (World.ownsRow.lt h3 g' hg').2 (fun e => ?_))⟩
  · rcases hn with hn | hn
    · rw [hn] at hg'; cases hg'
    · exact hn (hg'.trans e)
  · rw [hk] at e
    rcases ha with ha | ha
    · exact hk'.2.2 (e.trans ha.symm)
    · injection e with e; omega
/-- A kid is appended. -/
theorem KidRow.push {base : Nat} {w w' : World} {v kv : Value} {L : List (Tree × List Value)} {g cap : Nat} {t : Tree} {cs : List Value}
    (h2 : ∀ s ∈ L, ValIn (fun k => base ≤ k ∧ some k ≠ v.ownBlock ∧ some k ≠ kv.ownBlock) w s.1 s.2) (hv : ValIn (fun k => base ≤ k ∧ some k ≠ v.ownBlock ∧ some k ≠ kv.ownBlock) w t cs)
    (hg : w.grownBy w' v.ownBlock) (ha : v.ownBlock = some g ∨ g = w.heap.size) (hown : w'.ownsRow base 27 8 (.slice (some ⟨g, 0, none⟩) (L.length + 1) cap) (L.length + 1) (L.flatMap (·.2) ++ cs)) :
    KidRow base w' (.slice (some ⟨g, 0, none⟩) (L.length + 1) cap) kv (L.map (·.1) ++ [t]) := by
  have hm : ∀ (t : Tree) (cs : List Value), ValIn (fun k => base ≤ k ∧ some k ≠ v.ownBlock ∧ some k ≠ kv.ownBlock) w t cs → ValIn (fun k => base ≤ k ∧ some k ≠ (Value.slice (some ⟨g, 0, none⟩) (L.length + 1) cap).ownBlock ∧ some k ≠ kv.ownBlock) w' t cs := fun t cs h =>
    ValIn.move hg.size (fun k hk hlt => hg.block k hlt hk.2.1) (fun k hk hlt => ⟨hk.1, fun e => by
      simp only [Value.ownBlock] at e
      rcases ha with ha | ha
      · exact hk.2.1 (e.trans ha.symm)
      · injection e with e; omega, hk.2.2⟩) _ _ h
  refine ⟨L ++ [(t, cs)], by simp, fun s hs => ?_, by simpa using hown⟩
  rcases List.mem_append.1 hs with hs | hs
  · exact hm _ _ (h2 s hs)
  · simp at hs; subst hs; exact hm _ _ hv
theorem flat8_get : ∀ (L : List (Tree × List Value)) (_ : ∀ s ∈ L, s.2.length = 8) (k : Nat) (hk : k < L.length) (j : Nat) (_ : j < 8), (L.flatMap (·.2))[k * 8 + j]? = L[k].2[j]?
  | s :: r, h8, 0, _, j, hj => by
    have h := h8 s (by simp)
    simp only [List.flatMap_cons, Nat.zero_mul, Nat.zero_add, List.getElem_cons_zero]
    rw [List.getElem?_append_left (by omega)]
  | s :: r, h8, k + 1, hk, j, hj => by
    have h := h8 s (by simp)
    have ih := flat8_get r (fun x hx => h8 x (by simp [hx])) k (by simpa using hk) j hj
    simp only [List.flatMap_cons, List.getElem_cons_succ] at ih ⊢
    rw [List.getElem?_append_right (by omega), ← ih]
    congr 1
    omega
theorem KidRow.cells {base : Nat} {w : World} {v kv : Value} {ts : List Tree} (h : KidRow base w v kv ts) : ∃ a cap, v = .slice a ts.length cap ∧ ts.length ≤ cap ∧ cap ≤ maxLen ∧ (a = none → cap = 0) ∧ ∀ x, a = some x → ts ≠ [] → x.spot = none ∧ (x.block < w.heap.size ∧ base ≤ x.block ∧ ∀ o, w.frozen? ⟨x.block, o, none⟩ = false) ∧ KidsIn (fun k => base ≤ k) w x.block x.off ts := by
  obtain ⟨L, h1, h2, h3⟩ := h
  have hl : ts.length = L.length := by rw [← h1, List.length_map]
  rcases h3.2 with ⟨rfl, h0⟩ | ⟨g, cap, cur, rfl, hb, hg, hc1, hc2, hcs, htk⟩
  · exact ⟨none, 0, by rw [hl, h0], by omega, by decide, fun _ => rfl, fun x hx => (by cases hx)⟩
  · refine ⟨_, cap, by rw [hl], by omega, hc2, fun hx => (by cases hx), fun x hx hne => ?_⟩
    cases hx
    refine ⟨rfl, ⟨(Array.getElem?_eq_some_iff.1 hg).1, hb, fun o => frozen_of_row w g o cur _ hg⟩, KidsIn.make ts 0 (fun k hk => ?_)⟩
    have hkL : k < L.length := by omega
    have h8 : ∀ s ∈ L, s.2.length = 8 := fun s hs => ValIn.len8 (h2 s hs)
    have he : ts[k] = L[k].1 := by subst h1; simp
    refine ⟨L[k].2, fun j u hu => ?_, ?_⟩
    · have hj : j < 8 := by have := (List.getElem?_eq_some_iff.1 hu).1; have := h8 _ (List.getElem_mem hkL); omega
      have hc := World.ownsRow.cells h3 (g := g) rfl (k * 8 + j) u (by rw [flat8_get L h8 k hkL j hj]; exact hu)
      rw [Addr.add_lit, ← Nat.add_assoc] at hc
      exact hc
    · rw [he]
      exact ValIn.move (Nat.le_refl _) (fun _ _ _ => rfl) (fun x hx _ => hx.1) _ _ (h2 _ (List.getElem_mem hkL))
end Go.Proofs.YtpcfhiipkbpmkaaDoor
