/- Values whose parts lie apart: each kid's blocks between bounds of its own (layer 8). -/
import Derived.Test.YtpcfhiipkbpmkaaDoorTreM
import Derived.Test.YtpcfhiipkbpmkaaDoorTreX
namespace Go.Proofs.YtpcfhiipkbpmkaaDoor
open Go.RowKit Go.Tab

/-- The blocks between two bounds. -/
def Btw (lo hi : Nat) (k : Nat) : Prop := lo ≤ k ∧ k < hi
mutual
/-- As ValIn; all that the value has lies between two bounds, its own rows ahead of its kids, and each kid behind the ones ahead of it. -/
def ValSep (w : World) : Tree → List Value → Nat → Nat → Prop
  | .mk kind is neg digits exp str keys kids, cs, lo, hi => ∃ kv a cap m, cs = [.int .i64 kind, .bool is, .bool neg, .string digits, .int .i64 exp, .string str, kv, .slice a kids.length cap] ∧ KeysIn (Btw lo m) w kv keys ∧ lo ≤ m ∧ m ≤ hi ∧
      kids.length ≤ cap ∧ cap ≤ maxLen ∧ (a = none → cap = 0) ∧ ∀ x, a = some x → kids ≠ [] → x.spot = none ∧ (x.block < w.heap.size ∧ Btw lo m x.block ∧ ∀ off, w.frozen? ⟨x.block, off, none⟩ = false) ∧ kv.ownBlock ≠ some x.block ∧ KidsSep w x.block x.off kids m hi
def KidsSep (w : World) (b off : Nat) : List Tree → Nat → Nat → Prop
  | [], lo, hi => lo ≤ hi
  | t :: r, lo, hi => ∃ mid, lo ≤ mid ∧ mid ≤ hi ∧ (∃ cs, (∀ j u, cs[j]? = some u → w.cell? ⟨b, off + j, none⟩ = some u) ∧ ValSep w t cs lo mid) ∧ KidsSep w b (off + 8) r mid hi
end
theorem KeysIn.wide {P Q : Nat → Prop} (hq : ∀ k, P k → Q k) {w : World} {v : Value} {l : List ByteArray} (h : KeysIn P w v l) : KeysIn Q w v l :=
  ⟨h.1, fun b hb hne => ⟨hq b (h.2 b hb hne).1, (h.2 b hb hne).2⟩⟩
theorem KeysIn.move {P : Nat → Prop} {w w' : World} (hs : w.heap.size ≤ w'.heap.size) (hb : ∀ k, P k → k < w.heap.size → w'.heap[k]? = w.heap[k]?) {v : Value} {l : List ByteArray} (h : KeysIn P w v l) : KeysIn P w' v l := by
  obtain ⟨g1, g2⟩ := h
  by_cases hk : l = []
  · subst hk
    refine ⟨?_, fun b _ hne => absurd rfl hne⟩
    obtain ⟨xa, xc, rfl, e2, e3, e4⟩ := g1.len
    exact RowOf.empty e3 e4
  · exact ⟨g1.moved hs (fun b off hlt hown => cell_same (hb b (g2 b hown hk).1 hlt) off), fun b hown hne => ⟨(g2 b hown hne).1, fun off => (frozen_same (hb b (g2 b hown hk).1 (g1.block_lt hne b hown)) off).trans ((g2 b hown hk).2 off)⟩⟩
mutual
theorem ValSep.in {w : World} : ∀ (t : Tree) (cs : List Value) (lo hi : Nat), ValSep w t cs lo hi → ValIn (Btw lo hi) w t cs
  | .mk kind is neg digits exp str keys kids, cs, lo, hi, h => by
    simp only [ValSep] at h
    simp only [ValIn]
    obtain ⟨kv, a, cap, m, h1, h2, h3, h4, h5, h6, h7, h8⟩ := h
    refine ⟨kv, a, cap, h1, h2.wide (fun k hk => ⟨hk.1, by have := hk.2; omega⟩), h5, h6, h7, fun x hx hne => ?_⟩
    obtain ⟨g1, g2, g3, g4⟩ := h8 x hx hne
    exact ⟨g1, ⟨g2.1, ⟨g2.2.1.1, by have := g2.2.1.2; omega⟩, g2.2.2⟩, KidsSep.in kids x.off lo m hi h3 g4⟩
theorem KidsSep.in {w : World} {b : Nat} : ∀ (l : List Tree) (off lo0 lo hi : Nat), lo0 ≤ lo → KidsSep w b off l lo hi → KidsIn (Btw lo0 hi) w b off l
  | [], _, _, _, _, _, _ => by simp only [KidsIn]
  | t :: r, off, lo0, lo, hi, hl, h => by
    simp only [KidsSep] at h
    simp only [KidsIn]
    obtain ⟨mid, h1, h2, ⟨cs, h3, h4⟩, h5⟩ := h
    refine ⟨⟨cs, h3, ?_⟩, KidsSep.in r _ lo0 mid hi (by omega) h5⟩
    exact ValIn.move (Nat.le_refl _) (fun _ _ _ => rfl) (fun k hk _ => ⟨by have := hk.1; omega, by have := hk.2; omega⟩) _ _ (ValSep.in t cs lo mid h4)
end
mutual
theorem ValSep.move {w w' : World} (hs : w.heap.size ≤ w'.heap.size) : ∀ (t : Tree) (cs : List Value) (lo hi : Nat), (∀ k, Btw lo hi k → k < w.heap.size → w'.heap[k]? = w.heap[k]?) → ValSep w t cs lo hi → ValSep w' t cs lo hi
  | .mk kind is neg digits exp str keys kids, cs, lo, hi, hb, h => by
    simp only [ValSep] at h ⊢
    obtain ⟨kv, a, cap, m, h1, h2, h3, h4, h5, h6, h7, h8⟩ := h
    refine ⟨kv, a, cap, m, h1, h2.move hs (fun k hk => hb k ⟨hk.1, by have := hk.2; omega⟩), h3, h4, h5, h6, h7, fun x hx hne => ?_⟩
    obtain ⟨g1, g2, g3, g4⟩ := h8 x hx hne
    have hbx := hb x.block ⟨g2.2.1.1, by have := g2.2.1.2; omega⟩ g2.1
    exact ⟨g1, ⟨Nat.lt_of_lt_of_le g2.1 hs, g2.2.1, fun off => (frozen_same hbx off).trans (g2.2.2 off)⟩, g3, KidsSep.move hs hbx kids x.off m hi (fun k hk => hb k ⟨by have := hk.1; omega, hk.2⟩) g4⟩
theorem KidsSep.move {w w' : World} (hs : w.heap.size ≤ w'.heap.size) {b : Nat} (hbb : w'.heap[b]? = w.heap[b]?) : ∀ (l : List Tree) (off lo hi : Nat), (∀ k, Btw lo hi k → k < w.heap.size → w'.heap[k]? = w.heap[k]?) → KidsSep w b off l lo hi → KidsSep w' b off l lo hi
  | [], _, _, _, _, h => by simpa only [KidsSep] using h
  | t :: r, off, lo, hi, hb, h => by
    simp only [KidsSep] at h ⊢
    obtain ⟨mid, h1, h2, ⟨cs, h3, h4⟩, h5⟩ := h
    exact ⟨mid, h1, h2, ⟨cs, fun j u hu => (cell_same hbb _).trans (h3 j u hu), ValSep.move hs t cs lo mid (fun k hk => hb k ⟨hk.1, by have := hk.2; omega⟩) h4⟩, KidsSep.move hs hbb r _ mid hi (fun k hk => hb k ⟨by have := hk.1; omega, hk.2⟩) h5⟩
end
theorem ValSep.below {w w' : World} (hb : Below w.heap.size w w') {t : Tree} {cs : List Value} {lo hi : Nat} (h : ValSep w t cs lo hi) : ValSep w' t cs lo hi :=
  ValSep.move hb.size t cs lo hi (fun k _ hk => hb.block k hk) h
/-- The bounds may be widened. -/
theorem ValSep.wide {w : World} {t : Tree} {cs : List Value} {lo hi lo' : Nat} (hl : lo' ≤ lo) (h : ValSep w t cs lo hi) : ValSep w t cs lo' hi := by
  cases t
  simp only [ValSep] at h ⊢
  obtain ⟨kv, a, cap, m, h1, h2, h3, h4, h5, h6, h7, h8⟩ := h
  refine ⟨kv, a, cap, m, h1, h2.wide (fun k hk => ⟨by have := hk.1; omega, hk.2⟩), by omega, h4, h5, h6, h7, fun x hx hne => ?_⟩
  obtain ⟨g1, g2, g3, g4⟩ := h8 x hx hne
  exact ⟨g1, ⟨g2.1, ⟨by have := g2.2.1.1; omega, g2.2.1.2⟩, g2.2.2⟩, g3, g4⟩
/-- Each kid, its cells and its bounds. -/
theorem KidsSep.get {w : World} {b : Nat} : ∀ (l : List Tree) (off lo hi : Nat), KidsSep w b off l lo hi → ∃ (bd : Nat → Nat) (C : Nat → List Value), bd 0 = lo ∧ (∀ j, bd j ≤ bd (j + 1)) ∧ (∀ j, bd j ≤ hi) ∧
    ∀ j (h : j < l.length), (∀ i u, (C j)[i]? = some u → w.cell? ⟨b, off + j * 8 + i, none⟩ = some u) ∧ ValSep w l[j] (C j) (bd j) (bd (j + 1))
  | [], _, lo, hi, h => by
    simp only [KidsSep] at h
    exact ⟨fun _ => lo, fun _ => [], rfl, fun _ => Nat.le_refl _, fun _ => h, fun j h => by simp at h⟩
  | t :: r, off, lo, hi, h => by
    simp only [KidsSep] at h
    obtain ⟨mid, h1, h2, ⟨cs, h3, h4⟩, h5⟩ := h
    obtain ⟨bd, C, g1, g2, g3, g4⟩ := KidsSep.get r (off + 8) mid hi h5
    refine ⟨fun j => match j with | 0 => lo | j + 1 => bd j, fun j => match j with | 0 => cs | j + 1 => C j, rfl, fun j => ?_, fun j => ?_, fun j hj => ?_⟩
    · cases j with
      | zero => show lo ≤ bd 0; omega
      | succ j => exact g2 j
    · cases j with
      | zero => show lo ≤ hi; omega
      | succ j => exact g3 j
    · cases j with
      | zero => exact ⟨fun i u hu => by have := h3 i u hu; simpa using this, by show ValSep w t cs lo (bd 0); rw [g1]; exact h4⟩
      | succ j =>
        obtain ⟨q1, q2⟩ := g4 j (by simpa using hj)
        refine ⟨fun i u hu => ?_, q2⟩
        rw [← q1 i u hu]
        congr 2
        omega
theorem KidsSep.make {w : World} {b : Nat} : ∀ (l : List Tree) (off hi : Nat) (bd : Nat → Nat), (∀ j, bd j ≤ bd (j + 1)) → (∀ j, j ≤ l.length → bd j ≤ hi) →
    (∀ j (h : j < l.length), ∃ cs, (∀ i u, cs[i]? = some u → w.cell? ⟨b, off + j * 8 + i, none⟩ = some u) ∧ ValSep w l[j] cs (bd j) (bd (j + 1))) → KidsSep w b off l (bd 0) hi
  | [], _, _, bd, _, hh, _ => by simp only [KidsSep]; exact hh 0 (Nat.le_refl _)
  | t :: r, off, hi, bd, hm, hh, hk => by
    simp only [KidsSep]
    refine ⟨bd 1, hm 0, hh 1 (by simp), ?_, ?_⟩
    · obtain ⟨cs, h1, h2⟩ := hk 0 (by simp)
      exact ⟨cs, fun j u hu => by have := h1 j u hu; simpa using this, by simpa using h2⟩
    · refine KidsSep.make r (off + 8) hi (fun j => bd (j + 1)) (fun j => hm (j + 1)) (fun j hj => hh (j + 1) (by simp; omega)) (fun j hj => ?_)
      obtain ⟨cs, h1, h2⟩ := hk (j + 1) (by simp; omega)
      refine ⟨cs, fun i u hu => ?_, by simpa using h2⟩
      rw [← h1 i u hu]
      congr 2
      omega

/-- Only blocks of a kind are written. -/
structure Changed (P : Nat → Prop) (w w' : World) : Prop where
  os : w'.os = w.os
  tape : w'.tape = w.tape
  output : w'.output = w.output
  size : w.heap.size ≤ w'.heap.size
  block : ∀ k, k < w.heap.size → ¬ P k → w'.heap[k]? = w.heap[k]?
theorem Changed.refl (P : Nat → Prop) (w : World) : Changed P w w := ⟨rfl, rfl, rfl, Nat.le_refl _, fun _ _ _ => rfl⟩
theorem Changed.trans {P : Nat → Prop} {w w1 w2 : World} (h : Changed P w w1) (h2 : Changed P w1 w2) : Changed P w w2 :=
  ⟨h2.os.trans h.os, h2.tape.trans h.tape, h2.output.trans h.output, Nat.le_trans h.size h2.size, fun k hk hp => (h2.block k (Nat.lt_of_lt_of_le hk h.size) hp).trans (h.block k hk hp)⟩
theorem Changed.mono {P Q : Nat → Prop} {w w1 : World} (hq : ∀ k, P k → Q k) (h : Changed P w w1) : Changed Q w w1 :=
  ⟨h.os, h.tape, h.output, h.size, fun k hk hp => h.block k hk (fun h => hp (hq k h))⟩
theorem Changed.of_below {P : Nat → Prop} {w w1 : World} (h : Below w.heap.size w w1) : Changed P w w1 := ⟨h.os, h.tape, h.output, h.size, fun k hk _ => h.block k hk⟩
theorem Changed.below {P : Nat → Prop} {B : Nat} {w w1 : World} (h : Changed P w w1) (hP : ∀ k, P k → B ≤ k) (hB : B ≤ w.heap.size) : Below B w w1 :=
  ⟨h.os, h.tape, h.output, h.size, fun k hk => h.block k (Nat.lt_of_lt_of_le hk hB) (fun hp => by have := hP k hp; omega)⟩
theorem Changed.setCell {P : Nat → Prop} {w w1 : World} (h : Changed P w w1) {a : Addr} (hP : P a.block ∨ w.heap.size ≤ a.block) (v : Value) : Changed P w (w1.setCell a v) :=
  ⟨h.os, h.tape, h.output, by rw [World.size_setCell]; exact h.size, fun k hk hp => (Below.heap_setCell _ _ _ _ (fun e => by subst e; rcases hP with hP | hP; exact hp hP; omega)).trans (h.block k hk hp)⟩
theorem Changed.alloc {P : Nat → Prop} {w w1 : World} (h : Changed P w w1) (o : Obj) : Changed P w (w1.alloc o) :=
  h.trans (Changed.of_below ((Below.refl _ w1).alloc (Nat.le_refl _) o))
theorem Changed.cells {P : Nat → Prop} {w w1 : World} (h : Changed P w w1) {g : Nat} {cs : Array Value} {T : TypeId} (hc : Cells w g cs T) (hg : ¬ P g) : Cells w1 g cs T := (h.block g hc.lt hg).trans hc
end Go.Proofs.YtpcfhiipkbpmkaaDoor
