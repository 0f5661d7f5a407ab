/- Writing over the texts of a value: what stays (layer 8). -/
import Derived.Test.YtpcfhiipkbpmkaaDoorTreM
namespace Go.Proofs.YtpcfhiipkbpmkaaDoor
open Go.RowKit Go.Tab

/-- The same, or a text that has grown by m bytes at most. -/
def Like (m : Nat) (u u' : Value) : Prop := u' = u ∨ ∃ s s' : ByteArray, u = .string s ∧ u' = .string s' ∧ s'.size ≤ s.size + m
theorem Like.refl (m : Nat) (u : Value) : Like m u u := .inl rfl
theorem Like.trans {m n : Nat} {u v x : Value} (h : Like m u v) (h2 : Like n v x) : Like (m + n) u x := by
  rcases h with rfl | ⟨s, s', rfl, rfl, hs⟩
  · rcases h2 with rfl | ⟨s, s', rfl, rfl, hs⟩
    · exact .inl rfl
    · exact .inr ⟨s, s', rfl, rfl, by omega⟩
  · rcases h2 with rfl | ⟨t, t', h1, rfl, ht⟩
    · exact .inr ⟨s, s', rfl, rfl, by omega⟩
    · cases h1; exact .inr ⟨s, t', rfl, rfl, by omega⟩
theorem Like.str {m : Nat} {s : ByteArray} {v : Value} (h : Like m (.string s) v) : ∃ s' : ByteArray, v = .string s' ∧ s'.size ≤ s.size + m := by
  rcases h with rfl | ⟨t, t', h1, rfl, ht⟩
  · exact ⟨s, rfl, by omega⟩
  · cases h1; exact ⟨t', rfl, ht⟩
theorem Like.int {m : Nat} {k : IntKind} {n : Int} {v : Value} (h : Like m (.int k n) v) : v = .int k n := by
  rcases h with rfl | ⟨t, t', h1, -⟩
  · rfl
  · cases h1
theorem Like.bool {m : Nat} {n : Bool} {v : Value} (h : Like m (.bool n) v) : v = .bool n := by
  rcases h with rfl | ⟨t, t', h1, -⟩
  · rfl
  · cases h1
theorem Like.slice {m : Nat} {a : Option Addr} {n c : Nat} {v : Value} (h : Like m (.slice a n c) v) : v = .slice a n c := by
  rcases h with rfl | ⟨t, t', h1, -⟩
  · rfl
  · cases h1
/-- Only texts in blocks of the kind have turned, each grown by m bytes at most. -/
structure Spoiled (P : Nat → Prop) (m : Nat) (w w' : World) : Prop where
  os : w'.os = w.os
  tape : w'.tape = w.tape
  output : w'.output = w.output
  size : w'.heap.size = w.heap.size
  block : ∀ k, ¬ P k → w'.heap[k]? = w.heap[k]?
  frozen : ∀ k off, w'.frozen? ⟨k, off, none⟩ = w.frozen? ⟨k, off, none⟩
  cell : ∀ k off u, w.cell? ⟨k, off, none⟩ = some u → ∃ u', w'.cell? ⟨k, off, none⟩ = some u' ∧ Like m u u'
theorem Spoiled.refl (P : Nat → Prop) (m : Nat) (w : World) : Spoiled P m w w := ⟨rfl, rfl, rfl, rfl, fun _ _ => rfl, fun _ _ => rfl, fun _ _ u h => ⟨u, h, Like.refl _ _⟩⟩
theorem Spoiled.trans {P : Nat → Prop} {m n : Nat} {w w1 w2 : World} (h : Spoiled P m w w1) (h2 : Spoiled P n w1 w2) : Spoiled P (m + n) w w2 :=
  ⟨h2.os.trans h.os, h2.tape.trans h.tape, h2.output.trans h.output, h2.size.trans h.size, fun k hk => (h2.block k hk).trans (h.block k hk), fun k off => (h2.frozen k off).trans (h.frozen k off), fun k off u hu => by
    obtain ⟨u1, g1, g2⟩ := h.cell k off u hu
    obtain ⟨u2, g3, g4⟩ := h2.cell k off u1 g1
    exact ⟨u2, g3, g2.trans g4⟩⟩
theorem Spoiled.mono {P : Nat → Prop} {m n : Nat} {w w1 : World} (h : Spoiled P m w w1) (hm : m ≤ n) : Spoiled P n w w1 :=
  ⟨h.os, h.tape, h.output, h.size, h.block, h.frozen, fun k off u hu => by
    obtain ⟨u1, g1, g2⟩ := h.cell k off u hu
    refine ⟨u1, g1, ?_⟩
    rcases g2 with rfl | ⟨s, s', rfl, rfl, hs⟩
    · exact .inl rfl
    · exact .inr ⟨s, s', rfl, rfl, by omega⟩⟩
theorem Spoiled.below {P : Nat → Prop} {m B : Nat} {w w1 : World} (h : Spoiled P m w w1) (hP : ∀ k, P k → B ≤ k) : Below B w w1 :=
  ⟨h.os, h.tape, h.output, Nat.le_of_eq h.size.symm, fun k hk => h.block k (fun hp => by have := hP k hp; omega)⟩
theorem Spoiled.write {P : Nat → Prop} {w : World} {b off : Nat} {s s' : ByteArray} (hc : w.cell? ⟨b, off, none⟩ = some (.string s)) (hP : P b) (hs : s'.size ≤ s.size + 1) : Spoiled P 1 w (w.setCell ⟨b, off, none⟩ (.string s')) where
  os := rfl
  tape := rfl
  output := rfl
  size := by simp [World.setCell]
  block := fun k hk => Below.heap_setCell _ _ _ _ (fun e => hk (by rw [e]; exact hP))
  frozen := fun k o => by
    simp only [World.frozen?, World.setCell]
    by_cases hk : b = k
    · subst hk
      rw [Array.getElem?_modify]
      cases h : w.heap[b]? with
      | none => simp [h]
      | some ob => cases ob <;> simp [h]
    · rw [Array.getElem?_modify, if_neg hk]
  cell := fun k o u hu => by
    by_cases hk : (⟨b, off, none⟩ : Addr) = ⟨k, o, none⟩
    · cases hk
      rw [hc] at hu
      cases hu
      exact ⟨_, World.cell?_setCell_same' _ _ _ (by rw [hc]; rfl), .inr ⟨s, s', rfl, rfl, hs⟩⟩
    · exact ⟨u, by rw [World.cell?_setCell_other (h := hk)]; exact hu, Like.refl _ _⟩

mutual
/-- How many writes there are. -/
def cost : Tree → Nat
  | .mk _ _ _ _ _ _ ks kids => 1 + ks.length + costAll kids
def costAll : List Tree → Nat
  | [] => 0
  | t :: r => cost t + 1 + costAll r
end
mutual
/-- All texts in it have at most so many bytes. -/
def StrB (S : Nat) : Tree → Prop
  | .mk _ _ _ d _ s ks kids => d.size ≤ S ∧ s.size ≤ S ∧ (∀ k ∈ ks, k.size ≤ S) ∧ StrBAll S kids
def StrBAll (S : Nat) : List Tree → Prop
  | [] => True
  | t :: r => StrB S t ∧ StrBAll S r
end
mutual
theorem StrB_mono {S S' : Nat} (h : S ≤ S') : ∀ t : Tree, StrB S t → StrB S' t
  | .mk _ _ _ d _ s ks kids, hS => by
    simp only [StrB] at hS ⊢
    exact ⟨by omega, by omega, fun k hk => Nat.le_trans (hS.2.2.1 k hk) h, StrBAll_mono h kids hS.2.2.2⟩
theorem StrBAll_mono {S S' : Nat} (h : S ≤ S') : ∀ l : List Tree, StrBAll S l → StrBAll S' l
  | [], _ => by simp only [StrBAll]
  | t :: r, hS => by
    simp only [StrBAll] at hS ⊢
    exact ⟨StrB_mono h t hS.1, StrBAll_mono h r hS.2⟩
end
theorem ks_all' : ∀ {l : List ByteArray} {x : ByteArray}, x ∈ l → x.size ≤ ksBulk l
  | k :: r, x, h => by
    rcases List.mem_cons.1 h with rfl | h
    · simp only [ksBulk]; omega
    · have := ks_all' h; simp only [ksBulk]; omega
mutual
theorem cost_bulk : ∀ t : Tree, cost t + 1 ≤ 2 * t.bulk
  | .mk _ _ _ d _ s ks kids => by
    have := costAll_bulk kids
    have := len_ks ks
    simp only [cost, Tree.bulk]; omega
theorem costAll_bulk : ∀ l : List Tree, costAll l ≤ 2 * bulkAll l
  | [] => by simp [costAll, bulkAll]
  | t :: r => by
    have := cost_bulk t
    have := costAll_bulk r
    have := bulk_pos t
    simp only [costAll, bulkAll]; omega
end
theorem cost_kid : ∀ {l : List Tree} {k : Nat} (h : k < l.length), cost l[k] + 1 ≤ costAll l
  | t :: r, 0, _ => by simp only [costAll, List.getElem_cons_zero]; omega
  | t :: r, k + 1, hk => by
    have := cost_kid (l := r) (k := k) (by simpa using hk)
    simp only [costAll, List.getElem_cons_succ]; omega
theorem costAll_take : ∀ (l : List Tree) (k : Nat) (h : k < l.length), costAll (l.take (k + 1)) = costAll (l.take k) + (cost l[k] + 1)
  | t :: r, 0, _ => by simp [costAll]
  | t :: r, k + 1, hk => by
    have := costAll_take r k (by simpa using hk)
    simp only [List.take_succ_cons, costAll, List.getElem_cons_succ, this]; omega
theorem StrB_kid {S : Nat} : ∀ {l : List Tree} {k : Nat} (h : k < l.length), StrBAll S l → StrB S l[k]
  | t :: r, 0, _, h => by simp only [StrBAll] at h; exact h.1
  | t :: r, k + 1, hk, h => by
    simp only [StrBAll] at h
    exact StrB_kid (l := r) (k := k) (by simpa using hk) h.2
mutual
theorem StrB_bulk : ∀ t : Tree, StrB t.bulk t
  | .mk _ _ _ d _ s ks kids => by
    simp only [StrB, Tree.bulk]
    refine ⟨by omega, by omega, fun k hk => ?_, StrBAll_mono (by omega) kids (StrBAll_bulk kids)⟩
    have := ks_all' hk
    omega
theorem StrBAll_bulk : ∀ l : List Tree, StrBAll (bulkAll l) l
  | [] => by simp only [StrBAll]
  | t :: r => by
    simp only [StrBAll, bulkAll]
    exact ⟨StrB_mono (by omega) t (StrB_bulk t), StrBAll_mono (by omega) r (StrBAll_bulk r)⟩
end

/-- The cells that lie there now, each like the one that lay there. -/
def LikeAll (m : Nat) (cs cs' : List Value) : Prop := cs'.length = cs.length ∧ ∀ (j : Nat) (u : Value), cs[j]? = some u → ∃ u', cs'[j]? = some u' ∧ Like m u u'
theorem Spoiled.cells {P : Nat → Prop} {m : Nat} {w w' : World} (h : Spoiled P m w w') {b : Nat} : ∀ (cs : List Value) (off : Nat), (∀ (j : Nat) (u : Value), cs[j]? = some u → w.cell? ⟨b, off + j, none⟩ = some u) →
    ∃ cs', LikeAll m cs cs' ∧ ∀ (j : Nat) (u : Value), cs'[j]? = some u → w'.cell? ⟨b, off + j, none⟩ = some u
  | [], off, _ => ⟨[], ⟨rfl, fun j u (hu : ([] : List Value)[j]? = some u) => by simp at hu⟩, fun j u (hu : ([] : List Value)[j]? = some u) => by simp at hu⟩
  | c :: r, off, hc => by
    obtain ⟨u', h1, h2⟩ := h.cell b off c (by simpa using hc 0 c rfl)
    obtain ⟨cs', ⟨g1, g2⟩, g3⟩ := Spoiled.cells h r (off + 1) (fun j u hu => by
      have := hc (j + 1) u (by simpa using hu)
      rw [← this]; congr 2; omega)
    refine ⟨u' :: cs', ⟨by simp [g1], fun j u hu => ?_⟩, fun j u hu => ?_⟩
    · rcases j with _ | j
      · simp at hu; subst hu; exact ⟨u', rfl, h2⟩
      · obtain ⟨v, k1, k2⟩ := g2 j u (by simpa using hu)
        exact ⟨v, by simpa using k1, k2⟩
    · rcases j with _ | j
      · simp at hu; subst hu; simpa using h1
      · rw [← g3 j u (by simpa using hu)]; congr 2; omega
theorem Spoiled.keys {P : Nat → Prop} {m : Nat} {w w' : World} (h : Spoiled P m w w') {v : Value} {l : List ByteArray} (hk : KeysIn P w v l) :
    ∃ l', KeysIn P w' v l' ∧ l'.length = l.length ∧ ∀ S, (∀ k ∈ l, k.size ≤ S) → ∀ k ∈ l', k.size ≤ S + m := by
  obtain ⟨hr, hb⟩ := hk
  by_cases hl : l = []
  · subst hl
    obtain ⟨a, c, rfl, h1, h2, h3⟩ := hr.len
    exact ⟨[], ⟨RowOf.empty h2 h3, fun _ _ hne => absurd rfl hne⟩, rfl, fun S _ k hk => by simp at hk⟩
  · obtain ⟨a, c, rfl, h1, h2, h3, h4⟩ := hr
    cases a with
    | none =>
      have := h3 rfl
      exact absurd (List.eq_nil_of_length_eq_zero (by omega)) hl
    | some x =>
      obtain ⟨g1, g2, g3⟩ := h4 x rfl hl
      have each : ∀ j (hj : j < l.length), ∃ s' : ByteArray, w'.cell? ⟨x.block, x.off + j, none⟩ = some (.string s') ∧ s'.size ≤ l[j].size + m := fun j hj => by
        obtain ⟨u, k1, k2⟩ := h.cell _ _ _ (g3 j hj)
        obtain ⟨s', rfl, k3⟩ := k2.str
        exact ⟨s', k1, k3⟩
      have pick : ∃ l' : List ByteArray, l'.length = l.length ∧ ∀ j (hj : j < l.length) (hj' : j < l'.length), w'.cell? ⟨x.block, x.off + j, none⟩ = some (.string l'[j]) ∧ l'[j].size ≤ l[j].size + m :=
        ⟨List.ofFn (fun j : Fin l.length => (each j.val j.isLt).choose), by simp, fun j hj hj' => by simpa using (each j hj).choose_spec⟩
      obtain ⟨l', e1, e2⟩ := pick
      have hne' : l' ≠ [] := by intro e; rw [e] at e1; simp at e1; exact hl (List.eq_nil_of_length_eq_zero e1.symm)
      refine ⟨l', ⟨⟨some x, c, by rw [e1], by rw [e1]; exact h1, h2, h3, fun y hy _ => ?_⟩, fun b hb' _ => ?_⟩, e1, fun S hS k hk => ?_⟩
      · cases hy
        exact ⟨g1, by rw [h.size]; exact g2, fun j hj => (e2 j (by omega) hj).1⟩
      · obtain ⟨q1, q2⟩ := hb b hb' hl
        exact ⟨q1, fun off => (h.frozen b off).trans (q2 off)⟩
      · obtain ⟨j, hj, rfl⟩ := List.getElem_of_mem hk
        have := (e2 j (by omega) hj).2
        have := hS _ (List.getElem_mem (show j < l.length by omega))
        omega
theorem like8 {m : Nat} {kind : Int} {is neg : Bool} {d : ByteArray} {e : Int} {s : ByteArray} {ka : Option Addr} {kn kc : Nat} {sa : Option Addr} {sn sc : Nat} {cs' : List Value}
    (h : LikeAll m [.int .i64 kind, .bool is, .bool neg, .string d, .int .i64 e, .string s, .slice ka kn kc, .slice sa sn sc] cs') :
    ∃ d' s' : ByteArray, cs' = [.int .i64 kind, .bool is, .bool neg, .string d', .int .i64 e, .string s', .slice ka kn kc, .slice sa sn sc] ∧ d'.size ≤ d.size + m ∧ s'.size ≤ s.size + m := by
  obtain ⟨h1, h2⟩ := h
  obtain ⟨x0, x1, x2, x3, x4, x5, x6, x7, rfl⟩ := len8 h1
  obtain ⟨u, g0, k0⟩ := h2 0 _ rfl
  cases g0; cases k0.int
  obtain ⟨u, g0, k0⟩ := h2 1 _ rfl
  cases g0; cases k0.bool
  obtain ⟨u, g0, k0⟩ := h2 2 _ rfl
  cases g0; cases k0.bool
  obtain ⟨u, g0, k0⟩ := h2 3 _ rfl
  cases g0
  obtain ⟨d', rfl, hd⟩ := k0.str
  obtain ⟨u, g0, k0⟩ := h2 4 _ rfl
  cases g0; cases k0.int
  obtain ⟨u, g0, k0⟩ := h2 5 _ rfl
  cases g0
  obtain ⟨s', rfl, hs⟩ := k0.str
  obtain ⟨u, g0, k0⟩ := h2 6 _ rfl
  cases g0; cases k0.slice
  obtain ⟨u, g0, k0⟩ := h2 7 _ rfl
  cases g0; cases k0.slice
  exact ⟨d', s', rfl, hd, hs⟩
mutual
/-- A value whose texts have grown is a value still. -/
theorem twin {P : Nat → Prop} {m : Nat} {w w' : World} (h : Spoiled P m w w') : ∀ (t : Tree) (cs cs' : List Value), ValIn P w t cs → LikeAll m cs cs' → ∃ t', ValIn P w' t' cs' ∧ cost t' = cost t ∧ ∀ S, StrB S t → StrB (S + m) t'
  | .mk kind is neg d e s ks kids, cs, cs', hv, hl => by
    simp only [ValIn] at hv
    obtain ⟨kv, a, cap, rfl, hk, h1, h2, h3, h4⟩ := hv
    obtain ⟨ka, kc, rfl, -⟩ := hk.1.len
    obtain ⟨d', s', rfl, hd, hs⟩ := like8 hl
    obtain ⟨ks', g1, g2, g3⟩ := h.keys hk
    have hkids : ∃ kids', kids'.length = kids.length ∧ costAll kids' = costAll kids ∧ (∀ S, StrBAll S kids → StrBAll (S + m) kids') ∧ ∀ x, a = some x → kids' ≠ [] → x.spot = none ∧ (x.block < w'.heap.size ∧ P x.block ∧ ∀ off, w'.frozen? ⟨x.block, off, none⟩ = false) ∧ KidsIn P w' x.block x.off kids' := by
      cases a with
      | none =>
        have hc := h3 rfl
        have hn : kids = [] := List.eq_nil_of_length_eq_zero (by omega)
        subst hn
        exact ⟨[], rfl, rfl, fun S _ => by simp only [StrBAll], fun x hx => by cases hx⟩
      | some x =>
        by_cases hn : kids = []
        · subst hn
          exact ⟨[], rfl, rfl, fun S _ => by simp only [StrBAll], fun x _ hne => absurd rfl hne⟩
        · obtain ⟨q1, q2, q3⟩ := h4 x rfl hn
          obtain ⟨kids', r1, r2, r3, r4⟩ := twins h kids x.block x.off q3
          exact ⟨kids', r1, r2, r3, fun y hy _ => by cases hy; exact ⟨q1, ⟨by rw [h.size]; exact q2.1, q2.2.1, fun off => (h.frozen _ off).trans (q2.2.2 off)⟩, r4⟩⟩
    obtain ⟨kids', r1, r2, r3, r4⟩ := hkids
    refine ⟨.mk kind is neg d' e s' ks' kids', ?_, ?_, fun S hS => ?_⟩
    · simp only [ValIn]
      exact ⟨_, a, cap, by rw [r1], g1, by rw [r1]; exact h1, h2, h3, r4⟩
    · simp only [cost]; omega
    · simp only [StrB] at hS ⊢
      exact ⟨by omega, by omega, g3 S hS.2.2.1, r3 S hS.2.2.2⟩
theorem twins {P : Nat → Prop} {m : Nat} {w w' : World} (h : Spoiled P m w w') : ∀ (l : List Tree) (b off : Nat), KidsIn P w b off l → ∃ l', l'.length = l.length ∧ costAll l' = costAll l ∧ (∀ S, StrBAll S l → StrBAll (S + m) l') ∧ KidsIn P w' b off l'
  | [], b, off, _ => ⟨[], rfl, rfl, fun S _ => by simp only [StrBAll], by simp only [KidsIn]⟩
  | t :: r, b, off, hk => by
    simp only [KidsIn] at hk
    obtain ⟨⟨cs, h1, h2⟩, h3⟩ := hk
    obtain ⟨cs', g1, g2⟩ := h.cells cs off h1
    obtain ⟨t', k1, k2, k3⟩ := twin h t cs cs' h2 g1
    obtain ⟨l', r1, r2, r3, r4⟩ := twins h r b (off + 8) h3
    refine ⟨t' :: l', by simp [r1], by simp only [costAll]; omega, fun S hS => ?_, ?_⟩
    · simp only [StrBAll] at hS ⊢
      exact ⟨k3 S hS.1, r3 S hS.2⟩
    · simp only [KidsIn]
      exact ⟨⟨cs', g2, k1⟩, r4⟩
end
end Go.Proofs.YtpcfhiipkbpmkaaDoor
