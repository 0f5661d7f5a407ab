/- The plain law of choosing the least key over and over (layer 8). -/
import Derived.Test.YtpcfhiipkbpmkaaDoorTsP
namespace Go.Proofs.YtpcfhiipkbpmkaaDoor

/-- What is chosen so far, in its order, and what is left. -/
structure Sel (ks : List ByteArray) (c rest : List Nat) : Prop where
  perm : (c ++ rest).Perm (List.range ks.length)
  low : ∀ i ∈ c, ∀ j ∈ rest, ltK ks[i]! ks[j]! = true
  rise : c.Pairwise (fun i j => ltK ks[i]! ks[j]! = true)
theorem Sel.start (ks : List ByteArray) : Sel ks [] (List.range ks.length) := ⟨by simp, by simp, by simp⟩
theorem Sel.step {ks : List ByteArray} {c rest : List Nat} {b : Nat} (h : Sel ks c rest) (hb : b ∈ rest) (hmin : ∀ j ∈ rest, j ≠ b → ltK ks[b]! ks[j]! = true) : Sel ks (c ++ [b]) (rest.erase b) := by
  have hp : (c ++ [b] ++ rest.erase b).Perm (c ++ rest) := by
    rw [List.append_assoc]
    exact List.Perm.append_left c (by simpa using (List.perm_cons_erase hb).symm)
  have hn : rest.Nodup := by
    have := (h.perm.nodup_iff).2 List.nodup_range
    exact (List.nodup_append.1 this).2.1
  refine ⟨hp.trans h.perm, fun i hi j hj => ?_, ?_⟩
  · have hj2 := List.mem_of_mem_erase hj
    rcases List.mem_append.1 hi with hi | hi
    · exact h.low i hi j hj2
    · simp at hi
      subst hi
      exact hmin j hj2 (fun e => by subst e; exact (List.Nodup.not_mem_erase hn) hj)
  · rw [List.pairwise_append]
    refine ⟨h.rise, by simp, fun i hi j hj => ?_⟩
    simp at hj
    subst hj
    exact h.low i hi j hb
theorem Sel.lt {ks : List ByteArray} {c rest : List Nat} (h : Sel ks c rest) : (∀ i ∈ c, i < ks.length) ∧ (∀ i ∈ rest, i < ks.length) ∧ c.length + rest.length = ks.length := by
  refine ⟨fun i hi => ?_, fun i hi => ?_, ?_⟩
  · exact List.mem_range.1 (h.perm.mem_iff.1 (List.mem_append_left _ hi))
  · exact List.mem_range.1 (h.perm.mem_iff.1 (List.mem_append_right _ hi))
  · have := h.perm.length_eq
    simpa using this
theorem Sel.has {ks : List ByteArray} {c rest : List Nat} (h : Sel ks c rest) {i : Nat} (hi : i < ks.length) : (i ∈ c ∧ i ∉ rest) ∨ (i ∉ c ∧ i ∈ rest) := by
  have hm := h.perm.mem_iff.2 (List.mem_range.2 hi)
  have hn := (h.perm.nodup_iff).2 List.nodup_range
  have hd := (List.nodup_append.1 hn).2.2
  rcases List.mem_append.1 hm with hm | hm
  · exact .inl ⟨hm, fun h2 => hd i hm i h2 rfl⟩
  · exact .inr ⟨fun h2 => hd i h2 i hm rfl, hm⟩
theorem zip_range (ks : List ByteArray) (vs : List Tree) (hl : ks.length = vs.length) : (List.range ks.length).map (fun i => (ks[i]!, vs.getD i zeroT)) = ks.zip vs := by
  refine List.ext_getElem (by simp; omega) (fun j h1 h2 => ?_)
  have hj : j < ks.length := by simpa using h1
  have hj2 : j < vs.length := by omega
  rw [List.getElem_map, List.getElem_range, List.getElem_zip, getElem!_pos ks j hj, List.getD_eq_getElem?_getD, List.getElem?_eq_getElem hj2]
  rfl
theorem Sel.done {ks : List ByteArray} {c : List Nat} {vs : List Tree} (h : Sel ks c []) (hl : ks.length = vs.length) (hn : ks.Nodup) : c.map (fun i => (ks[i]!, vs.getD i zeroT)) = sortF (ks.zip vs) := by
  have hp := h.perm
  rw [List.append_nil] at hp
  refine sortF_eq ?_ ?_ (by rw [zip_fst _ _ hl]; exact hn)
  · unfold Rising
    rw [List.pairwise_map]
    exact h.rise
  · rw [← zip_range ks vs hl]
    exact hp.map _

/-- The least one of what is left ahead of place i. -/
def Best (ks : List ByteArray) (rest : List Nat) (i : Nat) (b : Int) : Prop :=
  (b = -1 ∧ ∀ j ∈ rest, i ≤ j) ∨ ∃ m : Nat, b = m ∧ m ∈ rest ∧ m < i ∧ ∀ j ∈ rest, j < i → j ≠ m → ltK ks[m]! ks[j]! = true
theorem Best.start (ks : List ByteArray) (rest : List Nat) : Best ks rest 0 (-1) := .inl ⟨rfl, fun _ _ => Nat.zero_le _⟩
theorem Best.gone {ks : List ByteArray} {rest : List Nat} {i : Nat} {b : Int} (h : Best ks rest i b) (hi : i ∉ rest) : Best ks rest (i + 1) b := by
  rcases h with ⟨h1, h2⟩ | ⟨m, h1, h2, h3, h4⟩
  · refine .inl ⟨h1, fun j hj => ?_⟩
    have := h2 j hj
    rcases Nat.lt_or_eq_of_le this with h | h
    · exact h
    · subst h; exact absurd hj hi
  · refine .inr ⟨m, h1, h2, by omega, fun j hj hji hjm => ?_⟩
    rcases Nat.lt_succ_iff_lt_or_eq.1 hji with h | h
    · exact h4 j hj h hjm
    · subst h; exact absurd hj hi
theorem Best.first {ks : List ByteArray} {rest : List Nat} {i : Nat} (h : Best ks rest i (-1)) (hi : i ∈ rest) : Best ks rest (i + 1) (i : Int) := by
  rcases h with ⟨_, h2⟩ | ⟨m, h1, _⟩
  · refine .inr ⟨i, rfl, hi, by omega, fun j hj hji hjm => ?_⟩
    have := h2 j hj
    omega
  · omega
theorem Best.less {ks : List ByteArray} {rest : List Nat} {i m : Nat} (h : Best ks rest i (m : Int)) (hi : i ∈ rest) (hl : ltK ks[i]! ks[m]! = true) : Best ks rest (i + 1) (i : Int) := by
  rcases h with ⟨h1, _⟩ | ⟨m', h1, h2, h3, h4⟩
  · omega
  · have hm : m = m' := by omega
    subst hm
    refine .inr ⟨i, rfl, hi, by omega, fun j hj hji hjm => ?_⟩
    by_cases hjm2 : j = m
    · subst hjm2; exact hl
    · exact ltK_trans hl (h4 j hj (by omega) hjm2)
theorem Best.more {ks : List ByteArray} {rest : List Nat} {i m : Nat} (h : Best ks rest i (m : Int)) (hl : ltK ks[i]! ks[m]! = false) (hn : ks.Nodup) (hi : i < ks.length) (hm : m < ks.length) : Best ks rest (i + 1) (m : Int) := by
  rcases h with ⟨h1, _⟩ | ⟨m', h1, h2, h3, h4⟩
  · omega
  · have hm2 : m = m' := by omega
    subst hm2
    refine .inr ⟨m, rfl, h2, by omega, fun j hj hji hjm => ?_⟩
    rcases Nat.lt_succ_iff_lt_or_eq.1 hji with h | h
    · exact h4 j hj h hjm
    · subst h
      cases hc : ltK ks[m]! ks[j]!
      · have e := ltK_conn hl hc
        rw [getElem!_pos ks j hi, getElem!_pos ks m hm] at e
        exact absurd ((List.getElem_inj (h₀ := hi) (h₁ := hm) hn).1 e) hjm
      · rfl
theorem Best.done {ks : List ByteArray} {rest : List Nat} {i : Nat} {b : Int} (h : Best ks rest i b) (hr : ∀ j ∈ rest, j < i) (hne : rest ≠ []) : ∃ m : Nat, b = m ∧ m ∈ rest ∧ ∀ j ∈ rest, j ≠ m → ltK ks[m]! ks[j]! = true := by
  rcases h with ⟨_, h2⟩ | ⟨m, h1, h2, h3, h4⟩
  · obtain ⟨j, hj⟩ := List.exists_mem_of_ne_nil rest hne
    have := h2 j hj
    have := hr j hj
    omega
  · exact ⟨m, h1, h2, fun j hj hjm => h4 j hj (hr j hj) hjm⟩
end Go.Proofs.YtpcfhiipkbpmkaaDoor
