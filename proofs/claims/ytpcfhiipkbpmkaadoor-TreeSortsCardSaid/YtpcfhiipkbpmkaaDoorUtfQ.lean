/- Plain law of layer 2: the order of texts' bytes is the order of their scalars. -/
import Derived.Test.YtpcfhiipkbpmkaaDoorUtfP
import Derived.WalkKit
namespace Go.Proofs.YtpcfhiipkbpmkaaDoor

/-- Which one of two lists of bytes comes first. -/
def lessN : List Nat → List Nat → Bool
  | _, [] => false
  | [], _ :: _ => true
  | a :: l, b :: m => decide (a < b) || (decide (a = b) && lessN l m)

theorem lessN_same (p l m : List Nat) : lessN (p ++ l) (p ++ m) = lessN l m := by
  induction p with
  | nil => rfl
  | cons a p ih => simp [lessN, ih]
theorem lessN_irr (l : List Nat) : lessN l l = false := by
  induction l with
  | nil => rfl
  | cons a l ih => simp [lessN, ih]

/-- Unlike scalars are in their order, whatever follows. -/
theorem lessN_put {c d : Nat} (hc : isSc c = true) (hd : isSc d = true) (h : c < d) (l m : List Nat) : lessN (putN c ++ l) (putN d ++ m) = true ∧ lessN (putN d ++ m) (putN c ++ l) = false := by
  rw [isSc_iff] at hc hd
  unfold putN
  by_cases c1 : c < 128
  · by_cases d1 : d < 128
    · simp only [if_pos c1, if_pos d1, List.cons_append, List.nil_append, lessN]
      have e1 : decide (c < d) = true := by simpa using h
      have e2 : decide (d < c) = false := by simp; omega
      have e3 : decide (d = c) = false := by simp; omega
      simp [e1, e2, e3]
    · by_cases d2 : d < 2048
      · simp only [if_pos c1, if_neg d1, if_pos d2, List.cons_append, List.nil_append, lessN]
        have e1 : decide (c < 192 + d / 64) = true := by simp; omega
        have e2 : decide (192 + d / 64 < c) = false := by simp; omega
        have e3 : decide (192 + d / 64 = c) = false := by simp; omega
        simp [e1, e2, e3]
      · by_cases d3 : d < 65536
        · simp only [if_pos c1, if_neg d1, if_neg d2, if_pos d3, List.cons_append, List.nil_append, lessN]
          have e1 : decide (c < 224 + d / 4096) = true := by simp; omega
          have e2 : decide (224 + d / 4096 < c) = false := by simp; omega
          have e3 : decide (224 + d / 4096 = c) = false := by simp; omega
          simp [e1, e2, e3]
        · simp only [if_pos c1, if_neg d1, if_neg d2, if_neg d3, List.cons_append, List.nil_append, lessN]
          have e1 : decide (c < 240 + d / 262144) = true := by simp; omega
          have e2 : decide (240 + d / 262144 < c) = false := by simp; omega
          have e3 : decide (240 + d / 262144 = c) = false := by simp; omega
          simp [e1, e2, e3]
  by_cases c2 : c < 2048
  · by_cases d2 : d < 2048
    · have d1 : ¬ d < 128 := by omega
      simp only [if_neg c1, if_pos c2, if_neg d1, if_pos d2, List.cons_append, List.nil_append, lessN]
      by_cases q : c / 64 = d / 64
      · have e1 : decide (128 + c % 64 < 128 + d % 64) = true := by simp; omega
        have e2 : decide (128 + d % 64 < 128 + c % 64) = false := by simp; omega
        have e3 : decide (128 + d % 64 = 128 + c % 64) = false := by simp; omega
        simp only [q, e1, e2, e3]; simp
      · have e1 : decide (192 + c / 64 < 192 + d / 64) = true := by simp; omega
        have e2 : decide (192 + d / 64 < 192 + c / 64) = false := by simp; omega
        have e3 : decide (192 + d / 64 = 192 + c / 64) = false := by simp; omega
        simp only [e1, e2, e3]; simp
    · have d1 : ¬ d < 128 := by omega
      by_cases d3 : d < 65536
      · simp only [if_neg c1, if_pos c2, if_neg d1, if_neg d2, if_pos d3, List.cons_append, List.nil_append, lessN]
        have e1 : decide (192 + c / 64 < 224 + d / 4096) = true := by simp; omega
        have e2 : decide (224 + d / 4096 < 192 + c / 64) = false := by simp; omega
        have e3 : decide (224 + d / 4096 = 192 + c / 64) = false := by simp; omega
        simp only [e1, e2, e3]; simp
      · simp only [if_neg c1, if_pos c2, if_neg d1, if_neg d2, if_neg d3, List.cons_append, List.nil_append, lessN]
        have e1 : decide (192 + c / 64 < 240 + d / 262144) = true := by simp; omega
        have e2 : decide (240 + d / 262144 < 192 + c / 64) = false := by simp; omega
        have e3 : decide (240 + d / 262144 = 192 + c / 64) = false := by simp; omega
        simp only [e1, e2, e3]; simp
  have d1 : ¬ d < 128 := by omega
  have d2 : ¬ d < 2048 := by omega
  by_cases c3 : c < 65536
  · by_cases d3 : d < 65536
    · simp only [if_neg c1, if_neg c2, if_pos c3, if_neg d1, if_neg d2, if_pos d3, List.cons_append, List.nil_append, lessN]
      by_cases q : c / 4096 = d / 4096
      · by_cases q2 : c / 64 % 64 = d / 64 % 64
        · have e1 : decide (128 + c % 64 < 128 + d % 64) = true := by simp; omega
          have e2 : decide (128 + d % 64 < 128 + c % 64) = false := by simp; omega
          have e3 : decide (128 + d % 64 = 128 + c % 64) = false := by simp; omega
          simp only [q, q2, e1, e2, e3]; simp
        · have e1 : decide (128 + c / 64 % 64 < 128 + d / 64 % 64) = true := by simp; omega
          have e2 : decide (128 + d / 64 % 64 < 128 + c / 64 % 64) = false := by simp; omega
          have e3 : decide (128 + d / 64 % 64 = 128 + c / 64 % 64) = false := by simp; omega
          simp only [q, e1, e2, e3]; simp
      · have e1 : decide (224 + c / 4096 < 224 + d / 4096) = true := by simp; omega
        have e2 : decide (224 + d / 4096 < 224 + c / 4096) = false := by simp; omega
        have e3 : decide (224 + d / 4096 = 224 + c / 4096) = false := by simp; omega
        simp only [e1, e2, e3]; simp
    · simp only [if_neg c1, if_neg c2, if_pos c3, if_neg d1, if_neg d2, if_neg d3, List.cons_append, List.nil_append, lessN]
      have e1 : decide (224 + c / 4096 < 240 + d / 262144) = true := by simp; omega
      have e2 : decide (240 + d / 262144 < 224 + c / 4096) = false := by simp; omega
      have e3 : decide (240 + d / 262144 = 224 + c / 4096) = false := by simp; omega
      simp only [e1, e2, e3]; simp
  · have d3 : ¬ d < 65536 := by omega
    simp only [if_neg c1, if_neg c2, if_neg c3, if_neg d1, if_neg d2, if_neg d3, List.cons_append, List.nil_append, lessN]
    by_cases q : c / 262144 = d / 262144
    · by_cases q2 : c / 4096 % 64 = d / 4096 % 64
      · by_cases q3 : c / 64 % 64 = d / 64 % 64
        · have e1 : decide (128 + c % 64 < 128 + d % 64) = true := by simp; omega
          have e2 : decide (128 + d % 64 < 128 + c % 64) = false := by simp; omega
          have e3 : decide (128 + d % 64 = 128 + c % 64) = false := by simp; omega
          simp only [q, q2, q3, e1, e2, e3]; simp
        · have e1 : decide (128 + c / 64 % 64 < 128 + d / 64 % 64) = true := by simp; omega
          have e2 : decide (128 + d / 64 % 64 < 128 + c / 64 % 64) = false := by simp; omega
          have e3 : decide (128 + d / 64 % 64 = 128 + c / 64 % 64) = false := by simp; omega
          simp only [q, q2, e1, e2, e3]; simp
      · have e1 : decide (128 + c / 4096 % 64 < 128 + d / 4096 % 64) = true := by simp; omega
        have e2 : decide (128 + d / 4096 % 64 < 128 + c / 4096 % 64) = false := by simp; omega
        have e3 : decide (128 + d / 4096 % 64 = 128 + c / 4096 % 64) = false := by simp; omega
        simp only [q, e1, e2, e3]; simp
    · have e1 : decide (240 + c / 262144 < 240 + d / 262144) = true := by simp; omega
      have e2 : decide (240 + d / 262144 < 240 + c / 262144) = false := by simp; omega
      have e3 : decide (240 + d / 262144 = 240 + c / 262144) = false := by simp; omega
      simp only [e1, e2, e3]; simp

/-- A text is its scalars' bytes. -/
def bytesOf (p : List (Nat × Nat)) : List Nat := p.flatMap fun x => putN x.2
theorem scan_bytes : ∀ (k : Nat) (l : List Nat) (a : Nat), l.length ≤ k → (∀ x ∈ l, x < 256) → (scan l a).2 = none → bytesOf (scan l a).1 = l ∧ ∀ x ∈ (scan l a).1, isSc x.2 = true
  | k, l, a, hk, hl, h => by
    by_cases h0 : l = []
    · subst h0; simp [scan_nil, bytesOf]
    obtain ⟨c, n, h1⟩ : ∃ c n, oneN l = (c, n) := ⟨_, _, rfl⟩
    by_cases hn : n = 0
    · rw [scan_bad h0 (by rw [h1]; exact hn)] at h; cases h
    obtain ⟨g1, g2, g3, g4⟩ := put_oneN hl h1 hn
    rw [scan_good h0 h1 hn] at h ⊢
    have hp := List.length_pos_iff.2 h0
    cases k with
    | zero => omega
    | succ k =>
      obtain ⟨i1, i2⟩ := scan_bytes k (l.drop n) (a + n) (by simp; omega) (fun x hx => hl x (List.mem_of_mem_drop hx)) h
      refine ⟨?_, ?_⟩
      · simp only [bytesOf, List.flatMap_cons] at i1 ⊢
        rw [i1, g3, List.take_append_drop]
      · intro x hx
        rcases List.mem_cons.1 hx with rfl | hx
        · exact g1
        · exact i2 x hx
end Go.Proofs.YtpcfhiipkbpmkaaDoor
