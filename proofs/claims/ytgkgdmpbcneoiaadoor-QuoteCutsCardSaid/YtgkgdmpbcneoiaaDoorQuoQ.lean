/- Plain law of layer 7: prints are parsed as they were, what is told is a text, prints cut short lack something. -/
import Derived.Test.YtgkgdmpbcneoiaaDoorQuoP
namespace Go.Proofs.YtgkgdmpbcneoiaaDoor

/-- A text. -/
def Txt (l : List Nat) : Prop := Byt l ∧ (scan l 0).2 = none
theorem Txt.nil : Txt [] := ⟨(fun x h => by cases h), rfl⟩
theorem scan_none_at (l : List Nat) (a : Nat) (h : (scan l 0).2 = none) : (scan l a).2 = none := by
  have := scan_shift l.length l 0 a (Nat.le_refl _)
  rw [Nat.zero_add] at this
  rw [this, h]; rfl
/-- A text that is not empty begins with a scalar, and goes on as a text. -/
theorem Txt.step {l : List Nat} (h : Txt l) (hl : l ≠ []) : ∃ c r, isSc c = true ∧ l = putN c ++ r ∧ Txt r := by
  obtain ⟨hb, hs⟩ := h
  rw [scan_step hl] at hs
  by_cases hn : (oneN l).2 = 0
  · rw [if_pos hn] at hs; cases hs
  · rw [if_neg hn] at hs
    obtain ⟨q1, q2, q3, q4⟩ := put_oneN (c := (oneN l).1) (n := (oneN l).2) hb rfl hn
    refine ⟨(oneN l).1, l.drop (oneN l).2, q1, by rw [q3, List.take_append_drop], hb.drop _, ?_⟩
    have := scan_shift (l.drop (oneN l).2).length (l.drop (oneN l).2) 0 (0 + (oneN l).2) (Nat.le_refl _)
    rw [show 0 + (0 + (oneN l).2) = 0 + (oneN l).2 by omega] at this
    rw [this] at hs
    simpa using hs
theorem putN_byt {c : Nat} (h : isSc c = true) : Byt (putN c) := by
  rw [isSc_iff] at h
  unfold putN
  intro x hx
  split at hx
  · simp at hx; omega
  split at hx
  · simp at hx; omega
  split at hx
  · simp at hx; omega
  · simp at hx; omega
theorem Txt.cons {c : Nat} {r : List Nat} (hc : isSc c = true) (h : Txt r) : Txt (putN c ++ r) := by
  refine ⟨fun x hx => by rcases List.mem_append.1 hx with h1 | h1; exact putN_byt hc x h1; exact h.1 x h1, ?_⟩
  have hp := scan_put hc 0
  rw [scan_append (putN c).length (putN c) r 0 (Nat.le_refl _) (putN_byt hc) (by rw [hp]), ]
  exact scan_none_at _ _ h.2
theorem putN_ne (c : Nat) : putN c ≠ [] := by
  intro h
  have h1 := putN_len c
  have h2 := wid_pos c
  rw [h] at h1; simp at h1; omega
theorem prB_byt {c : Nat} (h : c < 256) : Byt (prB c) := by
  have hs : shortB c < 256 := by
    unfold shortB
    repeat' (first | omega | split)
  have hd : ∀ n, n < 16 → digB n < 256 := fun n hn => by unfold digB; split <;> omega
  unfold prB
  intro x hx
  split at hx
  · simp at hx; omega
  split at hx
  · have h1 := hd (c / 16) (by omega)
    have h2 := hd (c % 16) (by omega)
    simp at hx; omega
  · simp at hx; omega
theorem flat_byt {l : List Nat} (h : Byt l) : Byt (l.flatMap prB) := fun x hx => by
  obtain ⟨c, hc, hx2⟩ := List.mem_flatMap.1 hx
  exact prB_byt (h c hc) x hx2

/-- A text's print, with the last mark, stands for it, whatever follows. -/
theorem body_print : ∀ (k : Nat) (l m : List Nat), l.length ≤ k → Txt l → Byt m → bodyQ (l.flatMap prB ++ 34 :: m) = (l, (l.flatMap prB).length + 1, 0)
  | k, l, m, hk, hl, hm => by
    have hB : Byt (l.flatMap prB ++ 34 :: m) := fun x hx => by
      rcases List.mem_append.1 hx with h1 | h1
      · exact flat_byt hl.1 x h1
      · rcases List.mem_cons.1 h1 with rfl | h2
        · omega
        · exact hm x h2
    by_cases h0 : l = []
    · subst h0
      rw [bodyQ_step hB]
      simp
    · obtain ⟨c, r, hc, rfl, hr⟩ := hl.step h0
      have hpl := putN_len c
      have hw := wid_pos c
      cases k with
      | zero => rw [List.length_append] at hk; omega
      | succ k =>
        have ih := body_print k r m (by rw [List.length_append] at hk; omega) hr hm
        obtain ⟨p1, p2⟩ := partQ_scalar hc (r.flatMap prB ++ 34 :: m)
        have e : (putN c ++ r).flatMap prB ++ 34 :: m = (putN c).flatMap prB ++ (r.flatMap prB ++ 34 :: m) := by simp
        rw [e] at hB ⊢
        rw [bodyQ_step hB, if_neg p2, p1]
        simp only [ne_eq, not_true_eq_false, if_false, List.drop_left', ih]
        simp
        omega
theorem scan_print {l m : List Nat} (hl : Txt l) (hm : Byt m) : scanQ (printQ l ++ m) = (l, (printQ l).length, 0) := by
  unfold printQ
  have e : 34 :: (l.flatMap prB ++ [34]) ++ m = 34 :: (l.flatMap prB ++ 34 :: m) := by simp
  rw [e]
  simp only [scanQ, ne_eq, not_true_eq_false, if_false, body_print l.length l m (Nat.le_refl _) hl hm]
  simp [joinR]
  omega

/-- What is told is a text. -/
theorem body_text : ∀ (k : Nat) (l : List Nat), l.length ≤ k → Byt l → (bodyQ l).2.2 = 0 → Txt (bodyQ l).1
  | k, l, hk, hl, h => by
    rw [bodyQ_step hl] at h ⊢
    by_cases h1 : l.head? = some 34
    · rw [if_pos h1]; exact Txt.nil
    · rw [if_neg h1] at h ⊢
      by_cases h2 : (partQ l).2.2 = 0
      · rw [if_neg (by simp [h2])] at h ⊢
        obtain ⟨c, hc, q2, q3, q4⟩ := partQ_ok hl h2
        by_cases h3 : (bodyQ (l.drop (partQ l).2.1)).2.2 = 0
        · rw [if_neg (by simp [h3])]
          cases k with
          | zero => omega
          | succ k =>
            have ih := body_text k (l.drop (partQ l).2.1) (by simp; omega) (hl.drop _) h3
            show Txt ((partQ l).1 ++ _)
            rw [q2]
            exact ih.cons hc
        · rw [if_pos (by simpa using h3)] at h; exact absurd h h3
      · rw [if_pos (by simpa using h2)] at h; exact absurd h h2
theorem scan_text {l : List Nat} (hl : Byt l) (h : (scanQ l).2.2 = 0) : Txt (scanQ l).1 := by
  cases l with
  | nil => simp [scanQ, errR] at h
  | cons c r =>
    simp only [scanQ] at h ⊢
    by_cases h1 : c = 34
    · rw [if_neg (by simp [h1])] at h ⊢
      unfold joinR at h ⊢
      by_cases h2 : (bodyQ r).2.2 = 0
      · rw [if_neg (by simp [h2])]
        exact body_text r.length r (Nat.le_refl _) (fun x hx => hl x (by simp [hx])) h2
      · rw [if_pos (by simpa using h2)] at h; exact absurd h h2
    · rw [if_pos (by simpa using h1)] at h; simp [errR] at h
theorem scan_err {l : List Nat} (hl : Byt l) (h : (scanQ l).2.2 ≠ 0) : (scanQ l).1 = [] ∧ (scanQ l).2.1 = 0 := by
  cases l with
  | nil => simp [scanQ, errR]
  | cons c r =>
    simp only [scanQ] at h ⊢
    by_cases h1 : c = 34
    · rw [if_neg (by simp [h1])] at h ⊢
      unfold joinR at h ⊢
      by_cases h2 : (bodyQ r).2.2 = 0
      · rw [if_neg (by simp [h2])] at h; simp at h
      · rw [if_pos (by simpa using h2)]; simp [errR]
    · rw [if_pos (by simpa using h1)]; simp [errR]

/-- A whole one is no longer than the bytes. -/
theorem body_size : ∀ (k : Nat) (l : List Nat), l.length ≤ k → Byt l → (bodyQ l).2.2 = 0 → (bodyQ l).2.1 ≤ l.length
  | k, l, hk, hl, h => by
    rw [bodyQ_step hl] at h ⊢
    by_cases h1 : l.head? = some 34
    · rw [if_pos h1]
      cases l with
      | nil => simp at h1
      | cons a r => simp
    · rw [if_neg h1] at h ⊢
      by_cases h2 : (partQ l).2.2 = 0
      · rw [if_neg (by simp [h2])] at h ⊢
        obtain ⟨c, hc, q2, q3, q4⟩ := partQ_ok hl h2
        by_cases h3 : (bodyQ (l.drop (partQ l).2.1)).2.2 = 0
        · rw [if_neg (by simp [h3])]
          cases k with
          | zero => omega
          | succ k =>
            have ih := body_size k (l.drop (partQ l).2.1) (by simp; omega) (hl.drop _) h3
            simp only [List.length_drop] at ih ⊢
            omega
        · rw [if_pos (by simpa using h3)] at h; exact absurd h h3
      · rw [if_pos (by simpa using h2)] at h; exact absurd h h2
theorem scan_size {l : List Nat} (hl : Byt l) (h : (scanQ l).2.2 = 0) : (scanQ l).2.1 ≤ l.length := by
  cases l with
  | nil => simp [scanQ, errR] at h
  | cons c r =>
    simp only [scanQ] at h ⊢
    by_cases h1 : c = 34
    · rw [if_neg (by simp [h1])] at h ⊢
      unfold joinR at h ⊢
      by_cases h2 : (bodyQ r).2.2 = 0
      · rw [if_neg (by simp [h2])]
        have := body_size r.length r (Nat.le_refl _) (fun x hx => hl x (by simp [hx])) h2
        simp; omega
      · rw [if_pos (by simpa using h2)] at h; exact absurd h h2
    · rw [if_pos (by simpa using h1)] at h; simp [errR] at h

/-- What is told is at most four times as long as the bytes. -/
theorem body_out : ∀ (k : Nat) (l : List Nat), l.length ≤ k → Byt l → (bodyQ l).2.2 = 0 → (bodyQ l).1.length ≤ 4 * (bodyQ l).2.1
  | k, l, hk, hl, h => by
    rw [bodyQ_step hl] at h ⊢
    by_cases h1 : l.head? = some 34
    · rw [if_pos h1]; simp
    · rw [if_neg h1] at h ⊢
      by_cases h2 : (partQ l).2.2 = 0
      · rw [if_neg (by simp [h2])] at h ⊢
        obtain ⟨c, hc, q2, q3, q4⟩ := partQ_ok hl h2
        by_cases h3 : (bodyQ (l.drop (partQ l).2.1)).2.2 = 0
        · rw [if_neg (by simp [h3])]
          cases k with
          | zero => omega
          | succ k =>
            have ih := body_out k (l.drop (partQ l).2.1) (by simp; omega) (hl.drop _) h3
            have hw := (wid_pos c).2
            simp only [List.length_append]
            rw [q2, putN_len]
            omega
        · rw [if_pos (by simpa using h3)] at h; exact absurd h h3
      · rw [if_pos (by simpa using h2)] at h; exact absurd h h2
theorem scan_out {l : List Nat} (hl : Byt l) (h : (scanQ l).2.2 = 0) : (scanQ l).1.length ≤ 4 * (scanQ l).2.1 := by
  cases l with
  | nil => simp [scanQ, errR] at h
  | cons c r =>
    simp only [scanQ] at h ⊢
    by_cases h1 : c = 34
    · rw [if_neg (by simp [h1])] at h ⊢
      unfold joinR at h ⊢
      by_cases h2 : (bodyQ r).2.2 = 0
      · rw [if_neg (by simp [h2])]
        have := body_out r.length r (Nat.le_refl _) (fun x hx => hl x (by simp [hx])) h2
        simp; omega
      · rw [if_pos (by simpa using h2)] at h; exact absurd h h2
    · rw [if_pos (by simpa using h1)] at h; simp [errR] at h

/-- A part of a scalar's bytes is none. -/
theorem oneN_cut {c j : Nat} (hc : isSc c = true) (hj : j < wid c) : (oneN ((putN c).take j)).2 = 0 := by
  apply Decidable.byContradiction
  intro hn
  have hb : ∀ x ∈ (putN c).take j, x < 256 := fun x hx => putN_byt hc x (List.mem_of_mem_take hx)
  have h1 := oneN_more (c := (oneN ((putN c).take j)).1) (n := (oneN ((putN c).take j)).2) hb rfl hn ((putN c).drop j)
  rw [List.take_append_drop] at h1
  have h2 := oneN_put hc []
  rw [List.append_nil] at h2
  have h3 := oneN_le _ hb
  rw [h2] at h1
  have h4 : wid c = (oneN ((putN c).take j)).2 := congrArg Prod.snd h1
  simp at h3
  omega
def Short (e : Nat) : Prop := e = 2 ∨ e = 7
theorem unit_cut {c : Nat} (h : c < 32) (j : Nat) (hj : j < 4) : (unitQ ([48, 48, digB (c / 16), digB (c % 16)].take j)).2 = 2 := by
  have : j = 0 ∨ j = 1 ∨ j = 2 ∨ j = 3 := by omega
  rcases this with rfl | rfl | rfl | rfl <;> simp [unitQ, unitF, hex_dig (show c / 16 < 16 by omega), show hexV 48 = some 0 by rfl]
/-- A scalar's print, cut short, lacks something. -/
theorem part_cut {c : Nat} (hc : isSc c = true) (j : Nat) (hj : j < ((putN c).flatMap prB).length) : Short (partQ (((putN c).flatMap prB).take j)).2.2 ∧ (((putN c).flatMap prB).take j).head? ≠ some 34 := by
  by_cases h1 : c < 128
  · have e : (putN c).flatMap prB = prB c := by simp [putN, h1]
    rw [e] at hj ⊢
    have hh := (partQ_prB h1 []).2
    rw [List.append_nil] at hh
    refine ⟨?_, by cases j <;> simp_all [List.head?_take]⟩
    unfold prB at hj ⊢
    by_cases h2 : shortB c = 0
    · rw [if_neg (by simp [h2])] at hj ⊢
      by_cases h3 : c < 32
      · rw [if_pos h3] at hj ⊢
        simp only [List.length_cons, List.length_nil] at hj
        match j, hj with
        | 0, _ => exact .inl rfl
        | 1, _ => exact .inl rfl
        | i + 2, hi =>
          refine .inl ?_
          have hu := unit_cut h3 i (by omega)
          simp only [List.take_succ_cons, partQ, escQ, escB]
          rw [if_neg (by omega), if_pos trivial]
          simp only [show ¬ ((117 : Nat) = 34 ∨ (117 : Nat) = 92 ∨ (117 : Nat) = 47) by omega, if_false, show ¬ (117 : Nat) = 98 by omega, show ¬ (117 : Nat) = 102 by omega, show ¬ (117 : Nat) = 110 by omega, show ¬ (117 : Nat) = 114 by omega, show ¬ (117 : Nat) = 116 by omega, if_true]
          unfold codedQ
          rw [if_pos (by rw [hu]; decide), hu]
          rfl
      · rw [if_neg h3] at hj ⊢
        obtain rfl : j = 0 := by simp at hj; omega
        exact .inl rfl
    · rw [if_pos h2] at hj ⊢
      simp only [List.length_cons, List.length_nil] at hj
      match j, hj with
      | 0, _ => exact .inl rfl
      | 1, _ => exact .inl rfl
      | i + 2, hi => omega
  · have hh := putN_high (show 128 ≤ c by omega)
    rw [flat_high _ hh] at hj ⊢
    rw [putN_len] at hj
    have ho := oneN_cut hc hj
    have hmem : ∀ x ∈ (putN c).take j, 128 ≤ x := fun x hx => hh x (List.mem_of_mem_take hx)
    cases hq : (putN c).take j with
    | nil => exact ⟨.inl rfl, by simp⟩
    | cons a r =>
      rw [hq] at ho hmem
      have ha := hmem a (by simp)
      refine ⟨.inr ?_, by simp; omega⟩
      simp only [partQ]
      rw [if_neg (by omega), if_neg (by omega), if_pos ho]
      rfl
theorem body_cut : ∀ (k : Nat) (l : List Nat) (j : Nat), l.length ≤ k → Txt l → j < (l.flatMap prB).length + 1 → Short (bodyQ ((l.flatMap prB ++ [34]).take j)).2.2
  | k, l, j, hk, hl, hj => by
    have hB : Byt ((l.flatMap prB ++ [34]).take j) := fun x hx => by
      rcases List.mem_append.1 (List.mem_of_mem_take hx) with h1 | h1
      · exact flat_byt hl.1 x h1
      · simp at h1; omega
    by_cases h0 : l = []
    · subst h0
      obtain rfl : j = 0 := by simp at hj; omega
      exact .inl rfl
    · obtain ⟨c, r, hc, rfl, hr⟩ := hl.step h0
      have hpl := putN_len c
      have hw := wid_pos c
      have e : (putN c ++ r).flatMap prB ++ [34] = (putN c).flatMap prB ++ (r.flatMap prB ++ [34]) := by simp
      rw [e] at hB ⊢
      by_cases hjc : j < ((putN c).flatMap prB).length
      · rw [List.take_append_of_le_length (by omega)] at hB ⊢
        obtain ⟨p1, p2⟩ := part_cut hc j hjc
        rw [bodyQ_step hB, if_neg p2, if_pos (by rcases p1 with h | h <;> rw [h] <;> decide)]
        exact p1
      · have hlen : ((putN c ++ r).flatMap prB).length = ((putN c).flatMap prB).length + (r.flatMap prB).length := by simp
        obtain ⟨i, rfl⟩ : ∃ i, j = ((putN c).flatMap prB).length + i := ⟨j - ((putN c).flatMap prB).length, by omega⟩
        have et : ((putN c).flatMap prB ++ (r.flatMap prB ++ [34])).take (((putN c).flatMap prB).length + i) = (putN c).flatMap prB ++ (r.flatMap prB ++ [34]).take i := by
          rw [List.take_append, List.take_of_length_le (by omega)]
          congr 2
          omega
        rw [et] at hB ⊢
        cases k with
        | zero => rw [List.length_append] at hk; omega
        | succ k =>
          have ih := body_cut k r i (by rw [List.length_append] at hk; omega) hr (by omega)
          obtain ⟨p1, p2⟩ := partQ_scalar hc ((r.flatMap prB ++ [34]).take i)
          rw [bodyQ_step hB, if_neg p2, p1]
          simp only [ne_eq, not_true_eq_false, if_false, List.drop_left']
          rw [if_pos (by rcases ih with h | h <;> rw [h] <;> decide)]
          exact ih
theorem scan_cut {l : List Nat} (hl : Txt l) {j : Nat} (hj : j < (printQ l).length) : Short (scanQ ((printQ l).take j)).2.2 := by
  unfold printQ at hj ⊢
  match j, hj with
  | 0, _ => exact .inl rfl
  | i + 1, hi =>
    simp only [List.take_succ_cons, scanQ, ne_eq, not_true_eq_false, if_false]
    have ih := body_cut l.length l i (Nat.le_refl _) hl (by simp at hi ⊢; omega)
    unfold joinR
    rw [if_pos (by rcases ih with h | h <;> rw [h] <;> decide)]
    exact ih
end Go.Proofs.YtgkgdmpbcneoiaaDoor
