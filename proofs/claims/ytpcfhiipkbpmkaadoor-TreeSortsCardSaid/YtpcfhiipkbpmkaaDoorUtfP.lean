/- Plain law of layer 2: scalars and their bytes, without any program. -/
import Derived.WalkKit
namespace Go.Proofs.YtpcfhiipkbpmkaaDoor

/-- A scalar? -/
def isSc (c : Nat) : Bool := decide (c ≤ 1114111) && (decide (c < 55296) || decide (57343 < c))
def wid (c : Nat) : Nat := if c < 128 then 1 else if c < 2048 then 2 else if c < 65536 then 3 else 4
/-- Its bytes, as numbers. -/
def putN (c : Nat) : List Nat :=
  if c < 128 then [c] else if c < 2048 then [192 + c / 64, 128 + c % 64] else if c < 65536 then [224 + c / 4096, 128 + c / 64 % 64, 128 + c % 64]
  else [240 + c / 262144, 128 + c / 4096 % 64, 128 + c / 64 % 64, 128 + c % 64]
def putU (c : Nat) : List UInt8 := (putN c).map UInt8.ofNat
theorem putU_length (c : Nat) : (putU c).length = wid c := by
  unfold putU putN wid
  split
  · rfl
  split
  · rfl
  split <;> rfl

/-- The sizes by a first byte. -/
def sizeOf8 (b : Nat) : Nat := if b < 128 then 1 else if b < 192 then 0 else if b < 224 then 2 else if b < 240 then 3 else if b < 248 then 4 else 0

/-- The scalar that bytes begin with, and how many bytes it has; 0: there is none. -/
def oneN : List Nat → Nat × Nat
  | [] => (0, 0)
  | a :: r =>
    if a < 128 then (a, 1)
    else if a < 192 then (0, 0)
    else if a < 224 then match r with
      | b :: _ => if b / 64 = 2 ∧ 128 ≤ (a - 192) * 64 + (b - 128) then ((a - 192) * 64 + (b - 128), 2) else (0, 0)
      | _ => (0, 0)
    else if a < 240 then match r with
      | b :: c :: _ => if b / 64 = 2 ∧ c / 64 = 2 ∧ 2048 ≤ ((a - 224) * 64 + (b - 128)) * 64 + (c - 128) ∧ isSc (((a - 224) * 64 + (b - 128)) * 64 + (c - 128)) then (((a - 224) * 64 + (b - 128)) * 64 + (c - 128), 3) else (0, 0)
      | _ => (0, 0)
    else if a < 248 then match r with
      | b :: c :: d :: _ => if b / 64 = 2 ∧ c / 64 = 2 ∧ d / 64 = 2 ∧ 65536 ≤ (((a - 240) * 64 + (b - 128)) * 64 + (c - 128)) * 64 + (d - 128) ∧ isSc ((((a - 240) * 64 + (b - 128)) * 64 + (c - 128)) * 64 + (d - 128)) then ((((a - 240) * 64 + (b - 128)) * 64 + (c - 128)) * 64 + (d - 128), 4) else (0, 0)
      | _ => (0, 0)
    else (0, 0)

theorem isSc_iff {c : Nat} : isSc c = true ↔ c ≤ 1114111 ∧ (c < 55296 ∨ 57343 < c) := by simp [isSc]

/-- What is written is told. -/
theorem oneN_put {c : Nat} (h : isSc c = true) (more : List Nat) : oneN (putN c ++ more) = (c, wid c) := by
  rw [isSc_iff] at h
  unfold putN wid
  by_cases h1 : c < 128
  · simp [h1, oneN]
  by_cases h2 : c < 2048
  · rw [if_neg h1, if_pos h2, if_neg h1, if_pos h2]
    simp only [List.cons_append, List.nil_append, oneN]
    rw [if_neg (by omega), if_neg (by omega), if_pos (by omega), if_pos (by omega)]
    exact congrArg (fun x => (x, 2)) (by omega)
  by_cases h3 : c < 65536
  · rw [if_neg h1, if_neg h2, if_pos h3, if_neg h1, if_neg h2, if_pos h3]
    simp only [List.cons_append, List.nil_append, oneN, isSc_iff]
    rw [if_neg (by omega), if_neg (by omega), if_neg (by omega), if_pos (by omega), if_pos (by omega)]
    exact congrArg (fun x => (x, 3)) (by omega)
  · rw [if_neg h1, if_neg h2, if_neg h3, if_neg h1, if_neg h2, if_neg h3]
    simp only [List.cons_append, List.nil_append, oneN, isSc_iff]
    rw [if_neg (by omega), if_neg (by omega), if_neg (by omega), if_neg (by omega), if_pos (by omega), if_pos (by omega)]
    exact congrArg (fun x => (x, 4)) (by omega)

/-- What is told is written so. -/
theorem put_oneN {l : List Nat} {c n : Nat} (hl : ∀ x ∈ l, x < 256) (h : oneN l = (c, n)) (hn : n ≠ 0) : isSc c = true ∧ wid c = n ∧ putN c = l.take n ∧ n ≤ l.length := by
  match l with
  | [] => simp [oneN] at h; omega
  | a :: r =>
    have ha := hl a (by simp)
    simp only [oneN] at h
    by_cases h1 : a < 128
    · rw [if_pos h1] at h
      simp only [Prod.mk.injEq] at h
      obtain ⟨rfl, rfl⟩ := h
      rw [isSc_iff]
      simp [wid, putN, h1]; omega
    rw [if_neg h1] at h
    by_cases h2 : a < 192
    · rw [if_pos h2] at h; simp at h; omega
    rw [if_neg h2] at h
    by_cases h3 : a < 224
    · rw [if_pos h3] at h
      match r with
      | [] => simp at h; omega
      | b :: r' =>
        simp only at h
        by_cases hc : b / 64 = 2 ∧ 128 ≤ (a - 192) * 64 + (b - 128)
        · rw [if_pos hc] at h
          simp only [Prod.mk.injEq] at h
          obtain ⟨h5, rfl⟩ := h
          have hc2 : c < 2048 := by omega
          have hc1 : ¬ c < 128 := by omega
          rw [isSc_iff]
          refine ⟨by omega, by simp [wid, hc1, hc2], ?_, by simp⟩
          simp only [putN, if_neg hc1, if_pos hc2, List.take_succ_cons, List.take_zero, List.cons.injEq, and_true]
          omega
        · rw [if_neg hc] at h; simp at h; omega
    rw [if_neg h3] at h
    by_cases h4 : a < 240
    · rw [if_pos h4] at h
      match r with
      | [] => simp at h; omega
      | [b] => simp at h; omega
      | b :: d :: r' =>
        simp only [isSc_iff] at h
        by_cases hc : b / 64 = 2 ∧ d / 64 = 2 ∧ 2048 ≤ ((a - 224) * 64 + (b - 128)) * 64 + (d - 128) ∧ ((a - 224) * 64 + (b - 128)) * 64 + (d - 128) ≤ 1114111 ∧ (((a - 224) * 64 + (b - 128)) * 64 + (d - 128) < 55296 ∨ 57343 < ((a - 224) * 64 + (b - 128)) * 64 + (d - 128))
        · rw [if_pos hc] at h
          simp only [Prod.mk.injEq] at h
          obtain ⟨h5, rfl⟩ := h
          have hc3 : c < 65536 := by omega
          have hc2 : ¬ c < 2048 := by omega
          have hc1 : ¬ c < 128 := by omega
          rw [isSc_iff]
          refine ⟨by omega, by simp [wid, hc1, hc2, hc3], ?_, by simp⟩
          simp only [putN, if_neg hc1, if_neg hc2, if_pos hc3, List.take_succ_cons, List.take_zero, List.cons.injEq, and_true]
          omega
        · rw [if_neg hc] at h; simp at h; omega
    rw [if_neg h4] at h
    by_cases h5 : a < 248
    · rw [if_pos h5] at h
      match r with
      | [] => simp at h; omega
      | [b] => simp at h; omega
      | [b, d] => simp at h; omega
      | b :: d :: f :: r' =>
        simp only [isSc_iff] at h
        by_cases hc : b / 64 = 2 ∧ d / 64 = 2 ∧ f / 64 = 2 ∧ 65536 ≤ (((a - 240) * 64 + (b - 128)) * 64 + (d - 128)) * 64 + (f - 128) ∧ (((a - 240) * 64 + (b - 128)) * 64 + (d - 128)) * 64 + (f - 128) ≤ 1114111 ∧ ((((a - 240) * 64 + (b - 128)) * 64 + (d - 128)) * 64 + (f - 128) < 55296 ∨ 57343 < (((a - 240) * 64 + (b - 128)) * 64 + (d - 128)) * 64 + (f - 128))
        · rw [if_pos hc] at h
          simp only [Prod.mk.injEq] at h
          obtain ⟨h6, rfl⟩ := h
          have hc3 : ¬ c < 65536 := by omega
          have hc2 : ¬ c < 2048 := by omega
          have hc1 : ¬ c < 128 := by omega
          rw [isSc_iff]
          refine ⟨by omega, by simp [wid, hc1, hc2, hc3], ?_, by simp⟩
          simp only [putN, if_neg hc1, if_neg hc2, if_neg hc3, List.take_succ_cons, List.take_zero, List.cons.injEq, and_true]
          omega
        · rw [if_neg hc] at h; simp at h; omega
    · rw [if_neg h5] at h; simp at h; omega

/-- More behind it makes no difference to a scalar that is told. -/
theorem oneN_more {l : List Nat} {c n : Nat} (hl : ∀ x ∈ l, x < 256) (h : oneN l = (c, n)) (hn : n ≠ 0) (m : List Nat) : oneN (l ++ m) = (c, n) := by
  obtain ⟨h1, h2, h3, h4⟩ := put_oneN hl h hn
  have e : l ++ m = putN c ++ (l.drop n ++ m) := by rw [h3, ← List.append_assoc, List.take_append_drop]
  rw [e, oneN_put h1, h2]
theorem putN_len (c : Nat) : (putN c).length = wid c := by rw [← putU_length]; simp [putU]
theorem wid_pos (c : Nat) : 1 ≤ wid c ∧ wid c ≤ 4 := by
  unfold wid
  split
  · omega
  split
  · omega
  split <;> omega
theorem oneN_le (l : List Nat) (hl : ∀ x ∈ l, x < 256) : (oneN l).2 ≤ l.length ∧ (oneN l).2 ≤ 4 := by
  obtain ⟨c, n, h⟩ : ∃ c n, oneN l = (c, n) := ⟨_, _, rfl⟩
  rw [h]
  by_cases hn : n = 0
  · subst hn; simp
  · obtain ⟨_, h2, _, h4⟩ := put_oneN hl h hn
    have := wid_pos c
    exact ⟨h4, by simp only; omega⟩
theorem oneN_zero {l : List Nat} {c n : Nat} (h : oneN l = (c, n)) (hn : n = 0) : c = 0 := by
  subst hn
  unfold oneN at h
  repeat' (first | (simp only [Prod.mk.injEq] at h; omega) | split at h)

/-- So many bytes that go on. -/
def cont (c : Nat) : List Nat → Option Nat
  | [] => some c
  | b :: r => if b / 64 = 2 then cont (c * 64 + b % 64) r else none
def initOf (a n : Nat) : Nat := if n = 2 then a % 32 else if n = 3 then a % 16 else a % 8
theorem oneN_many {a n : Nat} {r : List Nat} (hb : ∀ x ∈ a :: r, x < 256) (hn : sizeOf8 a = n) (h2 : 2 ≤ n) :
    oneN (a :: r) = if r.length < n - 1 then (0, 0) else match cont (initOf a n) (r.take (n - 1)) with
      | none => (0, 0)
      | some C => if isSc C = true ∧ wid C = n then (C, n) else (0, 0) := by
  unfold sizeOf8 at hn
  by_cases h1 : a < 128
  · rw [if_pos h1] at hn; omega
  rw [if_neg h1] at hn
  by_cases h3 : a < 192
  · rw [if_pos h3] at hn; omega
  rw [if_neg h3] at hn
  have w2 : ∀ C, C < 2048 → ((isSc C = true ∧ wid C = 2) ↔ 128 ≤ C) := by
    intro C hC
    rw [isSc_iff]; unfold wid
    by_cases h : C < 128
    · simp [h]
    · simp [h, hC]; omega
  have w3 : ∀ C, C < 65536 → ((isSc C = true ∧ wid C = 3) ↔ (2048 ≤ C ∧ isSc C = true)) := by
    intro C hC
    unfold wid
    by_cases h : C < 128
    · simp [h]; omega
    · by_cases h' : C < 2048
      · simp [h, h']; omega
      · simp [h, h', hC]; omega
  have w4 : ∀ C, ((isSc C = true ∧ wid C = 4) ↔ (65536 ≤ C ∧ isSc C = true)) := by
    intro C
    unfold wid
    by_cases h : C < 128
    · simp [h]; omega
    · by_cases h' : C < 2048
      · simp [h, h']; omega
      · by_cases h'' : C < 65536
        · simp [h, h', h'']; omega
        · simp [h, h', h'']; omega
  by_cases h4 : a < 224
  · rw [if_pos h4] at hn
    subst hn
    simp only [oneN, if_neg h1, if_neg h3, if_pos h4]
    match r with
    | [] => simp
    | b :: r' =>
      have hb1 := hb b (by simp)
      by_cases hc : b / 64 = 2
      · have e : initOf a 2 * 64 + b % 64 = (a - 192) * 64 + (b - 128) := by simp [initOf]; omega
        simp only [List.take_succ_cons, List.take_zero, cont, hc, if_true, true_and, e, List.length_cons]
        rw [if_neg (show ¬ (r'.length + 1 < 2 - 1) by omega)]
        simp only [w2 _ (show (a - 192) * 64 + (b - 128) < 2048 by omega)]
      · simp [cont, hc]
  rw [if_neg h4] at hn
  by_cases h5 : a < 240
  · rw [if_pos h5] at hn
    subst hn
    simp only [oneN, if_neg h1, if_neg h3, if_neg h4, if_pos h5]
    match r with
    | [] => simp
    | [b] => simp
    | b :: d :: r' =>
      have hb1 := hb b (by simp)
      have hb2 := hb d (by simp)
      by_cases hc : b / 64 = 2
      · by_cases hd : d / 64 = 2
        · have e : (initOf a 3 * 64 + b % 64) * 64 + d % 64 = ((a - 224) * 64 + (b - 128)) * 64 + (d - 128) := by simp [initOf]; omega
          simp only [List.take_succ_cons, List.take_zero, cont, hc, hd, if_true, true_and, e, List.length_cons]
          rw [if_neg (show ¬ (r'.length + 1 + 1 < 3 - 1) by omega)]
          simp only [w3 _ (show ((a - 224) * 64 + (b - 128)) * 64 + (d - 128) < 65536 by omega)]
        · simp [cont, hc, hd]
      · simp [cont, hc]
  rw [if_neg h5] at hn
  by_cases h6 : a < 248
  · rw [if_pos h6] at hn
    subst hn
    simp only [oneN, if_neg h1, if_neg h3, if_neg h4, if_neg h5, if_pos h6]
    match r with
    | [] => simp
    | [b] => simp
    | [b, d] => simp
    | b :: d :: f :: r' =>
      have hb1 := hb b (by simp)
      have hb2 := hb d (by simp)
      have hb3 := hb f (by simp)
      by_cases hc : b / 64 = 2
      · by_cases hd : d / 64 = 2
        · by_cases hf : f / 64 = 2
          · have e : ((initOf a 4 * 64 + b % 64) * 64 + d % 64) * 64 + f % 64 = (((a - 240) * 64 + (b - 128)) * 64 + (d - 128)) * 64 + (f - 128) := by simp [initOf]; omega
            simp only [List.take_succ_cons, List.take_zero, cont, hc, hd, hf, if_true, true_and, e, List.length_cons]
            rw [if_neg (show ¬ (r'.length + 1 + 1 + 1 < 4 - 1) by omega)]
            simp only [w4]
          · simp [cont, hc, hd, hf]
        · simp [cont, hc, hd]
      · simp [cont, hc]
  · rw [if_neg h6] at hn; omega
theorem sizeOf8_cases (a : Nat) : sizeOf8 a = 0 ∨ sizeOf8 a = 1 ∨ sizeOf8 a = 2 ∨ sizeOf8 a = 3 ∨ sizeOf8 a = 4 := by
  unfold sizeOf8
  repeat' (first | omega | split)
theorem oneN_none {a : Nat} {r : List Nat} (h : sizeOf8 a = 0) : oneN (a :: r) = (0, 0) := by
  unfold sizeOf8 at h
  simp only [oneN]
  by_cases h1 : a < 128
  · rw [if_pos h1] at h; omega
  rw [if_neg h1] at h ⊢
  by_cases h2 : a < 192
  · rw [if_pos h2]
  rw [if_neg h2] at h ⊢
  by_cases h3 : a < 224
  · rw [if_pos h3] at h; omega
  rw [if_neg h3] at h ⊢
  by_cases h4 : a < 240
  · rw [if_pos h4] at h; omega
  rw [if_neg h4] at h ⊢
  by_cases h5 : a < 248
  · rw [if_pos h5] at h; omega
  rw [if_neg h5]
theorem sizeOf8_one {a : Nat} (h : sizeOf8 a = 1) : a < 128 := by
  unfold sizeOf8 at h
  by_cases h1 : a < 128
  · exact h1
  rw [if_neg h1] at h
  repeat' (first | omega | split at h)

/-- The scalars from a place on, each with its place, and where they go wrong. -/
def scanF : Nat → List Nat → Nat → List (Nat × Nat) × Option Nat
  | 0, _, _ => ([], none)
  | k + 1, l, a => if l = [] then ([], none) else if (oneN l).2 = 0 then ([], some a) else
    ((a, (oneN l).1) :: (scanF k (l.drop (oneN l).2) (a + (oneN l).2)).1, (scanF k (l.drop (oneN l).2) (a + (oneN l).2)).2)
theorem scanF_same : ∀ (k j : Nat) (l : List Nat) (a : Nat), l.length ≤ k → l.length ≤ j → scanF k l a = scanF j l a
  | 0, 0, _, _, _, _ => rfl
  | 0, j + 1, l, a, h, _ => by
    have : l = [] := List.eq_nil_of_length_eq_zero (by omega)
    subst this; simp [scanF]
  | k + 1, 0, l, a, _, h => by
    have : l = [] := List.eq_nil_of_length_eq_zero (by omega)
    subst this; simp [scanF]
  | k + 1, j + 1, l, a, h1, h2 => by
    by_cases hl : l = []
    · subst hl; simp [scanF]
    · have hp := List.length_pos_iff.2 hl
      simp only [scanF, if_neg hl]
      by_cases he : (oneN l).2 = 0
      · simp [he]
      · rw [scanF_same k j _ _ (by simp; omega) (by simp; omega)]
def scan (l : List Nat) (a : Nat) : List (Nat × Nat) × Option Nat := scanF l.length l a
theorem scan_nil (a : Nat) : scan [] a = ([], none) := rfl
theorem scan_step {l : List Nat} (hl : l ≠ []) (a : Nat) : scan l a = if (oneN l).2 = 0 then ([], some a) else
    ((a, (oneN l).1) :: (scan (l.drop (oneN l).2) (a + (oneN l).2)).1, (scan (l.drop (oneN l).2) (a + (oneN l).2)).2) := by
  unfold scan
  obtain ⟨k, hk⟩ : ∃ k, l.length = k + 1 := ⟨l.length - 1, by have := List.length_pos_iff.2 hl; omega⟩
  rw [hk]
  simp only [scanF, if_neg hl]
  by_cases he : (oneN l).2 = 0
  · simp [he]
  · rw [scanF_same k (l.drop (oneN l).2).length _ _ (by simp; omega) (Nat.le_refl _)]
theorem scan_bad {l : List Nat} (hl : l ≠ []) {a : Nat} (h : (oneN l).2 = 0) : scan l a = ([], some a) := by rw [scan_step hl, if_pos h]
theorem scan_good {l : List Nat} (hl : l ≠ []) {a c n : Nat} (h : oneN l = (c, n)) (hn : n ≠ 0) : scan l a = ((a, c) :: (scan (l.drop n) (a + n)).1, (scan (l.drop n) (a + n)).2) := by
  rw [scan_step hl, h, if_neg hn]

/-- Two, one behind the other. -/
theorem scan_append : ∀ (k : Nat) (l m : List Nat) (a : Nat), l.length ≤ k → (∀ x ∈ l, x < 256) → (scan l a).2 = none →
    scan (l ++ m) a = ((scan l a).1 ++ (scan m (a + l.length)).1, (scan m (a + l.length)).2)
  | k, l, m, a, hk, hl, h => by
    by_cases h0 : l = []
    · subst h0; simp [scan_nil]
    obtain ⟨c, n, h1⟩ : ∃ c n, oneN l = (c, n) := ⟨_, _, rfl⟩
    by_cases hn : n = 0
    · rw [scan_bad h0 (by rw [h1]; exact hn)] at h; cases h
    have hle := (put_oneN hl h1 hn).2.2.2
    rw [scan_good h0 h1 hn] at h ⊢
    have hp := List.length_pos_iff.2 h0
    cases k with
    | zero => omega
    | succ k =>
      have ih := scan_append k (l.drop n) m (a + n) (by simp; omega) (fun x hx => hl x (List.mem_of_mem_drop hx)) h
      rw [scan_good (by simp [h0]) (oneN_more hl h1 hn m) hn, List.drop_append_of_le_length hle, ih]
      have e : a + n + (l.drop n).length = a + l.length := by simp; omega
      rw [e]; simp
theorem scan_shift : ∀ (k : Nat) (l : List Nat) (a d : Nat), l.length ≤ k → scan l (a + d) = ((scan l a).1.map (fun x => (x.1 + d, x.2)), (scan l a).2.map (· + d))
  | k, l, a, d, hk => by
    by_cases h0 : l = []
    · subst h0; simp [scan_nil]
    by_cases hn : (oneN l).2 = 0
    · rw [scan_bad h0 hn, scan_bad h0 hn]; simp
    · have hp := List.length_pos_iff.2 h0
      cases k with
      | zero => omega
      | succ k =>
        have ih := scan_shift k (l.drop (oneN l).2) (a + (oneN l).2) d (by simp; omega)
        rw [scan_step h0, scan_step h0, if_neg hn, if_neg hn]
        have e : a + d + (oneN l).2 = a + (oneN l).2 + d := by omega
        rw [e, ih]; simp
theorem scan_len : ∀ (k : Nat) (l : List Nat) (a : Nat), l.length ≤ k → (scan l a).1.length ≤ l.length
  | k, l, a, hk => by
    by_cases h0 : l = []
    · subst h0; simp [scan_nil]
    by_cases hn : (oneN l).2 = 0
    · rw [scan_bad h0 hn]; simp
    · have hp := List.length_pos_iff.2 h0
      cases k with
      | zero => omega
      | succ k =>
        have ih := scan_len k (l.drop (oneN l).2) (a + (oneN l).2) (by simp; omega)
        rw [scan_step h0, if_neg hn]
        simp at ih ⊢; omega
theorem scan_put {c : Nat} (h : isSc c = true) (a : Nat) : scan (putN c) a = ([(a, c)], none) := by
  have h1 := oneN_put h []
  rw [List.append_nil] at h1
  have hw := wid_pos c
  have hne : putN c ≠ [] := by intro h; have := putN_len c; rw [h] at this; simp at this; omega
  rw [scan_good hne h1 (by omega), ← putN_len, List.drop_length, scan_nil]
end Go.Proofs.YtpcfhiipkbpmkaaDoor
