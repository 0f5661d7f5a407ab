/- Comparing two numbers' sizes power by power, plain (layer 6): it is comparing their digits. -/
import Derived.Test.YthiggalnjjcejaaDoorNuD
namespace Go.Proofs.YthiggalnjjcejaaDoor
set_option linter.unusedSimpArgs false
set_option linter.unusedVariables false

/-- The first place, from the top, at which two rows of digits differ. -/
def sF (f g : Nat → UInt8) : Nat → Int
  | 0 => 0
  | m + 1 => if f m < g m then -1 else if g m < f m then 1 else sF f g m
theorem sF_step {f g : Nat → UInt8} {m : Nat} (h : f m = g m) : sF f g (m + 1) = sF f g m := by
  have : ¬ f m < f m := by rw [UInt8.lt_iff_toNat_lt]; omega
  rw [sF, ← h, if_neg this, if_neg this]
theorem sF_skip {f g : Nat → UInt8} {k : Nat} : ∀ (m : Nat), k ≤ m → (∀ j, k ≤ j → j < m → f j = g j) → sF f g m = sF f g k
  | 0, h, _ => by rw [show k = 0 by omega]
  | m + 1, h, hj => by
    by_cases hk : k = m + 1
    · rw [hk]
    · rw [sF_step (hj m (by omega) (by omega)), sF_skip m (by omega) (fun j h1 h2 => hj j h1 (by omega))]
theorem sF_lists (f g : Nat → UInt8) : ∀ (m : Nat) (a b : Bs), a.length ≤ m → b.length ≤ m → (∀ i, i < m → f (m - 1 - i) = a.getD i 48) → (∀ i, i < m → g (m - 1 - i) = b.getD i 48) →
    a.all dg = true → b.all dg = true → a.getLast? ≠ some 48 → b.getLast? ≠ some 48 → sF f g m = Lib.compareBytes a b
  | 0, a, b, ha, hb, _, _, _, _, _, _ => by
    rw [List.eq_nil_of_length_eq_zero (Nat.le_zero.1 ha), List.eq_nil_of_length_eq_zero (Nat.le_zero.1 hb)]; rfl
  | m + 1, a, b, ha, hb, hf, hg, da, db, la, lb => by
    have hf0 := hf 0 (by omega)
    have hg0 := hg 0 (by omega)
    simp only [Nat.add_sub_cancel, Nat.sub_zero] at hf0 hg0
    have hfs : ∀ i, i < m → f (m - 1 - i) = a.tail.getD i 48 := fun i hi => by
      have := hf (i + 1) (by omega)
      rw [show m + 1 - 1 - (i + 1) = m - 1 - i by omega] at this
      rw [this]
      cases a <;> rfl
    have hgs : ∀ i, i < m → g (m - 1 - i) = b.tail.getD i 48 := fun i hi => by
      have := hg (i + 1) (by omega)
      rw [show m + 1 - 1 - (i + 1) = m - 1 - i by omega] at this
      rw [this]
      cases b <;> rfl
    have tl : ∀ {x : UInt8} {l : Bs}, (x :: l).all dg = true → l.all dg = true := fun h => by rw [List.all_cons, Bool.and_eq_true] at h; exact h.2
    have ll : ∀ {x : UInt8} {l : Bs}, (x :: l).getLast? ≠ some 48 → l.getLast? ≠ some 48 := fun {x l} h e => by
      cases l with
      | nil => simp at e
      | cons y l => rw [List.getLast?_cons_cons] at h; exact h e
    have ge : ∀ {x : UInt8} {l : Bs}, (x :: l).all dg = true → ¬ x < 48 := fun h => by
      rw [List.all_cons, Bool.and_eq_true] at h
      have := dg_lt h.1
      rw [UInt8.lt_iff_toNat_lt]
      show ¬ _ < 48
      omega
    have gt : ∀ {x : UInt8}, x ≠ 48 → ¬ x < 48 → 48 < x := fun h1 h2 => by
      rw [UInt8.lt_iff_toNat_lt] at *
      have : (48 : UInt8).toNat = 48 := rfl
      have h3 : _ ≠ (48 : UInt8).toNat := fun e => h1 (UInt8.toNat_inj.1 e)
      omega
    cases a with
    | nil =>
      cases b with
      | nil =>
        have ih := sF_lists f g m [] [] (by simp) (by simp) hfs hgs rfl rfl (by simp) (by simp)
        rw [sF_step (by rw [hf0, hg0]), ih]
      | cons y b =>
        simp only [List.getD_nil, List.getD_cons_zero] at hf0 hg0
        by_cases hy : y = 48
        · have hbn : b ≠ [] := fun e => lb (by rw [e, hy]; rfl)
          have ih := sF_lists f g m [] b (by simp) (by simp at hb; omega) hfs hgs rfl (tl db) (by simp) (ll lb)
          rw [sF_step (by rw [hf0, hg0, hy]), ih]
          cases b with
          | nil => exact absurd rfl hbn
          | cons => rfl
        · rw [sF, hf0, hg0, if_pos (gt hy (ge db))]; rfl
    | cons x a =>
      simp only [List.getD_cons_zero] at hf0
      cases b with
      | nil =>
        simp only [List.getD_nil] at hg0
        by_cases hx : x = 48
        · have han : a ≠ [] := fun e => la (by rw [e, hx]; rfl)
          have ih := sF_lists f g m a [] (by simp at ha; omega) (by simp) hfs hgs (tl da) rfl (ll la) (by simp)
          rw [sF_step (by rw [hf0, hg0, hx]), ih]
          cases a with
          | nil => exact absurd rfl han
          | cons => rfl
        · rw [sF, hf0, hg0, if_neg (ge da), if_pos (gt hx (ge da))]; rfl
      | cons y b =>
        simp only [List.getD_cons_zero] at hg0
        have ih := sF_lists f g m a b (by simp at ha; omega) (by simp at hb; omega) hfs hgs (tl da) (tl db) (ll la) (ll lb)
        rw [sF, hf0, hg0, ih]
        simp only [Lib.compareBytes]

/-- A number's digit at a power of ten. -/
def atN (d : Bs) (e p : Int) : UInt8 := if (d.length : Int) - 1 - (p - e) < 0 then 48 else d.getD ((d.length : Int) - 1 - (p - e)).toNat 48
def sizeN (d1 : Bs) (e1 : Int) (d2 : Bs) (e2 : Int) (m : Nat) : Int := sF (fun j => atN d1 e1 ((j : Int) - 10000)) (fun j => atN d2 e2 ((j : Int) - 10000)) m
theorem atN_above {d : Bs} {e p : Int} (h : (d.length : Int) + e ≤ p) : atN d e p = 48 := by rw [atN, if_pos (by omega)]
theorem atN_at {d : Bs} {e p : Int} {i : Nat} (h : p = (d.length : Int) + e - 1 - i) : atN d e p = d.getD i 48 := by
  rw [atN, if_neg (by omega)]
  congr 1
  omega
theorem atN_nil (e p : Int) : atN [] e p = 48 := by unfold atN; split <;> simp
theorem RightD.top {d : Bs} {e : Int} (h : RightD d e) : (48 : UInt8) < d.getD 0 48 := by
  have h1 := h.fst
  have h2 := h.all
  have h3 := h.ne
  cases d with
  | nil => exact absurd rfl h3
  | cons c d =>
    rw [List.getD_cons_zero]
    have hc := dg_lt (all_head h2 (c := c) rfl)
    have hn : c.toNat ≠ (48 : UInt8).toNat := fun e => h1 (by rw [UInt8.toNat_inj.1 e]; rfl)
    have h48 : (48 : UInt8).toNat = 48 := rfl
    rw [UInt8.lt_iff_toNat_lt]
    omega
theorem not_lt_of {a b : UInt8} (h : a < b) : ¬ b < a := by rw [UInt8.lt_iff_toNat_lt] at *; omega
/-- The sizes of two numbers that are right, neither of them nought. -/
theorem size_mag {d1 : Bs} {e1 : Int} {d2 : Bs} {e2 : Int} (h1 : RightD d1 e1) (h2 : RightD d2 e2) : sizeN d1 e1 d2 e2 21002 = magN (strL d1) e1 (strL d2) e2 := by
  have l1 := h1.len
  have l2 := h2.len
  have a1 := h1.e1
  have a2 := h1.e2
  have b1 := h2.e1
  have b2 := h2.e2
  have p1 := len_pos h1.ne
  have p2 := len_pos h2.ne
  unfold magN sizeN
  rw [size_strL, size_strL]
  by_cases c1 : (d1.length : Int) + e1 < d2.length + e2
  · rw [if_pos c1]
    obtain ⟨k, hk⟩ : ∃ k : Nat, (k : Int) = d2.length + e2 - 1 + 10000 := ⟨(d2.length + e2 - 1 + 10000).toNat, by omega⟩
    rw [sF_skip (k := k + 1) 21002 (by omega) (fun j hj _ => by rw [atN_above (by omega), atN_above (by omega)]), sF]
    rw [atN_above (by omega), atN_at (i := 0) (by omega), if_pos h2.top]
  · rw [if_neg c1]
    by_cases c2 : (d2.length : Int) + e2 < d1.length + e1
    · rw [if_pos c2]
      obtain ⟨k, hk⟩ : ∃ k : Nat, (k : Int) = d1.length + e1 - 1 + 10000 := ⟨(d1.length + e1 - 1 + 10000).toNat, by omega⟩
      rw [sF_skip (k := k + 1) 21002 (by omega) (fun j hj _ => by rw [atN_above (by omega), atN_above (by omega)]), sF]
      rw [atN_at (d := d1) (i := 0) (by omega), atN_above (by omega), if_neg (not_lt_of h1.top), if_pos h1.top]
    · rw [if_neg c2]
      obtain ⟨k, hk⟩ : ∃ k : Nat, (k : Int) = d1.length + e1 + 10000 := ⟨(d1.length + e1 + 10000).toNat, by omega⟩
      rw [sF_skip (k := k) 21002 (by omega) (fun j hj _ => by rw [atN_above (by omega), atN_above (by omega)])]
      exact sF_lists _ _ k d1 d2 (by omega) (by omega) (fun i hi => by rw [atN_at (i := i) (by omega)]) (fun i hi => by rw [atN_at (i := i) (by omega)]) h1.all h2.all h1.lst h2.lst
theorem size_nil_l {d2 : Bs} {e1 e2 : Int} (h2 : RightD d2 e2) : sizeN [] e1 d2 e2 21002 = -1 := by
  have l2 := h2.len
  have b1 := h2.e1
  have b2 := h2.e2
  have p2 := len_pos h2.ne
  obtain ⟨k, hk⟩ : ∃ k : Nat, (k : Int) = d2.length + e2 - 1 + 10000 := ⟨(d2.length + e2 - 1 + 10000).toNat, by omega⟩
  unfold sizeN
  rw [sF_skip (k := k + 1) 21002 (by omega) (fun j hj _ => by rw [atN_nil, atN_above (by omega)]), sF, atN_nil, atN_at (i := 0) (by omega), if_pos h2.top]
theorem size_nil_r {d1 : Bs} {e1 e2 : Int} (h1 : RightD d1 e1) : sizeN d1 e1 [] e2 21002 = 1 := by
  have l2 := h1.len
  have b1 := h1.e1
  have b2 := h1.e2
  have p2 := len_pos h1.ne
  obtain ⟨k, hk⟩ : ∃ k : Nat, (k : Int) = d1.length + e1 - 1 + 10000 := ⟨(d1.length + e1 - 1 + 10000).toNat, by omega⟩
  unfold sizeN
  rw [sF_skip (k := k + 1) 21002 (by omega) (fun j hj _ => by rw [atN_nil, atN_above (by omega)]), sF, atN_nil, atN_at (i := 0) (by omega), if_neg (not_lt_of h1.top), if_pos h1.top]
theorem size_nil (e1 e2 : Int) : sizeN [] e1 [] e2 21002 = 0 := by
  unfold sizeN
  rw [sF_skip (k := 0) 21002 (by omega) (fun j hj _ => by rw [atN_nil, atN_nil]), sF]
/-- What the reference's Compare says. -/
def cmpR (n1 : Bool) (d1 : Bs) (e1 : Int) (n2 : Bool) (d2 : Bs) (e2 : Int) : Int :=
  if n1 && n2 then sizeN d2 e2 d1 e1 21002 else if n1 then -1 else if n2 then 1 else sizeN d1 e1 d2 e2 21002
theorem side_nil (n : Bool) : sideN n (strL []) = 0 := rfl
theorem side_ne {n : Bool} {d : Bs} (h : d ≠ []) : sideN n (strL d) = if n then -1 else 1 := by
  rw [sideN, if_neg (by rw [size_strL]; exact len_pos h)]
theorem cmpR_eq {n1 : Bool} {d1 : Bs} {e1 : Int} {n2 : Bool} {d2 : Bs} {e2 : Int} (h1 : numR n1 (strL d1) e1 = true) (h2 : numR n2 (strL d2) e2 = true) : cmpR n1 d1 e1 n2 d2 e2 = cmpN n1 (strL d1) e1 n2 (strL d2) e2 := by
  unfold cmpR cmpN
  rcases numR_list h1 with ⟨rfl, rfl, rfl⟩ | r1
  · rcases numR_list h2 with ⟨rfl, rfl, rfl⟩ | r2
    · rw [size_nil]; simp [side_nil]
    · rw [side_nil, side_ne r2.ne, size_nil_l r2]
      cases n2 <;> simp
  · rcases numR_list h2 with ⟨rfl, rfl, rfl⟩ | r2
    · rw [side_nil, side_ne r1.ne, size_nil_r r1]
      cases n1 <;> simp
    · rw [side_ne r1.ne, side_ne r2.ne, size_mag r1 r2, size_mag r2 r1, mag_anti]
      cases n1 <;> cases n2 <;> simp
end Go.Proofs.YthiggalnjjcejaaDoor
