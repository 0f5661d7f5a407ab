/- Ways to write a number, plain (layer 6): with its point elsewhere, and noughts at its ends, it is the same number. -/
import Derived.Test.YthiggalnjjcejaaDoorNuJ
import Derived.Lib.ItoaLen
namespace Go.Proofs.YthiggalnjjcejaaDoor
set_option linter.unusedSimpArgs false
set_option linter.unusedVariables false
open Go.Lib (decDigits)

theorem dec_head : ∀ (u : Nat), u ≠ 0 → (decDigits u).head? ≠ some 48 := by
  intro u
  induction u using Nat.strongRecOn with
  | _ u ih =>
    intro h0
    by_cases h : u < 10
    · rw [Lib.decDigits_one h]
      intro e
      have e2 := Option.some.inj e
      have := congrArg UInt8.toNat e2
      rw [UInt8.toNat_ofNat'] at this
      have h48 : (48 : UInt8).toNat = 48 := rfl
      omega
    · have h1 := ih (u / 10) (by omega) (by omega)
      rw [dec_step h]
      have h2 := dec_ne (u / 10)
      cases h3 : decDigits (u / 10) with
      | nil => exact absurd h3 h2
      | cons c t => rw [h3] at h1; exact h1
theorem trimR_split : ∀ (l : Bs), l = Lib.trimRightB l 48 ++ zeros (l.length - (Lib.trimRightB l 48).length) := by
  intro l
  have key : ∀ n (l : Bs), l.length = n → l = Lib.trimRightB l 48 ++ zeros (l.length - (Lib.trimRightB l 48).length) := by
    intro n
    induction n with
    | zero => intro l hl; rw [List.eq_nil_of_length_eq_zero hl]; rfl
    | succ n ih =>
      intro l hl
      rcases List.eq_nil_or_concat l with h | ⟨a, c, h⟩
      · rw [h]; rfl
      · rw [List.concat_eq_append] at h
        subst h
        rw [trimR_snoc]
        by_cases hc : c = 48
        · rw [if_pos hc]
          have hl2 : a.length = n := by simp at hl; omega
          have h1 := ih a hl2
          have h2 := trimR_le a
          conv => lhs; rw [h1]
          rw [List.append_assoc]
          congr 1
          rw [hc, List.length_append, List.length_singleton, show a.length + 1 - (Lib.trimRightB a 48).length = (a.length - (Lib.trimRightB a 48).length) + 1 by omega, zeros, zeros, List.replicate_succ']
        · rw [if_neg hc]; simp [zeros]
  exact key _ l rfl
theorem trimR_lst (l : Bs) : (Lib.trimRightB l 48).getLast? ≠ some 48 := by
  have key : ∀ n (l : Bs), l.length = n → (Lib.trimRightB l 48).getLast? ≠ some 48 := by
    intro n
    induction n with
    | zero => intro l hl; rw [List.eq_nil_of_length_eq_zero hl]; simp [Lib.trimRightB]
    | succ n ih =>
      intro l hl
      rcases List.eq_nil_or_concat l with h | ⟨a, c, h⟩
      · rw [h]; simp [Lib.trimRightB]
      · rw [List.concat_eq_append] at h
        subst h
        rw [trimR_snoc]
        by_cases hc : c = 48
        · rw [if_pos hc]; exact ih a (by simp at hl; omega)
        · rw [if_neg hc]; simpa using hc
  exact key _ l rfl
theorem trimR_head {l : Bs} (h : l.head? ≠ some 48) (h0 : l ≠ []) : Lib.trimRightB l 48 ≠ [] ∧ (Lib.trimRightB l 48).head? = l.head? := by
  have hs := trimR_split l
  have hn : Lib.trimRightB l 48 ≠ [] := by
    intro e
    rw [e] at hs
    rw [List.nil_append] at hs
    have : l.length - ([] : Bs).length ≠ 0 := by have := len_pos h0; simpa using this
    obtain ⟨k, hk⟩ : ∃ k, l.length - ([] : Bs).length = k + 1 := ⟨_, (Nat.succ_pred this).symm⟩
    rw [hk, zeros, List.replicate_succ] at hs
    rw [hs] at h
    exact h rfl
  refine ⟨hn, ?_⟩
  conv => rhs; rw [hs]
  cases h2 : Lib.trimRightB l 48 with
  | nil => exact absurd h2 hn
  | cons c t => rfl
/-- A number's digits without the noughts behind. -/
def cutD (u : Nat) : Bs := Lib.trimRightB (decDigits u) 48
def cutE (u : Nat) : Int := (((decDigits u).length - (cutD u).length : Nat) : Int)
theorem dec_len {u : Nat} (h : u < 18446744073709551616) : (decDigits u).length ≤ 20 := by
  rw [Lib.decDigits_length]; exact Lib.nDigits_le20 u h
theorem cut_right {u : Nat} (h0 : u ≠ 0) (h : u < 18446744073709551616) : RightD (cutD u) (cutE u) := by
  have hl := dec_len h
  have hh := trimR_head (dec_head u h0) (dec_ne u)
  have hle := trimR_le (decDigits u)
  have hall := dec_all u
  rw [trimR_split (decDigits u), List.all_append, Bool.and_eq_true] at hall
  unfold cutE cutD
  exact ⟨hh.1, hall.1, by rw [hh.2]; exact dec_head u h0, trimR_lst _, by omega, by omega, by omega⟩
theorem cut_split (u : Nat) : decDigits u = cutD u ++ zeros ((decDigits u).length - (cutD u).length) := trimR_split _
/-- What number the digits of u are. -/
def valU (u : Nat) : (Bool × Bs × Int) × Int := if u = 0 then ((false, [], 0), 0) else ((false, cutD u, cutE u), 0)
theorem zeros_app (a b : Nat) : zeros a ++ zeros b = zeros (a + b) := by unfold zeros; rw [List.replicate_append_replicate]
theorem trimL_zero (n : Nat) : Lib.trimLeftB (zeros n) 48 = [] := by
  have := trimL_zeros n []
  rw [List.append_nil] at this
  rw [this]; rfl
theorem dec0 : decDigits 0 = [48] := by rw [Lib.decDigits_one (by omega)]; rfl
/-- Pieces whose digits are u's, with noughts ahead and behind, and a power that makes up for it. -/
theorem val_ways {u : Nat} {ip fr : Bs} {p : Int} (h : u < 18446744073709551616) (k m : Nat) (hd : ip ++ fr = zeros k ++ (decDigits u ++ zeros m)) (hp : p = fr.length - m) : numVal false ip fr p = valU u := by
  by_cases h0 : u = 0
  · subst h0
    have : valC ip fr = [] := by
      rw [valC, valD, hd, dec0, trimL_zeros, show [48] ++ zeros m = zeros (1 + m) from by rw [← zeros_app]; rfl, trimL_zero]; rfl
    rw [numVal, if_pos this, valU, if_pos rfl]
  · rw [valU, if_neg h0]
    refine val_of (z := ((decDigits u).length - (cutD u).length) + m) (cut_right h0 h) ?_ ?_
    · rw [valD, hd, trimL_zeros]
      have hh : (decDigits u ++ zeros m).head? = (decDigits u).head? := by
        have := dec_ne u
        cases h2 : decDigits u with
        | nil => exact absurd h2 this
        | cons c t => rfl
      rw [trimL_head (by rw [hh]; exact dec_head u h0)]
      conv => lhs; rw [cut_split u]
      rw [List.append_assoc, zeros_app]
    · rw [hp, cutE]; omega
section
variable {u : Nat} (h : u < 4294967296)
include h
theorem dec_lead : (decDigits u).head? = some 48 → (decDigits u).length = 1 := by
  intro e
  by_cases h0 : u = 0
  · subst h0; rw [dec0]; rfl
  · exact absurd e (dec_head u h0)
theorem way_a : NumTxt (decDigits u) false (decDigits u) [] [] [] [] ∧ numVal false (decDigits u) [] (powP [] []) = valU u :=
  ⟨⟨by simp, dec_all u, rfl, rfl, dec_ne u, dec_lead h, .inl ⟨rfl, rfl, rfl⟩⟩, val_ways (by omega) 0 0 (by simp [zeros]) (by simp [powP, sgn])⟩
theorem way_b (m : Nat) (hm : m ≤ 8) : NumTxt ([48, 46] ++ (zeros m ++ (decDigits u ++ (zeros m ++ 101 :: decDigits ((decDigits u).length + m))))) false [48] (zeros m ++ (decDigits u ++ zeros m)) [101] [] (decDigits ((decDigits u).length + m)) ∧
    numVal false [48] (zeros m ++ (decDigits u ++ zeros m)) (powP [] (decDigits ((decDigits u).length + m))) = valU u := by
  have hne : zeros m ++ (decDigits u ++ zeros m) ≠ [] := by simp [dec_ne u]
  have hl := dec_len (u := u) (by omega)
  refine ⟨⟨by rw [if_neg hne]; simp, rfl, by rw [List.all_append, List.all_append, zeros_all, dec_all]; rfl, dec_all _, by simp, fun _ => rfl, .inr ⟨.inl rfl, .inl rfl, dec_ne _⟩⟩, ?_⟩
  refine val_ways (by omega) (m + 1) m ?_ ?_
  · rw [← List.append_assoc, show [48] ++ zeros m = zeros (m + 1) from by rw [Nat.add_comm, ← zeros_app]; rfl]
  · rw [powP_dec [] _ (by omega), sgn, if_neg (by simp), List.length_append, List.length_append, zeros, List.length_replicate]
    omega
theorem way_c (m : Nat) (hm : m ≤ 8) (hz : u ≠ 0 ∨ m = 0) : NumTxt (decDigits u ++ (zeros m ++ 69 :: 45 :: decDigits m)) false (decDigits u ++ zeros m) [] [69] [45] (decDigits m) ∧
    numVal false (decDigits u ++ zeros m) [] (powP [45] (decDigits m)) = valU u := by
  have hhead : (decDigits u ++ zeros m).head? = (decDigits u).head? := by
    have := dec_ne u
    cases h2 : decDigits u with
    | nil => exact absurd h2 this
    | cons c t => rfl
  refine ⟨⟨by simp, by rw [List.all_append, zeros_all, dec_all]; rfl, rfl, dec_all _, by simp [dec_ne u], fun e => ?_, .inr ⟨.inr rfl, .inr (.inr rfl), dec_ne _⟩⟩, ?_⟩
  · rw [hhead] at e
    rcases hz with hz | hz
    · exact absurd e (dec_head u hz)
    · rw [hz, List.length_append, dec_lead h e]; rfl
  · refine val_ways (by omega) 0 m (by simp [zeros]) ?_
    rw [powP_dec [45] _ (by omega), sgn, if_pos rfl]
    simp
theorem way_d (k : Nat) (hk : 0 < k) (hk2 : k < (decDigits u).length) : NumTxt ((decDigits u).take k ++ 46 :: ((decDigits u).drop k ++ 101 :: 43 :: decDigits ((decDigits u).length - k))) false ((decDigits u).take k) ((decDigits u).drop k) [101] [43] (decDigits ((decDigits u).length - k)) ∧
    numVal false ((decDigits u).take k) ((decDigits u).drop k) (powP [43] (decDigits ((decDigits u).length - k))) = valU u := by
  have hl := dec_len (u := u) (by omega)
  have hu : u ≠ 0 := by
    rintro rfl
    rw [dec0] at hk2
    simp at hk2
    omega
  have hfr : (decDigits u).drop k ≠ [] := by
    intro e
    have h1 : ((decDigits u).drop k).length = (decDigits u).length - k := List.length_drop ..
    rw [e, List.length_nil] at h1
    omega
  have hip : (decDigits u).take k ≠ [] := by
    intro e
    have h1 : ((decDigits u).take k).length = k := by rw [List.length_take]; omega
    rw [e, List.length_nil] at h1
    omega
  have hall := dec_all u
  rw [List.all_eq_true] at hall
  have hhd : ((decDigits u).take k).head? = (decDigits u).head? := by
    obtain ⟨j, rfl⟩ : ∃ j, k = j + 1 := ⟨k - 1, by omega⟩
    cases h2 : decDigits u with
    | nil => exact absurd h2 (dec_ne u)
    | cons c t => rfl
  refine ⟨⟨by rw [if_neg hfr]; simp, List.all_eq_true.2 (fun x hx => hall x (List.mem_of_mem_take hx)), List.all_eq_true.2 (fun x hx => hall x (List.mem_of_mem_drop hx)), dec_all _, hip, fun e => ?_, .inr ⟨.inl rfl, .inr (.inl rfl), dec_ne _⟩⟩, ?_⟩
  · rw [hhd] at e; exact absurd e (dec_head u hu)
  · refine val_ways (by omega) 0 0 ?_ ?_
    · rw [List.take_append_drop]; simp [zeros]
    · rw [powP_dec [43] _ (by omega), sgn, if_neg (by decide), List.length_drop]; omega
end
/-- A nought with noughts behind is no number's text. -/
theorem way_bad (m : Nat) (hm : m ≠ 0) : scanN (decDigits 0 ++ (zeros m ++ 69 :: 45 :: decDigits m)) ≠ (decDigits 0 ++ (zeros m ++ 69 :: 45 :: decDigits m)).length := by
  obtain ⟨k, rfl⟩ : ∃ k, m = k + 1 := ⟨m - 1, by omega⟩
  rw [dec0, zeros, List.replicate_succ]
  have e : [48] ++ (48 :: List.replicate k 48 ++ 69 :: 45 :: decDigits (k + 1)) = 48 :: 48 :: (List.replicate k 48 ++ 69 :: 45 :: decDigits (k + 1)) := rfl
  have : scanN (48 :: 48 :: (List.replicate k 48 ++ 69 :: 45 :: decDigits (k + 1))) = 1 := by
    simp [scanN, mnS, intS, tailS, fracS, powS]
  rw [e, this]
  simp
end Go.Proofs.YthiggalnjjcejaaDoor
