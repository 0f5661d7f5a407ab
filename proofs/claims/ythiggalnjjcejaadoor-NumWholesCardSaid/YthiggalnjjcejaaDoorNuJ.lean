/- A number's print, plain (layer 6): it is a number's text, and that number. -/
import Derived.Test.YthiggalnjjcejaaDoorNuX
import Derived.Lib.ItoaMem
namespace Go.Proofs.YthiggalnjjcejaaDoor
set_option linter.unusedSimpArgs false
set_option linter.unusedVariables false
open Go.Lib (decDigits itoa nDigits)

def front (neg : Bool) : Bs := if neg then [45] else []
def zeros (n : Nat) : Bs := List.replicate n 48
/-- The print of a number that is right. -/
def printN (neg : Bool) (d : Bs) (e : Int) : Bs :=
  if d = [] then [48] else
  if 0 ≤ e ∧ e ≤ 20 then front neg ++ (d ++ zeros e.toNat)
  else if e < -20 ∨ 20 < e then front neg ++ (d ++ 101 :: itoa e)
  else if -e < d.length then front neg ++ (d.take (d.length - (-e).toNat) ++ 46 :: d.drop (d.length - (-e).toNat))
  else front neg ++ ([48, 46] ++ (zeros ((-e).toNat - d.length) ++ d))

theorem dec_step {u : Nat} (h : ¬ u < 10) : decDigits u = decDigits (u / 10) ++ [UInt8.ofNat (48 + u % 10)] := by
  rw [decDigits, dif_neg h]
theorem dg_ofNat (k : Nat) (h : k < 10) : dg (UInt8.ofNat (48 + k)) = true := by
  have : (UInt8.ofNat (48 + k)).toNat = 48 + k := by rw [UInt8.toNat_ofNat']; omega
  rw [dg, dig, this]
  simp; omega
theorem val_ofNat (k : Nat) (h : k < 10) : (UInt8.ofNat (48 + k)).toNat - 48 = k := by
  have : (UInt8.ofNat (48 + k)).toNat = 48 + k := by rw [UInt8.toNat_ofNat']; omega
  omega
theorem dec_all : ∀ (u : Nat), (decDigits u).all dg = true := by
  intro u
  induction u using Nat.strongRecOn with
  | _ u ih =>
    by_cases h : u < 10
    · rw [Lib.decDigits_one h]
      simp only [List.all_cons, List.all_nil, Bool.and_true]
      exact dg_ofNat u h
    · rw [dec_step h, List.all_append, ih (u / 10) (by omega)]
      simp only [List.all_cons, List.all_nil, Bool.and_true, Bool.true_and]
      exact dg_ofNat _ (by omega)
theorem dec_ne (u : Nat) : decDigits u ≠ [] := by
  intro h
  have := congrArg List.length h
  rw [Lib.decDigits_length] at this
  have h2 := Lib.nDigits_pos u
  simp at this
  omega
/-- What number digits are. -/
def numOf (l : Bs) : Nat := l.foldl (fun n c => n * 10 + (c.toNat - 48)) 0
theorem dec_num : ∀ (u : Nat), numOf (decDigits u) = u := by
  intro u
  induction u using Nat.strongRecOn with
  | _ u ih =>
    by_cases h : u < 10
    · rw [Lib.decDigits_one h, numOf, List.foldl_cons, List.foldl_nil, val_ofNat u h]; omega
    · have ih := ih (u / 10) (by omega)
      rw [numOf] at ih ⊢
      rw [dec_step h, List.foldl_append, ih, List.foldl_cons, List.foldl_nil, val_ofNat _ (by omega)]
      omega
theorem foldP_num : ∀ (l : Bs) (a : Nat), l.foldl (fun n c => n * 10 + (c.toNat - 48)) a ≤ 1099511627776 → l.foldl addP a = l.foldl (fun n c => n * 10 + (c.toNat - 48)) a
  | [], _, _ => rfl
  | c :: l, a, h => by
    have mono : ∀ (l : Bs) (a : Nat), a ≤ l.foldl (fun n c => n * 10 + (c.toNat - 48)) a := by
      intro l
      induction l with
      | nil => intro a; exact Nat.le_refl _
      | cons c l ih => intro a; exact Nat.le_trans (show a ≤ a * 10 + (c.toNat - 48) by omega) (ih _)
    rw [List.foldl_cons] at h ⊢
    have h1 := mono l (a * 10 + (c.toNat - 48))
    have h2 : addP a c = a * 10 + (c.toNat - 48) := by unfold addP; omega
    rw [h2, List.foldl_cons, foldP_num l _ h]
theorem powP_dec (sg : Bs) (u : Nat) (h : u ≤ 1099511627776) : powP sg (decDigits u) = sgn sg u := by
  have h2 := dec_num u
  rw [numOf] at h2
  rw [powP, foldP_num _ 0 (by rw [h2]; exact h), h2]
theorem itoa_split (e : Int) : ∃ sg : Bs, itoa e = sg ++ decDigits e.natAbs ∧ (sg = [] ∧ 0 ≤ e ∨ sg = [45] ∧ e < 0) := by
  unfold itoa
  by_cases h : e < 0
  · rw [if_pos h]; exact ⟨[45], rfl, .inr ⟨rfl, h⟩⟩
  · rw [if_neg h]; exact ⟨[], by rw [show e.natAbs = e.toNat by omega]; rfl, .inl ⟨rfl, by omega⟩⟩

/-- What being right asks of digits. -/
structure RightD (d : Bs) (e : Int) : Prop where
  ne : d ≠ []
  all : d.all dg = true
  fst : d.head? ≠ some 48
  lst : d.getLast? ≠ some 48
  len : d.length ≤ 1000
  e1 : -10000 ≤ e
  e2 : e ≤ 10000
theorem trimL_head {d : Bs} (h : d.head? ≠ some 48) : Lib.trimLeftB d 48 = d := by
  unfold Lib.trimLeftB
  cases d with
  | nil => rfl
  | cons c d =>
    have : (c == 48) = false := by rw [beq_eq_false_iff_ne]; intro e; exact h (by rw [e]; rfl)
    rw [List.dropWhile_cons, this]; rfl
theorem trimL_zeros (n : Nat) (d : Bs) : Lib.trimLeftB (zeros n ++ d) 48 = Lib.trimLeftB d 48 := by
  unfold Lib.trimLeftB zeros
  induction n with
  | zero => rfl
  | succ n ih => rw [List.replicate_succ, List.cons_append, List.dropWhile_cons]; exact ih
theorem trimR_last {d : Bs} (h : d.getLast? ≠ some 48) : Lib.trimRightB d 48 = d := by
  have h2 : d.reverse.head? ≠ some 48 := by rw [List.head?_reverse]; exact h
  have := trimL_head h2
  unfold Lib.trimLeftB at this
  unfold Lib.trimRightB
  rw [this, List.reverse_reverse]
theorem trimR_zeros (n : Nat) (d : Bs) : Lib.trimRightB (d ++ zeros n) 48 = Lib.trimRightB d 48 := by
  have := trimL_zeros n d.reverse
  unfold Lib.trimLeftB zeros at this
  unfold Lib.trimRightB zeros
  rw [List.reverse_append, List.reverse_replicate, this]
theorem zeros_all (n : Nat) : (zeros n).all dg = true := by
  unfold zeros
  rw [List.all_eq_true]
  intro x hx
  rw [List.eq_of_mem_replicate hx]; rfl
theorem numR_list {neg : Bool} {d : Bs} {e : Int} (h : numR neg (strL d) e = true) : (d = [] ∧ neg = false ∧ e = 0) ∨ RightD d e := by
  have hs := size_strL d
  have hb : bs (strL d) = d.map UInt8.toNat := rfl
  unfold numR at h
  split at h
  · next h0 =>
    refine .inl ⟨List.eq_nil_of_length_eq_zero (by omega), ?_⟩
    simpa using h
  · next h0 =>
    split at h
    · cases h
    · next h1 =>
      rw [Bool.and_eq_true, Bool.and_eq_true, decide_eq_true_eq, decide_eq_true_eq, hb, hs] at h
      obtain ⟨h2, h3, h4⟩ := h
      have hne : d ≠ [] := fun e => h0 (by rw [hs, e]; rfl)
      refine .inr ⟨hne, ?_, fun e => ?_, fun e => ?_, by omega, by omega, by omega⟩
      · rw [List.all_map] at h2; exact h2
      · refine h3 ?_
        rw [List.getElem?_map, ← List.head?_eq_getElem?, e]; rfl
      · refine h4 ?_
        rw [List.getElem?_map, ← List.getLast?_eq_getElem?, e]; rfl
theorem numR_of {neg : Bool} {d : Bs} {e : Int} (h : RightD d e) : numR neg (strL d) e = true := by
  have hs := size_strL d
  have hb : bs (strL d) = d.map UInt8.toNat := rfl
  have hl := len_pos h.ne
  have h1 := h.len
  have h2 := h.e1
  have h3 := h.e2
  unfold numR
  rw [if_neg (by omega), if_neg (by omega), Bool.and_eq_true, Bool.and_eq_true, decide_eq_true_eq, decide_eq_true_eq, hb, hs]
  refine ⟨by rw [List.all_map]; exact h.all, fun e => ?_, fun e => ?_⟩
  · rw [List.getElem?_map, ← List.head?_eq_getElem?] at e
    obtain ⟨c, hc, h5⟩ := Option.map_eq_some_iff.1 e
    exact h.fst (by rw [hc, UInt8.toNat_inj.1 (show c.toNat = (48 : UInt8).toNat from h5)])
  · rw [List.getElem?_map, ← List.getLast?_eq_getElem?] at e
    obtain ⟨c, hc, h5⟩ := Option.map_eq_some_iff.1 e
    exact h.lst (by rw [hc, UInt8.toNat_inj.1 (show c.toNat = (48 : UInt8).toNat from h5)])
/-- Pieces whose digits, trimmed, are those of a number that is right: they are that number. -/
theorem val_of {neg : Bool} {ip fr d : Bs} {p e : Int} {z : Nat} (h : RightD d e) (hd : valD ip fr = d ++ zeros z) (he : p - fr.length + z = e) : numVal neg ip fr p = ((neg, d, e), 0) := by
  have hc : valC ip fr = d := by rw [valC, hd, trimR_zeros, trimR_last h.lst]
  have hE : valE ip fr p = e := by
    rw [valE, hc, hd, List.length_append, zeros, List.length_replicate, ← he]
    congr 1
    omega
  rw [numVal, hc, if_neg h.ne, hE, show (⟨d.toArray⟩ : ByteArray) = strL d from rfl, if_pos (numR_of h)]
theorem front_eq (neg : Bool) : (if neg then [45] else []) = front neg := rfl
/-- The print of a number that is right is its text. -/
theorem print_num {neg : Bool} {d : Bs} {e : Int} (h : RightD d e) : ∃ ip fr mk sg pw, NumTxt (printN neg d e) neg ip fr mk sg pw ∧ numVal neg ip fr (powP sg pw) = ((neg, d, e), 0) := by
  have hne := h.ne
  have hl := len_pos hne
  have e1 := h.e1
  have e2 := h.e2
  unfold printN
  rw [if_neg hne]
  by_cases hA : 0 ≤ e ∧ e ≤ 20
  · rw [if_pos hA]
    have hhd : (d ++ zeros e.toNat).head? = d.head? := by cases d with | nil => exact absurd rfl hne | cons => rfl
    refine ⟨d ++ zeros e.toNat, [], [], [], [], ⟨by simp [front], by rw [List.all_append, h.all, zeros_all]; rfl, rfl, rfl, by simp [hne], fun e0 => ?_, .inl ⟨rfl, rfl, rfl⟩⟩, ?_⟩
    · rw [hhd] at e0; exact absurd e0 h.fst
    · refine val_of (z := e.toNat) h ?_ ?_
      · rw [valD, List.append_nil, trimL_head (by rw [hhd]; exact h.fst)]
      · simp [powP, sgn]; omega
  rw [if_neg hA]
  by_cases hB : e < -20 ∨ 20 < e
  · rw [if_pos hB]
    obtain ⟨sg, hs, hsg⟩ := itoa_split e
    have hp : powP sg (decDigits e.natAbs) = e := by
      rw [powP_dec sg _ (by omega), sgn]
      rcases hsg with ⟨rfl, h1⟩ | ⟨rfl, h1⟩
      · simp; omega
      · simp; omega
    refine ⟨d, [], [101], sg, decDigits e.natAbs, ⟨by simp [front, hs], h.all, rfl, dec_all _, hne, fun e0 => absurd e0 h.fst, .inr ⟨.inl rfl, ?_, dec_ne _⟩⟩, ?_⟩
    · rcases hsg with ⟨rfl, _⟩ | ⟨rfl, _⟩ <;> simp
    · refine val_of (z := 0) h ?_ ?_
      · rw [valD, List.append_nil, trimL_head h.fst]; simp [zeros]
      · rw [hp]; simp
  rw [if_neg hB]
  by_cases hC : -e < d.length
  · rw [if_pos hC]
    have hm : (-e).toNat < d.length ∧ 0 < (-e).toNat := by omega
    have hfr : d.drop (d.length - (-e).toNat) ≠ [] := by
      intro e0
      have := congrArg List.length e0
      simp at this
      omega
    have hip : d.take (d.length - (-e).toNat) ≠ [] := by
      intro e0
      have := congrArg List.length e0
      simp at this
      omega
    have hhd : (d.take (d.length - (-e).toNat)).head? = d.head? := by
      cases d with
      | nil => exact absurd rfl hne
      | cons c t =>
        obtain ⟨k, hk⟩ : ∃ k, (c :: t).length - (-e).toNat = k + 1 := ⟨(c :: t).length - (-e).toNat - 1, by omega⟩
        rw [hk]; rfl
    have hall := h.all
    refine ⟨d.take (d.length - (-e).toNat), d.drop (d.length - (-e).toNat), [], [], [], ⟨by rw [if_neg hfr]; simp [front], ?_, ?_, rfl, hip, fun e0 => ?_, .inl ⟨rfl, rfl, rfl⟩⟩, ?_⟩
    · rw [List.all_eq_true] at hall ⊢; exact fun x hx => hall x (List.mem_of_mem_take hx)
    · rw [List.all_eq_true] at hall ⊢; exact fun x hx => hall x (List.mem_of_mem_drop hx)
    · rw [hhd] at e0; exact absurd e0 h.fst
    · refine val_of (z := 0) h ?_ ?_
      · rw [valD, List.take_append_drop, trimL_head h.fst]; simp [zeros]
      · have hlen : (d.drop (d.length - (-e).toNat)).length = (-e).toNat := by rw [List.length_drop]; omega
        rw [hlen]
        have : powP [] [] = 0 := rfl
        rw [this]; omega
  · rw [if_neg hC]
    have hfr : zeros ((-e).toNat - d.length) ++ d ≠ [] := by simp [hne]
    refine ⟨[48], zeros ((-e).toNat - d.length) ++ d, [], [], [], ⟨by rw [if_neg hfr]; simp [front], rfl, by rw [List.all_append, h.all, zeros_all]; rfl, rfl, by simp, fun _ => rfl, .inl ⟨rfl, rfl, rfl⟩⟩, ?_⟩
    refine val_of (z := 0) h ?_ ?_
    · have : [48] ++ (zeros ((-e).toNat - d.length) ++ d) = zeros ((-e).toNat - d.length + 1) ++ d := by
        rw [zeros, zeros, List.replicate_succ]; rfl
      rw [valD, this, trimL_zeros, trimL_head h.fst]; simp [zeros]
    · have hlen : (zeros ((-e).toNat - d.length) ++ d).length = (-e).toNat := by rw [List.length_append, zeros, List.length_replicate]; omega
      rw [hlen]
      have : powP [] [] = 0 := rfl
      rw [this]; omega
theorem print_nought : NumTxt (printN false [] 0) false [48] [] [] [] [] ∧ numVal false [48] [] (powP [] []) = ((false, [], 0), 0) :=
  ⟨⟨rfl, rfl, rfl, rfl, by simp, fun _ => rfl, .inl ⟨rfl, rfl, rfl⟩⟩, rfl⟩
end Go.Proofs.YthiggalnjjcejaaDoor
