/- The pieces of numbers' texts, plain (layer 6): a text that is read whole parts into its pieces, and only such a one; what number the pieces are. -/
import Derived.Test.YthiggalnjjcejaaDoorNuG
import Derived.Lib.TrimByte
namespace Go.Proofs.YthiggalnjjcejaaDoor
set_option linter.unusedSimpArgs false
set_option linter.unusedVariables false

/-- l is a number's text of these pieces: a minus, the digits ahead of the point and behind it, the mark, the power's sign and its digits. -/
structure NumTxt (l : Bs) (neg : Bool) (ip fr mk sg pw : Bs) : Prop where
  eq : l = (if neg then [45] else []) ++ (ip ++ ((if fr = [] then [] else 46 :: fr) ++ (mk ++ (sg ++ pw))))
  dip : ip.all dg = true
  dfr : fr.all dg = true
  dpw : pw.all dg = true
  ip0 : ip ≠ []
  lead : ip.head? = some 48 → ip.length = 1
  exp : (mk = [] ∧ sg = [] ∧ pw = []) ∨ ((mk = [101] ∨ mk = [69]) ∧ (sg = [] ∨ sg = [43] ∨ sg = [45]) ∧ pw ≠ [])
theorem all_head {l : Bs} (h : l.all dg = true) {c : UInt8} (hc : l.head? = some c) : dg c = true := by
  cases l with
  | nil => simp at hc
  | cons a l => simp at hc; subst hc; rw [List.all_cons, Bool.and_eq_true] at h; exact h.1
theorem dg_lt {c : UInt8} (h : dg c = true) : 48 ≤ c.toNat ∧ c.toNat ≤ 57 := by simpa [dg, dig] using h
theorem dg_ne {c : UInt8} (h : dg c = true) {d : UInt8} (hd : dg d = false) : c ≠ d := by rintro rfl; rw [h] at hd; cases hd
theorem digs_all (l : Bs) (h : l.all dg = true) : digs l = l.length := by
  have := digs_app l [] h
  rw [List.append_nil] at this
  rw [this]; rfl
theorem len_pos {l : Bs} (h : l ≠ []) : l.length ≠ 0 := fun e => h (List.eq_nil_of_length_eq_zero e)
section
variable {l : Bs} {neg : Bool} {ip fr mk sg pw : Bs}
theorem NumTxt.pow (h : NumTxt l neg ip fr mk sg pw) : powS (mk ++ (sg ++ pw)) = (mk ++ (sg ++ pw)).length := by
  rcases h.exp with ⟨rfl, rfl, rfl⟩ | ⟨hm, hs, hp⟩
  · rfl
  · have hl : digs pw = pw.length := digs_all pw h.dpw
    have hl0 := len_pos hp
    have hh : sg = [] → sgS pw = 0 := fun _ => by
      cases pw with
      | nil => exact absurd rfl hp
      | cons c p =>
        have hc := all_head h.dpw (c := c) rfl
        rw [sgS, if_neg]
        intro e
        rcases e with rfl | rfl <;> revert hc <;> decide
    have hs2 : sgS (sg ++ pw) = sg.length ∧ (sg ++ pw).drop (sgS (sg ++ pw)) = pw := by
      rcases hs with rfl | rfl | rfl
      · rw [List.nil_append, hh rfl]; exact ⟨rfl, rfl⟩
      · exact ⟨rfl, rfl⟩
      · exact ⟨rfl, rfl⟩
    have hm2 : ∃ m, mk = [m] ∧ (m = 101 ∨ m = 69) := by rcases hm with rfl | rfl <;> simp
    obtain ⟨m, rfl, hm3⟩ := hm2
    rw [List.singleton_append, powS, hs2.2, hl, if_pos ⟨hm3, hl0⟩, hs2.1, List.length_cons, List.length_append]
    omega
theorem NumTxt.pow_head (h : NumTxt l neg ip fr mk sg pw) {c : UInt8} (hc : (mk ++ (sg ++ pw)).head? = some c) : dg c = false ∧ c ≠ 46 := by
  rcases h.exp with ⟨rfl, rfl, rfl⟩ | ⟨hm, hs, hp⟩
  · simp at hc
  · rcases hm with rfl | rfl <;> (simp at hc; subst hc; decide)
theorem NumTxt.tail (h : NumTxt l neg ip fr mk sg pw) : tailS ((if fr = [] then [] else 46 :: fr) ++ (mk ++ (sg ++ pw))) = ((if fr = [] then [] else 46 :: fr) ++ (mk ++ (sg ++ pw))).length := by
  have hp := h.pow
  have hh := fun c => h.pow_head (c := c)
  generalize mk ++ (sg ++ pw) = r at hp hh ⊢
  by_cases hf : fr = []
  · rw [if_pos hf, List.nil_append, tailS]
    have : fracS r = 0 := by
      cases r with
      | nil => rfl
      | cons c r => rw [fracS, if_neg]; intro e; exact (hh c rfl).2 e.1
    rw [this, List.drop_zero, hp, Nat.zero_add]
  · rw [if_neg hf, tailS, List.cons_append]
    have hd : digs (fr ++ r) = fr.length := by rw [digs_app _ _ h.dfr, digs_none r (fun c hc => (hh c hc).1)]; rfl
    have : fracS (46 :: (fr ++ r)) = 1 + fr.length := by
      rw [fracS, hd, if_pos ⟨rfl, len_pos hf⟩]
    rw [this, Nat.add_comm 1, List.drop_succ_cons, List.drop_left, hp, List.length_cons, List.length_append]
    omega
theorem NumTxt.int (h : NumTxt l neg ip fr mk sg pw) : intS (ip ++ ((if fr = [] then [] else 46 :: fr) ++ (mk ++ (sg ++ pw)))) = ip.length := by
  have hr : ∀ c, ((if fr = [] then [] else 46 :: fr) ++ (mk ++ (sg ++ pw))).head? = some c → dg c = false := by
    intro c hc
    by_cases hf : fr = []
    · rw [if_pos hf, List.nil_append] at hc; exact (h.pow_head hc).1
    · rw [if_neg hf] at hc; simp at hc; subst hc; decide
  generalize (if fr = [] then [] else 46 :: fr) ++ (mk ++ (sg ++ pw)) = r at hr
  have hi := h.ip0
  have hl := h.lead
  have hd := h.dip
  have hx : digs (ip ++ r) = ip.length := by rw [digs_app _ _ hd, digs_none r hr]; rfl
  cases ip with
  | nil => exact absurd rfl hi
  | cons c p =>
    rw [List.cons_append, intS]
    split
    · next e => subst e; exact (hl rfl).symm
    · rw [← List.cons_append, hx]
theorem NumTxt.mn (h : NumTxt l neg ip fr mk sg pw) : mnS l = (if neg then 1 else 0) ∧ l.drop (mnS l) = ip ++ ((if fr = [] then [] else 46 :: fr) ++ (mk ++ (sg ++ pw))) := by
  have he := h.eq
  have hi := h.ip0
  have hd := h.dip
  generalize (if fr = [] then [] else 46 :: fr) ++ (mk ++ (sg ++ pw)) = r at he
  cases neg with
  | true => subst he; exact ⟨rfl, rfl⟩
  | false =>
    subst he
    have : mnS (ip ++ r) = 0 := by
      cases ip with
      | nil => exact absurd rfl hi
      | cons c p =>
        have hc := all_head hd (c := c) rfl
        rw [List.cons_append, mnS, if_neg]
        rintro rfl
        revert hc; decide
    refine ⟨?_, ?_⟩
    · simpa using this
    · show (ip ++ r).drop (mnS (ip ++ r)) = _
      rw [this]; rfl
/-- A number's text is read whole. -/
theorem NumTxt.scan (h : NumTxt l neg ip fr mk sg pw) : scanN l = l.length ∧ l ≠ [] := by
  have hi := len_pos h.ip0
  have hm := h.mn
  have hl : l.length = mnS l + (l.drop (mnS l)).length := by
    have := congrArg List.length h.eq
    rw [hm.2, hm.1, this, List.length_append]
    cases neg <;> rfl
  refine ⟨?_, fun e => by subst e; have := h.eq; cases neg <;> simp at this; exact h.ip0 this.1⟩
  rw [hm.2, List.length_append] at hl
  rw [scanN, hm.2, h.int, if_neg hi, ← List.drop_drop, hm.2, List.drop_left, h.tail, hl]
  omega
end

theorem pow_whole (l : Bs) (h : powS l = l.length) : ∃ mk sg pw, l = mk ++ (sg ++ pw) ∧ pw.all dg = true ∧ ((mk = [] ∧ sg = [] ∧ pw = []) ∨ ((mk = [101] ∨ mk = [69]) ∧ (sg = [] ∨ sg = [43] ∨ sg = [45]) ∧ pw ≠ [])) := by
  cases l with
  | nil => exact ⟨[], [], [], rfl, rfl, .inl ⟨rfl, rfl, rfl⟩⟩
  | cons m t =>
    rw [powS] at h
    split at h
    · next hc =>
      obtain ⟨hm, hd⟩ := hc
      rw [List.length_cons] at h
      have hs : sgS t ≤ t.length := by
        cases t with
        | nil => exact Nat.le_refl _
        | cons c t => rw [sgS]; split <;> simp
      have hl : (t.drop (sgS t)).length = t.length - sgS t := by simp
      have hall : (t.drop (sgS t)).all dg = true := by
        have := digs_take (t.drop (sgS t))
        rw [show digs (t.drop (sgS t)) = (t.drop (sgS t)).length by omega, List.take_length] at this
        exact this
      refine ⟨[m], t.take (sgS t), t.drop (sgS t), by rw [List.take_append_drop]; rfl, hall, .inr ⟨by rcases hm with rfl | rfl <;> simp, ?_, fun e => hd (by rw [e]; rfl)⟩⟩
      cases t with
      | nil => exact .inl rfl
      | cons c t =>
        rw [sgS]
        split
        · next hc => rcases hc with rfl | rfl <;> simp
        · simp
    · simp at h
theorem frac_whole (l : Bs) : ∃ fr, l.take (fracS l) = (if fr = [] then [] else 46 :: fr) ∧ fr.all dg = true := by
  cases l with
  | nil => exact ⟨[], rfl, rfl⟩
  | cons p l =>
    rw [fracS]
    split
    · next h =>
      obtain ⟨rfl, hd⟩ := h
      have hne : l.take (digs l) ≠ [] := by
        intro e
        have h1 := congrArg List.length e
        have h2 := digs_le l
        rw [List.length_take, Nat.min_eq_left h2] at h1
        exact hd (by simpa using h1)
      exact ⟨l.take (digs l), by rw [if_neg hne, Nat.add_comm 1, List.take_succ_cons], digs_take l⟩
    · exact ⟨[], rfl, rfl⟩
/-- A text that is read whole has pieces. -/
theorem parts_of_scan (l : Bs) (h : scanN l = l.length) (h0 : l ≠ []) : ∃ neg ip fr mk sg pw, NumTxt l neg ip fr mk sg pw := by
  rw [scanN] at h
  have hl0 := len_pos h0
  split at h
  · omega
  · next hi =>
    have hml : mnS l ≤ l.length := by
      cases l with
      | nil => exact Nat.le_refl _
      | cons c l => rw [mnS]; split <;> simp
    have hil : ∀ l : Bs, intS l ≤ l.length := by
      intro l
      cases l with
      | nil => exact Nat.le_refl _
      | cons c l => rw [intS]; split; (· simp); (· exact digs_le _)
    have hdl := hil (l.drop (mnS l))
    rw [← List.drop_drop] at h
    have e1 : l = l.take (mnS l) ++ l.drop (mnS l) := (List.take_append_drop _ _).symm
    have e2 : l.take (mnS l) = (if decide (mnS l = 1) then [45] else []) := by
      cases l with
      | nil => rfl
      | cons c l =>
        rw [mnS]
        split
        · next e => subst e; rfl
        · rfl
    have hlen : (l.drop (mnS l)).length = l.length - mnS l := by simp
    generalize l.drop (mnS l) = a at *
    have e3 : a = a.take (intS a) ++ a.drop (intS a) := (List.take_append_drop _ _).symm
    have hlen2 : (a.drop (intS a)).length = a.length - intS a := by simp
    have d3 : (a.take (intS a)).all dg = true ∧ (a.take (intS a) ≠ []) ∧ ((a.take (intS a)).head? = some 48 → (a.take (intS a)).length = 1) := by
      cases a with
      | nil => exact absurd rfl hi
      | cons c a =>
        rw [intS] at hi ⊢
        split
        · next e => subst e; exact ⟨rfl, by simp, fun _ => rfl⟩
        · next e =>
          rw [if_neg e] at hi
          refine ⟨digs_take _, fun e2 => ?_, fun e2 => ?_⟩
          · have h1 := congrArg List.length e2
            have h2 := digs_le (c :: a)
            rw [List.length_take, Nat.min_eq_left h2] at h1
            exact hi (by simpa using h1)
          · have : ∃ k, digs (c :: a) = k + 1 := ⟨digs (c :: a) - 1, by omega⟩
            obtain ⟨k, hk⟩ := this
            rw [hk, List.take_succ_cons] at e2
            simp at e2
            exact absurd e2 e
    generalize a.take (intS a) = ip at *
    generalize a.drop (intS a) = b at *
    have hb : tailS b = b.length := by omega
    rw [tailS] at hb
    have e4 : b = b.take (fracS b) ++ b.drop (fracS b) := (List.take_append_drop _ _).symm
    obtain ⟨fr, hf, hfd⟩ := frac_whole b
    have hfl : fracS b ≤ b.length := by
      cases b with
      | nil => exact Nat.le_refl _
      | cons c b => rw [fracS]; have := digs_le b; split <;> simp; omega
    have hlen3 : (b.drop (fracS b)).length = b.length - fracS b := by simp
    obtain ⟨mk, sg, pw, h5, h6, h7⟩ := pow_whole (b.drop (fracS b)) (by omega)
    refine ⟨decide (mnS l = 1), ip, fr, mk, sg, pw, ⟨?_, d3.1, hfd, h6, d3.2.1, d3.2.2, h7⟩⟩
    rw [← h5, ← hf, ← e4, ← e3, ← e2]
    exact e1

/-! What number the pieces are. -/
def valD (ip fr : Bs) : Bs := Lib.trimLeftB (ip ++ fr) 48
def valC (ip fr : Bs) : Bs := Lib.trimRightB (valD ip fr) 48
def valE (ip fr : Bs) (p : Int) : Int := p - fr.length + ((valD ip fr).length - (valC ip fr).length : Nat)
def numVal (neg : Bool) (ip fr : Bs) (p : Int) : (Bool × Bs × Int) × Int :=
  if valC ip fr = [] then ((false, [], 0), 0) else if numR neg ⟨(valC ip fr).toArray⟩ (valE ip fr p) then ((neg, valC ip fr, valE ip fr p), 0) else ((false, [], 0), 4)
def addP (n : Nat) (c : UInt8) : Nat := min (n * 10 + (c.toNat - 48)) 1099511627776
def addQ (n : Nat) (c : UInt8) : Nat := if n < 1000000000 then n * 10 + (c.toNat - 48) else n
def sgn (sg : Bs) (n : Nat) : Int := if sg = [45] then -(n : Int) else n
def powP (sg pw : Bs) : Int := sgn sg (pw.foldl addP 0)
def powQ (sg pw : Bs) : Int := sgn sg (pw.foldl addQ 0)
theorem pow_near : ∀ (pw : Bs) (a b : Nat), pw.all dg = true → (a = b ∧ a < 1000000000 ∨ 1000000000 ≤ a ∧ 1000000000 ≤ b) → (pw.foldl addP a = pw.foldl addQ b ∧ pw.foldl addP a < 1000000000 ∨ 1000000000 ≤ pw.foldl addP a ∧ 1000000000 ≤ pw.foldl addQ b)
  | [], _, _, _, h => h
  | c :: pw, a, b, hd, h => by
    rw [List.all_cons, Bool.and_eq_true] at hd
    have hc := dg_lt hd.1
    rw [List.foldl_cons, List.foldl_cons]
    refine pow_near pw _ _ hd.2 ?_
    unfold addP addQ
    rcases h with ⟨rfl, h⟩ | ⟨h1, h2⟩
    · rw [if_pos h]; omega
    · rw [if_neg (by omega)]; omega
theorem trimR_le (l : Bs) : (Lib.trimRightB l 48).length ≤ l.length := by
  rw [Lib.trimRightB, List.length_reverse]
  have := (List.dropWhile_sublist (fun x => x == (48 : UInt8)) (l := l.reverse)).length_le
  simpa using this
theorem trimL_le (l : Bs) : (Lib.trimLeftB l 48).length ≤ l.length := (List.dropWhile_sublist _).length_le
theorem numR_far {neg : Bool} {d : ByteArray} {e : Int} (h0 : d.size ≠ 0) (h : e < -10000 ∨ 10000 < e) : numR neg d e = false := numR_great h0 (.inr h)
/-- Both ways of reading a power give one number. -/
theorem numVal_near (neg : Bool) (ip fr sg pw : Bs) (hd : pw.all dg = true) (hl : ip.length + fr.length ≤ 100000000) : numVal neg ip fr (powP sg pw) = numVal neg ip fr (powQ sg pw) := by
  rcases pow_near pw 0 0 hd (.inl ⟨rfl, by omega⟩) with ⟨h, _⟩ | ⟨h1, h2⟩
  · rw [powP, powQ, h]
  · unfold numVal
    by_cases hc : valC ip fr = []
    · rw [if_pos hc, if_pos hc]
    · have h3 : (valD ip fr).length ≤ ip.length + fr.length := by rw [← List.length_append]; exact trimL_le _
      have hz : (⟨(valC ip fr).toArray⟩ : ByteArray).size ≠ 0 := by
        show (valC ip fr).toArray.size ≠ 0
        simpa using hc
      have f : ∀ n : Nat, 1000000000 ≤ n → numR neg ⟨(valC ip fr).toArray⟩ (valE ip fr (sgn sg n)) = false := by
        intro n hn
        refine numR_far hz ?_
        unfold valE sgn
        split <;> omega
      rw [if_neg hc, if_neg hc, powP, powQ, f _ h1, f _ h2]
      rfl
end Go.Proofs.YthiggalnjjcejaaDoor
