/- Texts of this claim, one behind the other: LxP, ExP, ExA, ExB, TkA, Bld, UtfA, UtfB, UtfC, UtfD, QuoA. -/
import Derived.Test.YthmmgpbojbjihaaGreatDoorMga
import Derived.Lib.SlTrimSet
import Derived.Lib.IndexMore
import Derived.Lib.Builder
import Derived.Lib.AppendStr
import Derived.Lib.UnsafeStr
import Derived.Laws.Externs
import Derived.Test.YthmmgpbojbjihaaGreatDoorRows
import Derived.Laws.BitsAllLaws
import Derived.Laws.IdiomStrings
import Derived.Deep.QuietTactic
import Derived.BigQuiet
set_option linter.unusedSimpArgs false
set_option linter.unusedVariables false

/- Plain law of layer 11: the tokens of a text, without any program. -/
namespace Go.Proofs.YthmmgpbojbjihaaGreatDoor

/-! The number that a text is: its pieces told. -/
def npc (l : Bs) : Bool × Bs × Bs × Bs × Bs × Bs :=
  let a := l.drop (mnS l)
  let b := a.drop (intS a)
  let c := b.drop (fracS b)
  (decide (mnS l = 1), a.take (intS a), (b.take (fracS b)).drop 1, c.take 1, (c.drop 1).take (sgS (c.drop 1)), (c.drop 1).drop (sgS (c.drop 1)))
def decR (l : Bs) : (Bool × Bs × Int) × Int :=
  if scanN l = l.length ∧ l ≠ [] then numVal (npc l).1 (npc l).2.1 (npc l).2.2.1 (powP (npc l).2.2.2.2.1 (npc l).2.2.2.2.2) else ((false, [], 0), 3)
def decE (l : Bs) : Int := (decR l).2
theorem numVal_err (neg : Bool) (ip fr : Bs) (p : Int) : (numVal neg ip fr p).2 = 0 ∨ (numVal neg ip fr p).2 = 4 := by
  unfold numVal
  split
  · exact .inl rfl
  · split
    · exact .inl rfl
    · exact .inr rfl

section
variable {l : Bs} {neg : Bool} {ip fr mk sg pw : Bs}
theorem NumTxt.sgEq (h : NumTxt l neg ip fr mk sg pw) (hp : pw ≠ []) : sgS (sg ++ pw) = sg.length := by
  rcases h.exp with ⟨rfl, rfl, rfl⟩ | ⟨hm, hs, -⟩
  · exact absurd rfl hp
  · rcases hs with rfl | rfl | rfl
    · cases pw with
      | nil => exact absurd rfl hp
      | cons c p =>
        have hc := all_head h.dpw (c := c) rfl
        rw [List.nil_append, sgS, if_neg]
        · rfl
        · intro e
          rcases e with rfl | rfl <;> revert hc <;> decide
    · rfl
    · rfl
theorem NumTxt.frac (h : NumTxt l neg ip fr mk sg pw) : fracS ((if fr = [] then [] else 46 :: fr) ++ (mk ++ (sg ++ pw))) = (if fr = [] then ([] : Bs) else 46 :: fr).length := by
  have hh := fun c => h.pow_head (c := c)
  generalize mk ++ (sg ++ pw) = r at hh ⊢
  by_cases hf : fr = []
  · rw [if_pos hf, List.nil_append]
    cases r with
    | nil => rfl
    | cons c r => rw [fracS, if_neg]; (· rfl); intro e; exact (hh c rfl).2 e.1
  · rw [if_neg hf, List.cons_append]
    have hd : digs (fr ++ r) = fr.length := by rw [digs_app _ _ h.dfr, digs_none r (fun c hc => (hh c hc).1)]; rfl
    rw [fracS, hd, if_pos ⟨rfl, len_pos hf⟩, List.length_cons]
    omega
/-- The pieces are those that it has. -/
theorem NumTxt.npc (h : NumTxt l neg ip fr mk sg pw) : npc l = (neg, ip, fr, mk, sg, pw) := by
  have hm := h.mn
  have hi := h.int
  have hf := h.frac
  have hs := h.sgEq
  have he := h.exp
  unfold Go.Proofs.YthmmgpbojbjihaaGreatDoor.npc
  simp only
  rw [hm.2, hi, List.drop_left, List.take_left, hf, List.drop_left, List.take_left, hm.1]
  have h1 : decide ((if neg = true then 1 else 0 : Nat) = 1) = neg := by cases neg <;> rfl
  have h2 : (if fr = [] then ([] : Bs) else 46 :: fr).drop 1 = fr := by
    by_cases hfr : fr = []
    · rw [if_pos hfr, hfr]; rfl
    · rw [if_neg hfr]; rfl
  rw [h1, h2]
  rcases he with ⟨rfl, rfl, rfl⟩ | ⟨hmk, -, hp⟩
  · rfl
  · have hmk1 : mk.length = 1 := by rcases hmk with rfl | rfl <;> rfl
    have e1 : (mk ++ (sg ++ pw)).take 1 = mk := by rw [← hmk1, List.take_left]
    have e2 : (mk ++ (sg ++ pw)).drop 1 = sg ++ pw := by rw [← hmk1, List.drop_left]
    rw [e1, e2, hs hp, List.take_left, List.drop_left]
theorem NumTxt.decR (h : NumTxt l neg ip fr mk sg pw) : decR l = numVal neg ip fr (powP sg pw) := by
  unfold Go.Proofs.YthmmgpbojbjihaaGreatDoor.decR
  rw [if_pos h.scan, h.npc]
end

/-! One token. -/
inductive LR where
  | tok (kind size : Nat) : LR
  | bad (off : Nat) (err : Int) : LR
def nb (l : Bs) : List Nat := l.map UInt8.toNat
theorem nb_byt (l : Bs) : Byt (nb l) := by
  intro x hx
  obtain ⟨c, _, rfl⟩ := List.mem_map.1 hx
  exact c.toNat_lt
theorem nb_len (l : Bs) : (nb l).length = l.length := List.length_map ..
def blanksB : Bs := [32, 9, 13]
def blankB (c : UInt8) : Bool := blanksB.contains c
def letB (c : UInt8) : Bool := decide (65 ≤ c.toNat ∧ c.toNat ≤ 90) || (decide (97 ≤ c.toNat ∧ c.toNat ≤ 122) || decide (c.toNat = 95))
def idB (c : UInt8) : Bool := letB c || dg c
/-- How many bytes of a name a text begins with. -/
def idN : Bs → Nat
  | [] => 0
  | c :: l => if idB c then idN l + 1 else 0
/-- How long the line is that a text begins with. -/
def lineN : Bs → Nat
  | [] => 0
  | c :: l => if c = 10 then 0 else lineN l + 1
/-- Where a comment goes wrong, and how. -/
def wth (l : Bs) : Option (Nat × Int) :=
  match (scan (nb l) 0).1.find? (fun x => decide (x.2 < 32) && x.2 != 9) with
  | some x => some (x.1, 3)
  | none => match (scan (nb l) 0).2 with
    | some a => some (a, 7)
    | none => none
def remT (l : Bs) (kind : Nat) : LR := match wth l with
  | some x => .bad x.1 x.2
  | none => .tok kind l.length
def remS (l : Bs) : Bs := Lib.trimRightS (l.take (lineN l)) blanksB
/-- The place of the first end of a comment. -/
def endN : Bs → Option Nat
  | [] => none
  | c :: l => if c = 42 ∧ l.head? = some 47 then some 0 else (endN l).map (· + 1)
def aside1 (l : Bs) : LR := match endN (l.drop 2) with
  | none => .bad 0 2
  | some n => if (l.take (n + 2)).contains 10 then .bad 0 2 else remT (l.take (n + 4)) 7
def dbls : List Bs := [[61, 61], [33, 61], [60, 61], [62, 61], [38, 38], [124, 124]]
def sgls : Bs := [61, 60, 62, 43, 45, 42, 47, 37, 33, 63, 58, 44, 46, 40, 41, 91, 93, 123, 125]
/-- How many bytes the sign has that a text begins with. -/
def sgN (l : Bs) : Nat := if dbls.any (fun d => d.isPrefixOf l) then 2 else match l with
  | [] => 0
  | c :: _ => if sgls.contains c then 1 else 0
def num1 (l : Bs) : LR := if decE (l.take (scanN l)) = 0 then .tok 2 (scanN l) else .bad 0 (decE (l.take (scanN l)))
def quo1 (l : Bs) : LR := if (scanQ (nb l)).2.2 = 0 then .tok 3 (scanQ (nb l)).2.1 else .bad 0 ((scanQ (nb l)).2.2 : Nat)
def one1 : Bs → LR
  | [] => .bad 0 3
  | c :: r =>
    if letB c then .tok 1 (1 + idN r)
    else if dg c then num1 (c :: r)
    else if c = 34 then quo1 (c :: r)
    else if c = 10 then .tok 5 1
    else if c = 35 ∨ (c = 47 ∧ r.head? = some 47) then remT (remS (c :: r)) 6
    else if c = 47 ∧ r.head? = some 42 then aside1 (c :: r)
    else if sgN (c :: r) = 0 then .bad 0 3 else .tok 4 (sgN (c :: r))

theorem idN_le : ∀ l : Bs, idN l ≤ l.length
  | [] => Nat.le_refl _
  | c :: l => by have := idN_le l; simp only [idN, List.length_cons]; split <;> omega
theorem lineN_le : ∀ l : Bs, lineN l ≤ l.length
  | [] => Nat.le_refl _
  | c :: l => by have := lineN_le l; simp only [lineN, List.length_cons]; split <;> omega
theorem endN_le : ∀ (l : Bs) (n : Nat), endN l = some n → n + 2 ≤ l.length
  | [], n, h => by simp [endN] at h
  | c :: l, n, h => by
    rw [endN] at h
    split at h
    · next hc =>
      cases h
      cases l with
      | nil => simp at hc
      | cons d l => simp
    · obtain ⟨m, hm, rfl⟩ := Option.map_eq_some_iff.1 h
      have := endN_le l m hm
      simp only [List.length_cons]; omega
theorem scanN_le (l : Bs) : scanN l ≤ l.length := by
  have hi : ∀ l : Bs, intS l ≤ l.length := by
    intro l
    cases l with
    | nil => exact Nat.le_refl _
    | cons c l => rw [intS]; split; (· simp); (· exact digs_le _)
  have hf : ∀ l : Bs, fracS l ≤ l.length := by
    intro l
    cases l with
    | nil => exact Nat.le_refl _
    | cons c l => rw [fracS]; have := digs_le l; split <;> simp; omega
  have hs : ∀ l : Bs, sgS l ≤ l.length := by
    intro l
    cases l with
    | nil => exact Nat.le_refl _
    | cons c l => rw [sgS]; split <;> simp
  have hp : ∀ l : Bs, powS l ≤ l.length := by
    intro l
    cases l with
    | nil => exact Nat.le_refl _
    | cons c l =>
      rw [powS]
      have h1 := digs_le (l.drop (sgS l))
      have h2 := hs l
      rw [List.length_drop] at h1
      split
      · simp only [List.length_cons]; omega
      · exact Nat.zero_le _
  have hm : mnS l ≤ l.length := by
    cases l with
    | nil => exact Nat.le_refl _
    | cons c l => rw [mnS]; split <;> simp
  rw [scanN]
  split
  · exact Nat.zero_le _
  · have h1 := hi (l.drop (mnS l))
    have h2 := hf (l.drop (mnS l + intS (l.drop (mnS l))))
    have h3 := hp ((l.drop (mnS l + intS (l.drop (mnS l)))).drop (fracS (l.drop (mnS l + intS (l.drop (mnS l))))))
    rw [tailS]
    simp only [List.length_drop] at h1 h2 h3
    omega
theorem scanN_pos {c : UInt8} {r : Bs} (h : dg c = true) : 1 ≤ scanN (c :: r) := by
  have hm : mnS (c :: r) = 0 := by
    rw [mnS, if_neg]
    rintro rfl
    revert h; decide
  have hi : intS (c :: r) ≠ 0 := by
    rw [intS]
    split
    · decide
    · rw [digs, if_pos h]; omega
  rw [scanN, hm, List.drop_zero, if_neg hi]
  omega
theorem bodyF_size : ∀ (k : Nat) (l : List Nat), Byt l → (bodyF k l).2.2 = 0 → 1 ≤ (bodyF k l).2.1 ∧ (bodyF k l).2.1 ≤ l.length
  | 0, l, _, h => by simp [bodyF, errR] at h
  | k + 1, l, hl, h => by
    rw [bodyF] at h ⊢
    split at h
    · next hq =>
      rw [if_pos hq]
      cases l with
      | nil => simp at hq
      | cons c l => simp
    · next hq =>
      rw [if_neg hq]
      split at h
      · next hp => exact absurd h hp
      · next hp =>
        rw [if_neg hp]
        have hp0 : (partQ l).2.2 = 0 := by simpa using hp
        obtain ⟨c, -, -, h3, h4⟩ := partQ_ok hl hp0
        split at h
        · next hr => exact absurd h hr
        · next hr =>
          rw [if_neg hr]
          have := bodyF_size k (l.drop (partQ l).2.1) (hl.drop _) (by simpa using hr)
          simp only [List.length_drop] at this
          simp only
          omega
theorem scanQ_size {l : List Nat} (hl : Byt l) (h : (scanQ l).2.2 = 0) : 2 ≤ (scanQ l).2.1 ∧ (scanQ l).2.1 ≤ l.length := by
  cases l with
  | nil => simp [scanQ, errR] at h
  | cons c r =>
    rw [scanQ] at h ⊢
    split at h
    · simp [errR] at h
    · next hc =>
      rw [if_neg hc]
      unfold joinR at h ⊢
      split at h
      · next he => exact absurd h he
      · next he =>
        rw [if_neg he]
        have := bodyF_size _ r (hl.drop 1) (by simpa [bodyQ] using he)
        simp only [bodyQ, List.length_cons]
        omega
theorem remS_len (l : Bs) : (remS l).length ≤ l.length := by
  unfold remS Lib.trimRightS
  rw [List.length_reverse]
  refine Nat.le_trans (List.dropWhile_sublist _).length_le ?_
  rw [List.length_reverse, List.length_take]
  omega
theorem remS_pos {c : UInt8} {r : Bs} (h1 : c ≠ 10) (h2 : blankB c = false) : 1 ≤ (remS (c :: r)).length := by
  unfold remS Lib.trimRightS
  rw [List.length_reverse, lineN, if_neg h1, List.take_succ_cons, List.reverse_cons]
  generalize (r.take (lineN r)).reverse = q
  induction q with
  | nil =>
    rw [List.nil_append, List.dropWhile_cons_of_neg (by rw [show blanksB.contains c = false from h2]; simp)]
    simp
  | cons a q ih =>
    rw [List.cons_append, List.dropWhile_cons]
    split
    · exact ih
    · simp
theorem sgN_le (l : Bs) : sgN l ≤ l.length := by
  unfold sgN
  split
  · next h =>
    obtain ⟨d, hd, hp⟩ := List.any_eq_true.1 h
    have h2 : d.length = 2 := by
      simp only [dbls, List.mem_cons, List.not_mem_nil, or_false] at hd
      rcases hd with rfl | rfl | rfl | rfl | rfl | rfl <;> rfl
    have := (List.isPrefixOf_iff_prefix.1 hp).length_le
    omega
  · split
    · exact Nat.zero_le _
    · split
      · simp
      · exact Nat.zero_le _
/-- A token has some bytes, and no more than there are. -/
theorem one1_size {l : Bs} {k n : Nat} (h : one1 l = .tok k n) : 1 ≤ n ∧ n ≤ l.length := by
  cases l with
  | nil => cases h
  | cons c r =>
    rw [one1] at h
    split at h
    · cases h
      have := idN_le r
      simp only [List.length_cons]; omega
    split at h
    · next hd =>
      unfold num1 at h
      split at h
      · cases h; exact ⟨scanN_pos hd, scanN_le _⟩
      · cases h
    split at h
    · unfold quo1 at h
      split at h
      · next hq =>
        cases h
        have := scanQ_size (nb_byt (c :: r)) hq
        rw [nb_len] at this
        omega
      · cases h
    split at h
    · cases h; simp
    split at h
    · next h10 hr =>
      unfold remT at h
      split at h
      · cases h
      · cases h
        refine ⟨remS_pos h10 ?_, remS_len _⟩
        rcases hr with rfl | ⟨rfl, -⟩ <;> rfl
    split at h
    · unfold aside1 at h
      split at h
      · cases h
      · next n hn =>
        have := endN_le _ _ hn
        split at h
        · cases h
        · unfold remT at h
          split at h
          · cases h
          · cases h
            simp only [List.length_take, List.length_drop, List.length_cons] at this ⊢
            omega
    split at h
    · cases h
    · cases h
      exact ⟨by omega, sgN_le _⟩

/-! All tokens. -/
structure Tok where
  kind : Int
  text : ByteArray
  pos : Int
/-- The tokens, the place where it goes wrong, and how: of what stands from a place on. -/
def lexF : Nat → Bs → Nat → List Tok × Int × Int
  | 0, _, _ => ([], -1, 0)
  | _ + 1, [], _ => ([], -1, 0)
  | n + 1, c :: r, p => if blankB c then lexF n r (p + 1) else match one1 (c :: r) with
    | .bad off e => ([], ((p + off : Nat) : Int), e)
    | .tok k sz => (⟨(k : Nat), strL ((c :: r).take sz), (p : Nat)⟩ :: (lexF n ((c :: r).drop sz) (p + sz)).1, (lexF n ((c :: r).drop sz) (p + sz)).2)
theorem lexF_same : ∀ (n m : Nat) (l : Bs) (p : Nat), l.length ≤ n → l.length ≤ m → lexF n l p = lexF m l p
  | 0, m, l, p, h, _ => by
    obtain rfl := List.eq_nil_of_length_eq_zero (Nat.le_zero.1 h)
    cases m <;> rfl
  | n + 1, 0, l, p, _, h => by
    obtain rfl := List.eq_nil_of_length_eq_zero (Nat.le_zero.1 h)
    rfl
  | n + 1, m + 1, [], p, _, _ => rfl
  | n + 1, m + 1, c :: r, p, hn, hm => by
    simp only [List.length_cons] at hn hm
    rw [lexF, lexF]
    split
    · exact lexF_same n m r _ (by omega) (by omega)
    · cases ho : one1 (c :: r) with
      | bad off e => rfl
      | tok k sz =>
        have hs := one1_size ho
        simp only
        rw [lexF_same n m _ _ (by rw [List.length_drop, List.length_cons]; omega) (by rw [List.length_drop, List.length_cons]; omega)]
def lexL (l : Bs) (p : Nat) : List Tok × Int × Int := lexF l.length l p
theorem lexL_nil (p : Nat) : lexL [] p = ([], -1, 0) := rfl
theorem lexL_blank {c : UInt8} {r : Bs} (h : blankB c = true) (p : Nat) : lexL (c :: r) p = lexL r (p + 1) := by
  unfold lexL
  rw [List.length_cons, lexF, if_pos h]
theorem lexL_bad {c : UInt8} {r : Bs} (h : blankB c = false) {off : Nat} {e : Int} (ho : one1 (c :: r) = .bad off e) (p : Nat) : lexL (c :: r) p = ([], ((p + off : Nat) : Int), e) := by
  unfold lexL
  rw [List.length_cons, lexF, if_neg (by rw [h]; simp), ho]
theorem lexL_tok {c : UInt8} {r : Bs} (h : blankB c = false) {k sz : Nat} (ho : one1 (c :: r) = .tok k sz) (p : Nat) :
    lexL (c :: r) p = (⟨(k : Nat), strL ((c :: r).take sz), (p : Nat)⟩ :: (lexL ((c :: r).drop sz) (p + sz)).1, (lexL ((c :: r).drop sz) (p + sz)).2) := by
  have hs := one1_size ho
  unfold lexL
  rw [List.length_cons, lexF, if_neg (by rw [h]; simp), ho]
  simp only
  rw [lexF_same r.length ((c :: r).drop sz).length _ _ (by rw [List.length_drop, List.length_cons]; omega) (Nat.le_refl _)]
theorem lexL_len : ∀ (k : Nat) (l : Bs) (p : Nat), l.length ≤ k → (lexL l p).1.length ≤ l.length
  | 0, l, p, h => by
    obtain rfl := List.eq_nil_of_length_eq_zero (Nat.le_zero.1 h)
    exact Nat.le_refl _
  | k + 1, [], p, _ => Nat.le_refl _
  | k + 1, c :: r, p, h => by
    simp only [List.length_cons] at h
    by_cases hb : blankB c = true
    · rw [lexL_blank hb]
      have := lexL_len k r (p + 1) (by omega)
      simp only [List.length_cons]; omega
    · have hb' : blankB c = false := by simpa using hb
      cases ho : one1 (c :: r) with
      | bad off e => rw [lexL_bad hb' ho]; simp
      | tok kd sz =>
        rw [lexL_tok hb' ho]
        have hs := one1_size ho
        have := lexL_len k ((c :: r).drop sz) (p + sz) (by rw [List.length_drop, List.length_cons]; omega)
        rw [List.length_drop] at this
        simp only [List.length_cons] at this hs ⊢; omega
end Go.Proofs.YthmmgpbojbjihaaGreatDoor

/- Plain law of layer 12: what tokens are as expressions, without any program. -/
namespace Go.Proofs.YthmmgpbojbjihaaGreatDoor

inductive Exp where
  | mk (op text : ByteArray) (kids : List Exp) : Exp
def Exp.op : Exp → ByteArray
  | .mk o _ _ => o
def Exp.text : Exp → ByteArray
  | .mk _ t _ => t
def Exp.kids : Exp → List Exp
  | .mk _ _ k => k
def zeroX : Exp := .mk ⟨#[]⟩ ⟨#[]⟩ []

/-- The Ops and their levels. -/
def lvTab : List (Bs × Int) := [([63], 0), ([124, 124], 1), ([38, 38], 2), ([61, 61], 3), ([33, 61], 3), ([60], 4), ([62], 4), ([60, 61], 4), ([62, 61], 4), ([43], 5), ([45], 5), ([42], 6), ([47], 6), ([37], 6), ([33], 7), ([110, 101, 103], 7),
  ([103, 101, 116], 8), ([97, 116], 8), ([110, 97, 109, 101], 8), ([99, 97, 108, 108], 8), ([110, 117, 109], 8), ([116, 101, 120, 116], 8), ([108, 105, 115, 116], 8)]
def lvN (s : ByteArray) : Int := match lvTab.find? (fun x => x.1 == s.data.toList) with
  | some x => x.2
  | none => -1

/-- Is the first token that sign? -/
def isS (r : List Tok) (w : ByteArray) : Bool := match r with
  | [] => false
  | t :: _ => decide (t.kind = 4) && decide (t.text = w)
/-- Is the first token a sign between two terms of that level? -/
def isL (r : List Tok) (lv : Nat) : Option ByteArray := match r with
  | [] => none
  | t :: _ => if t.kind = 4 ∧ lvN t.text = lv then some t.text else none
/-- What is told of tokens: an expression, how many tokens it has, or goes wrong behind, and the error; -1: out of fuel. -/
abbrev GotX := Exp × Nat × Int
def badX (r : List Tok) (n : Nat) : GotX := if r = [] then (zeroX, n, 2) else (zeroX, n, 3)
def upX (n : Nat) (g : GotX) : GotX := (g.1, n + g.2.1, g.2.2)
/-- What is behind a text token's quotes, if it is whole. -/
def quoX (s : ByteArray) : Option ByteArray :=
  if (scanQ (nb s.data.toList)).2.2 = 0 ∧ (scanQ (nb s.data.toList)).2.1 = s.size then some (strL ((scanQ (nb s.data.toList)).1.map UInt8.ofNat)) else none

inductive Nt where
  | choice : Nt
  | term (lv : Nat) : Nt
  | tloop (lv : Nat) (a : Exp) : Nt
  | tight : Nt
  | post : Nt
  | ploop (a : Exp) : Nt
  | prime : Nt
  | many (shut : ByteArray) : Nt
  | mloop (shut : ByteArray) (l : List Exp) : Nt

abbrev sQ : ByteArray := ⟨#[63]⟩
abbrev sCo : ByteArray := ⟨#[58]⟩
abbrev sBang : ByteArray := ⟨#[33]⟩
abbrev sMinus : ByteArray := ⟨#[45]⟩
abbrev sDot : ByteArray := ⟨#[46]⟩
abbrev sComma : ByteArray := ⟨#[44]⟩
abbrev sLp : ByteArray := ⟨#[40]⟩
abbrev sRp : ByteArray := ⟨#[41]⟩
abbrev sLb : ByteArray := ⟨#[91]⟩
abbrev sRb : ByteArray := ⟨#[93]⟩
abbrev oNeg : ByteArray := ⟨#[110, 101, 103]⟩
abbrev oGet : ByteArray := ⟨#[103, 101, 116]⟩
abbrev oAt : ByteArray := ⟨#[97, 116]⟩
abbrev oName : ByteArray := ⟨#[110, 97, 109, 101]⟩
abbrev oCall : ByteArray := ⟨#[99, 97, 108, 108]⟩
abbrev oNum : ByteArray := ⟨#[110, 117, 109]⟩
abbrev oText : ByteArray := ⟨#[116, 101, 120, 116]⟩
abbrev oList : ByteArray := ⟨#[108, 105, 115, 116]⟩
abbrev oNo : ByteArray := ⟨#[]⟩

def deepX (n : Nat) : GotX := (zeroX, n, 5)
/-- Go on behind what went well. -/
def andX (g : GotX) (f : Exp → Nat → GotX) : GotX := if g.2.2 = 0 then f g.1 g.2.1 else (zeroX, g.2)

def parX : Nat → Nt → List Tok → Nat → GotX
  | 0, _, _, _ => (zeroX, 0, -1)
  | n + 1, .choice, r, d => andX (parX n (.term 1) r d) fun a k =>
      if isS (r.drop k) sQ = false then (a, k, 0) else if 64 ≤ d then deepX k else
      andX (upX (k + 1) (parX n .choice (r.drop (k + 1)) (d + 1))) fun b k2 =>
      if isS (r.drop k2) sCo = false then badX (r.drop k2) k2 else
      andX (upX (k2 + 1) (parX n .choice (r.drop (k2 + 1)) (d + 1))) fun c k3 => (.mk sQ oNo [a, b, c], k3, 0)
  | n + 1, .term lv, r, d => if 7 ≤ lv then parX n .tight r d else
      andX (parX n (.term (lv + 1)) r d) fun a k => upX k (parX n (.tloop lv a) (r.drop k) d)
  | n + 1, .tloop lv a, r, d => match isL r lv with
      | none => (a, 0, 0)
      | some o => andX (upX 1 (parX n (.term (lv + 1)) (r.drop 1) d)) fun b k => upX k (parX n (.tloop lv (.mk o oNo [a, b])) (r.drop k) d)
  | n + 1, .tight, r, d => if isS r sBang = false ∧ isS r sMinus = false then parX n .post r d else if 64 ≤ d then deepX 0 else
      andX (upX 1 (parX n .tight (r.drop 1) (d + 1))) fun a k => (.mk (if isS r sBang then sBang else oNeg) oNo [a], k, 0)
  | n + 1, .post, r, d => andX (parX n .prime r d) fun a k => upX k (parX n (.ploop a) (r.drop k) d)
  | n + 1, .ploop a, r, d =>
      if isS r sDot then match r.drop 1 with
        | [] => badX [] 1
        | t :: _ => if t.kind = 1 then upX 2 (parX n (.ploop (.mk oGet t.text [a])) (r.drop 2) d) else badX (r.drop 1) 1
      else if isS r sLb then (if 64 ≤ d then deepX 0 else
        andX (upX 1 (parX n .choice (r.drop 1) (d + 1))) fun b k => if isS (r.drop k) sRb = false then badX (r.drop k) k else upX (k + 1) (parX n (.ploop (.mk oAt oNo [a, b])) (r.drop (k + 1)) d))
      else (a, 0, 0)
  | n + 1, .prime, r, d => match r with
      | [] => badX [] 0
      | t :: r' =>
        if t.kind = 1 then (if isS r' sLp then andX (upX 1 (parX n (.many sRp) r' d)) fun x k => (.mk oCall t.text x.kids, k, 0) else (.mk oName t.text [], 1, 0))
        else if t.kind = 2 then (.mk oNum t.text [], 1, 0)
        else if t.kind = 3 then (match quoX t.text with | none => (zeroX, 0, 3) | some s => (.mk oText s [], 1, 0))
        else if isS r sLb then andX (parX n (.many sRb) r d) fun x k => (.mk oList oNo x.kids, k, 0)
        else if isS r sLp then (if 64 ≤ d then deepX 0 else andX (upX 1 (parX n .choice r' (d + 1))) fun a k => if isS (r.drop k) sRp = false then badX (r.drop k) k else (a, k + 1, 0))
        else badX r 0
  | n + 1, .many s, r, d => if 64 ≤ d then deepX 0 else if isS (r.drop 1) s then (.mk oNo oNo [], 2, 0) else upX 1 (parX n (.mloop s []) (r.drop 1) d)
  | n + 1, .mloop s l, r, d => andX (parX n .choice r (d + 1)) fun a k =>
      if isS (r.drop k) sComma then upX (k + 1) (parX n (.mloop s (l ++ [a])) (r.drop (k + 1)) d) else if isS (r.drop k) s then (.mk oNo oNo (l ++ [a]), k + 1, 0) else badX (r.drop k) k
/-- Fuel that is enough. -/
def Nt.rank : Nt → Nat
  | .choice => 14
  | .term lv => 13 - lv
  | .tloop _ _ => 2
  | .tight => 5
  | .post => 4
  | .ploop _ => 2
  | .prime => 3
  | .many _ => 2
  | .mloop _ _ => 15
def fuelX (t : Nt) (r : List Tok) : Nat := r.length * 16 + t.rank
theorem andX_ok {g : GotX} {f : Exp → Nat → GotX} (h : g.2.2 = 0) : andX g f = f g.1 g.2.1 := by rw [andX, if_pos h]
theorem andX_bad {g : GotX} {f : Exp → Nat → GotX} (h : g.2.2 ≠ 0) : andX g f = (zeroX, g.2) := by rw [andX, if_neg h]
theorem andX_up {g : GotX} {f : Exp → Nat → GotX} (m : Nat) : andX (upX m g) f = andX g (fun x k => f x (m + k)) ∨ True := .inr trivial
/-- Well told: not out of fuel, no more tokens than there are, and one at least. -/
def FineX (m : Nat) (r : List Tok) (g : GotX) : Prop := g.2.2 ≠ -1 ∧ g.2.1 ≤ r.length ∧ (g.2.2 = 0 → m ≤ g.2.1)
theorem FineX.and {m m2 : Nat} {r : List Tok} {g : GotX} {f : Exp → Nat → GotX} (h : FineX m r g) (hf : g.2.2 = 0 → m ≤ g.2.1 → g.2.1 ≤ r.length → FineX m2 r (f g.1 g.2.1)) : FineX m2 r (andX g f) := by
  by_cases he : g.2.2 = 0
  · rw [andX_ok he]; exact hf he (h.2.2 he) h.2.1
  · rw [andX_bad he]; exact ⟨h.1, h.2.1, fun e => absurd e he⟩
theorem FineX.up {m n : Nat} {r : List Tok} {g : GotX} (h : FineX m (r.drop n) g) (hn : n ≤ r.length) : FineX (n + m) r (upX n g) := by
  obtain ⟨h1, h2, h3⟩ := h
  rw [List.length_drop] at h2
  exact ⟨h1, by simp only [upX]; omega, fun e => by have := h3 e; simp only [upX]; omega⟩
theorem FineX.less {m m2 : Nat} {r : List Tok} {g : GotX} (h : FineX m r g) (hm : m2 ≤ m) : FineX m2 r g := ⟨h.1, h.2.1, fun e => Nat.le_trans hm (h.2.2 e)⟩
theorem FineX.ok {m n : Nat} {r : List Tok} {x : Exp} (h1 : n ≤ r.length) (h2 : m ≤ n) : FineX m r (x, n, 0) := ⟨(by decide : (0 : Int) ≠ -1), h1, fun _ => h2⟩
theorem FineX.bad {m : Nat} {r q : List Tok} {n : Nat} (hn : n ≤ r.length) : FineX m r (badX q n) := by
  unfold badX
  split
  · exact ⟨(by decide : (2 : Int) ≠ -1), hn, fun e => by cases e⟩
  · exact ⟨(by decide : (3 : Int) ≠ -1), hn, fun e => by cases e⟩
theorem FineX.deep {m : Nat} {r : List Tok} {n : Nat} (hn : n ≤ r.length) : FineX m r (deepX n) := ⟨(by decide : (5 : Int) ≠ -1), hn, fun e => by cases e⟩
theorem isS_some {r : List Tok} {w : ByteArray} (h : isS r w = true) : 1 ≤ r.length := by cases r with | nil => cases h | cons t r => simp
theorem isS_none {r : List Tok} {w : ByteArray} (h : ¬ isS r w = false) : 1 ≤ r.length := isS_some (by simpa using h)
theorem isL_some {r : List Tok} {lv : Nat} {o : ByteArray} (h : isL r lv = some o) : 1 ≤ r.length := by cases r with | nil => cases h | cons t r => simp
theorem len_drop1 {r : List Tok} {k : Nat} (h : 1 ≤ (r.drop k).length) : k + 1 ≤ r.length := by rw [List.length_drop] at h; omega
def Nt.okX : Nt → List Tok → Prop
  | .term lv, _ => lv ≤ 7
  | .tloop lv _, _ => lv ≤ 6
  | .many _, r => 1 ≤ r.length
  | _, _ => True
def Nt.least : Nt → Nat
  | .tloop _ _ => 0
  | .ploop _ => 0
  | _ => 1
/-- Enough fuel is enough. -/
theorem parX_fine : ∀ (n : Nat) (t : Nt) (r : List Tok) (d : Nat), fuelX t r ≤ n → t.okX r → FineX t.least r (parX n t r d) := by
  intro n
  induction n with
  | zero =>
    intro t r d h ht
    exfalso
    unfold fuelX at h
    cases t with
    | term lv => simp only [Nt.rank] at h; simp only [Nt.okX] at ht; omega
    | _ => simp only [Nt.rank] at h; omega
  | succ n ih =>
    intro t r d h ht
    unfold fuelX at h
    have IH : ∀ (t : Nt) (r : List Tok) (d : Nat), r.length * 16 + t.rank ≤ n → t.okX r → FineX t.least r (parX n t r d) := fun t r d h => ih t r d h
    clear ih
    cases t with
    | choice =>
      simp only [Nt.rank] at h
      rw [parX]
      refine (IH (.term 1) r d (by simp only [Nt.rank]; omega) (by simp only [Nt.okX]; omega)).and fun _ h1 h2 => ?_
      simp only [Nt.least] at h1 ⊢
      split
      · exact (.ok (h2) (h1))
      · next hq =>
        have hq := len_drop1 (isS_none hq)
        split
        · exact .deep h2
        · refine ((IH .choice (r.drop _) (d + 1) (by simp only [Nt.rank, List.length_drop]; omega) (by simp only [Nt.okX]; try omega)).up hq).and fun _ h3 h4 => ?_
          simp only [Nt.least] at h3
          split
          · exact .bad h4
          · next hc =>
            have hc := len_drop1 (isS_none hc)
            refine ((IH .choice (r.drop _) (d + 1) (by simp only [Nt.rank, List.length_drop]; omega) (by simp only [Nt.okX]; try omega)).up hc).and fun _ h5 h6 => ?_
            exact (.ok (h6) (by simp only [Nt.least] at *; omega))
    | term lv =>
      simp only [Nt.rank] at h
      simp only [Nt.okX] at ht
      rw [parX]
      split
      · exact IH .tight r d (by simp only [Nt.rank]; omega) (by simp only [Nt.okX]; try omega)
      · refine (IH (.term (lv + 1)) r d (by simp only [Nt.rank]; omega) (by simp only [Nt.okX]; omega)).and fun _ h1 h2 => ?_
        simp only [Nt.least] at h1
        exact ((IH (.tloop lv _) (r.drop _) d (by simp only [Nt.rank, List.length_drop]; omega) (by simp only [Nt.okX]; try omega)).up h2).less (by simp only [Nt.least]; omega)
    | tloop lv a =>
      simp only [Nt.rank] at h
      rw [parX]
      split
      · exact (.ok (Nat.zero_le _) (Nat.zero_le _))
      · next o ho =>
        have hl := isL_some ho
        refine ((IH (.term (lv + 1)) (r.drop 1) d (by simp only [Nt.rank, List.length_drop]; omega) (by simp only [Nt.okX] at ht ⊢; omega)).up hl).and fun _ h1 h2 => ?_
        simp only [Nt.least] at h1
        exact ((IH (.tloop lv _) (r.drop _) d (by simp only [Nt.rank, List.length_drop]; omega) ht).up h2).less (Nat.zero_le _)
    | tight =>
      simp only [Nt.rank] at h
      rw [parX]
      split
      · exact IH .post r d (by simp only [Nt.rank]; omega) (by simp only [Nt.okX]; try omega)
      · next hs =>
        have hl : 1 ≤ r.length := by
          by_cases h1 : isS r sBang = false
          · exact isS_none (w := sMinus) (fun h2 => hs ⟨h1, h2⟩)
          · exact isS_none h1
        split
        · exact .deep (Nat.zero_le _)
        · refine ((IH .tight (r.drop 1) (d + 1) (by simp only [Nt.rank, List.length_drop]; omega) (by simp only [Nt.okX]; try omega)).up hl).and fun _ h1 h2 => ?_
          exact (.ok (h2) (by simp only [Nt.least] at *; omega))
    | post =>
      simp only [Nt.rank] at h
      rw [parX]
      refine (IH .prime r d (by simp only [Nt.rank]; omega) (by simp only [Nt.okX]; try omega)).and fun _ h1 h2 => ?_
      simp only [Nt.least] at h1
      exact ((IH (.ploop _) (r.drop _) d (by simp only [Nt.rank, List.length_drop]; omega) (by simp only [Nt.okX]; try omega)).up h2).less (by simp only [Nt.least]; omega)
    | ploop a =>
      simp only [Nt.rank] at h
      rw [parX]
      split
      · next hs =>
        have hl := isS_some hs
        split
        · exact .bad hl
        · next t q hq =>
          have hl2 : 2 ≤ r.length := by have := congrArg List.length hq; simp at this; omega
          split
          · exact ((IH (.ploop _) (r.drop 2) d (by simp only [Nt.rank, List.length_drop]; omega) (by simp only [Nt.okX]; try omega)).up hl2).less (Nat.zero_le _)
          · exact .bad hl
      · split
        · next hs =>
          have hl := isS_some hs
          split
          · exact .deep (Nat.zero_le _)
          · refine ((IH .choice (r.drop 1) (d + 1) (by simp only [Nt.rank, List.length_drop]; omega) (by simp only [Nt.okX]; try omega)).up hl).and fun _ h1 h2 => ?_
            simp only [Nt.least] at h1
            split
            · exact .bad h2
            · next hb =>
              have hb := len_drop1 (isS_none hb)
              exact ((IH (.ploop _) (r.drop _) d (by simp only [Nt.rank, List.length_drop]; omega) (by simp only [Nt.okX]; try omega)).up hb).less (Nat.zero_le _)
        · exact (.ok (Nat.zero_le _) (Nat.zero_le _))
    | prime =>
      simp only [Nt.rank] at h
      cases r with
      | nil => exact .bad (Nat.zero_le _)
      | cons t r' =>
        simp only [parX]
        simp only [List.length_cons] at h
        split
        · split
          · next hs =>
            have := ((IH (.many sRp) ((t :: r').drop 1) d (by simp only [Nt.rank, List.length_drop, List.length_cons]; omega) (isS_some hs)).up (n := 1) (by simp))
            refine this.and fun _ h1 h2 => ?_
            exact (.ok (h2) (by simp only [Nt.least] at *; omega))
          · exact (.ok (by simp) (Nat.le_refl _))
        · split
          · exact (.ok (by simp) (Nat.le_refl _))
          · split
            · split
              · exact ⟨(by decide : (3 : Int) ≠ -1), Nat.zero_le _, fun e => by cases e⟩
              · exact (.ok (by simp) (Nat.le_refl _))
            · split
              · refine (IH (.many sRb) (t :: r') d (by simp only [Nt.rank, List.length_cons]; omega) (by simp [Nt.okX])).and fun _ h1 h2 => ?_
                exact (.ok (h2) (h1))
              · split
                · split
                  · exact .deep (Nat.zero_le _)
                  · refine ((IH .choice ((t :: r').drop 1) (d + 1) (by simp only [Nt.rank, List.length_drop, List.length_cons]; omega) (by simp only [Nt.okX]; try omega)).up (n := 1) (by simp)).and fun _ h1 h2 => ?_
                    simp only [Nt.least] at h1
                    split
                    · exact .bad h2
                    · next hb => exact (.ok (len_drop1 (isS_none hb)) (by simp only [Nt.least] at *; omega))
                · exact .bad (Nat.zero_le _)
    | many s =>
      simp only [Nt.rank] at h
      have hl : 1 ≤ r.length := ht
      rw [parX]
      split
      · exact .deep (Nat.zero_le _)
      · split
        · next hs => exact (.ok (len_drop1 (isS_some hs)) (by simp only [Nt.least] at *; omega))
        · exact ((IH (.mloop s []) (r.drop 1) d (by simp only [Nt.rank, List.length_drop]; omega) (by simp only [Nt.okX]; try omega)).up hl).less (by simp only [Nt.least]; omega)
    | mloop s l =>
      simp only [Nt.rank] at h
      rw [parX]
      refine (IH .choice r (d + 1) (by simp only [Nt.rank]; omega) (by simp only [Nt.okX]; try omega)).and fun _ h1 h2 => ?_
      simp only [Nt.least] at h1
      split
      · next hs =>
        have hs := len_drop1 (isS_some hs)
        exact ((IH (.mloop s _) (r.drop _) d (by simp only [Nt.rank, List.length_drop]; omega) (by simp only [Nt.okX]; try omega)).up hs).less (by simp only [Nt.least]; omega)
      · split
        · next hs => exact (.ok (len_drop1 (isS_some hs)) (by simp only [Nt.least] at *; omega))
        · exact .bad h2
end Go.Proofs.YthmmgpbojbjihaaGreatDoor

/- Expressions as they lie in memory; arguments that came in, read as expressions (layer 12). -/
namespace Go.Proofs.YthmmgpbojbjihaaGreatDoor
open Go.RowKit Go.Tab Go.ChangeShapes

mutual
/-- How much there is of it. -/
def Exp.bulk : Exp → Nat
  | .mk o t kids => 1 + o.size + t.size + bulkX kids
def bulkX : List Exp → Nat
  | [] => 0
  | t :: r => t.bulk + bulkX r
end
/-- Its cells. -/
abbrev expV (o t : ByteArray) (kv : Value) : List Value := [.string o, .string t, kv]
abbrev exV (o t : ByteArray) (kv : Value) : Value := .agg #[.string o, .string t, kv]
mutual
/-- The cells cs are, in w, the expression. -/
def ExpAt (w : World) : Exp → List Value → Prop
  | .mk op text kids, cs => ∃ a cap, cs = [.string op, .string text, .slice a kids.length cap] ∧
      kids.length ≤ cap ∧ cap ≤ maxLen ∧ (a = none → cap = 0) ∧ ∀ x, a = some x → kids ≠ [] → x.spot = none ∧ x.block < w.heap.size ∧ ExpsAt w x.block x.off kids
def ExpsAt (w : World) (b off : Nat) : List Exp → Prop
  | [] => True
  | t :: r => (∃ cs, (∀ j u, cs[j]? = some u → w.cell? ⟨b, off + j, none⟩ = some u) ∧ ExpAt w t cs) ∧ ExpsAt w b (off + 3) r
end

mutual
theorem ExpAt.below {w w' : World} (hb : Below w.heap.size w w') : ∀ (t : Exp) (cs : List Value), ExpAt w t cs → ExpAt w' t cs
  | .mk op text kids, cs, h => by
    simp only [ExpAt] at h ⊢
    obtain ⟨a, cap, h1, h3, h4, h5, h6⟩ := h
    refine ⟨a, cap, h1, h3, h4, h5, fun x hx hne => ?_⟩
    obtain ⟨g1, g2, g3⟩ := h6 x hx hne
    exact ⟨g1, Nat.lt_of_lt_of_le g2 hb.size, ExpsAt.below hb g2 kids x.off g3⟩
theorem ExpsAt.below {w w' : World} (hb : Below w.heap.size w w') {b : Nat} (hlt : b < w.heap.size) : ∀ (l : List Exp) (off : Nat), ExpsAt w b off l → ExpsAt w' b off l
  | [], _, _ => by simp only [ExpsAt]
  | t :: r, off, h => by
    simp only [ExpsAt] at h ⊢
    obtain ⟨⟨cs, h1, h2⟩, h3⟩ := h
    exact ⟨⟨cs, fun j u hu => (hb.cell (p := ⟨b, off + j, none⟩) hlt).trans (h1 j u hu), ExpAt.below hb t cs h2⟩, ExpsAt.below hb hlt r _ h3⟩
end
theorem ExpAt.below_alloc {w : World} {t : Exp} {cs : List Value} (h : ExpAt w t cs) (o : Obj) : ExpAt (w.alloc o) t cs := ExpAt.below ((Below.refl _ w).alloc (Nat.le_refl _) o) t cs h
theorem ExpAt.under {w : World} {t : Exp} {cs : List Value} (h : ExpAt w t cs) (x : Under w) : ExpAt x.w t cs := ExpAt.below x.below t cs h
theorem ExpsAt.get {w : World} {b : Nat} : ∀ {l : List Exp} {off : Nat}, ExpsAt w b off l → ∀ k (hk : k < l.length), ∃ cs, (∀ j u, cs[j]? = some u → w.cell? ⟨b, off + k * 3 + j, none⟩ = some u) ∧ ExpAt w l[k] cs
  | t :: r, off, h, 0, _ => by
    simp only [ExpsAt] at h
    simpa using h.1
  | t :: r, off, h, k + 1, hk => by
    simp only [ExpsAt] at h
    obtain ⟨cs, h1, h2⟩ := ExpsAt.get h.2 k (by simpa using hk)
    refine ⟨cs, fun j u hu => ?_, by simpa using h2⟩
    rw [← h1 j u hu]
    congr 2
    omega
theorem ExpAt.shape {w : World} {t : Exp} {cs : List Value} (h : ExpAt w t cs) : ∃ op text sa sn sc, cs = [.string op, .string text, .slice sa sn sc] := by
  cases t
  simp only [ExpAt] at h
  obtain ⟨a, cap, rfl, -⟩ := h
  exact ⟨_, _, _, _, _, rfl⟩
/-- A kid's three cells, at its place. -/
theorem exp_at {w : World} {t : Exp} {cs : List Value} {b o : Nat} (hv : ExpAt w t cs) (hc : ∀ j u, cs[j]? = some u → w.cell? ⟨b, o + j, none⟩ = some u) :
    ∃ op text sa sn sc, cs = [.string op, .string text, .slice sa sn sc] ∧ w.cell? ⟨b, o, none⟩ = some (.string op) ∧ w.cell? ⟨b, o + 1, none⟩ = some (.string text) ∧ w.cell? ⟨b, o + 2, none⟩ = some (.slice sa sn sc) := by
  obtain ⟨op, text, sa, sn, sc, rfl⟩ := hv.shape
  exact ⟨op, text, sa, sn, sc, rfl, by simpa using hc 0 _ rfl, hc 1 _ rfl, hc 2 _ rfl⟩
theorem bulkX_kid : ∀ {l : List Exp} {k : Nat} (hk : k < l.length), l[k].bulk ≤ bulkX l
  | t :: r, 0, _ => by simp only [bulkX, List.getElem_cons_zero]; omega
  | t :: r, k + 1, hk => by
    have := bulkX_kid (l := r) (k := k) (by simpa using hk)
    simp only [bulkX, List.getElem_cons_succ]; omega
theorem bulkX_pos (t : Exp) : 1 ≤ t.bulk := by cases t; simp only [Exp.bulk]; omega
theorem len_bulkX : ∀ l : List Exp, l.length ≤ bulkX l
  | [] => by simp [bulkX]
  | t :: r => by have := len_bulkX r; have := bulkX_pos t; simp only [bulkX, List.length_cons]; omega
theorem bulkX_take : ∀ (l : List Exp) (k : Nat), bulkX (l.take k) ≤ bulkX l
  | [], k => by simp [bulkX]
  | t :: r, 0 => by simp [bulkX]
  | t :: r, k + 1 => by have := bulkX_take r k; simp only [List.take_succ_cons, bulkX]; omega

mutual
/-- No slice and no text in it has more than the statements' reach. -/
def FitX : Exp → Prop
  | .mk o t kids => o.size ≤ 140737488351232 ∧ t.size ≤ 140737488351232 ∧ kids.length ≤ 140737488351232 ∧ FitXs kids
def FitXs : List Exp → Prop
  | [] => True
  | t :: r => FitX t ∧ FitXs r
end
theorem FitX.kid : ∀ {l : List Exp} {k : Nat} (h : k < l.length), FitXs l → FitX l[k]
  | t :: r, 0, _, h => by simp only [FitXs] at h; exact h.1
  | t :: r, k + 1, hk, h => by
    simp only [FitXs] at h
    exact FitX.kid (l := r) (k := k) (by simpa using hk) h.2

section
variable {H : Type} {enc : TypeId × Value → H} {W : World} {base : Nat} {spare : Nat → Bool} {held : Bool}
theorem exps_of : ∀ (l : List (DataW H)) (b off : Nat) (h : ∀ i (hi : i < l.length), ∃ t cs, (∀ j u, cs[j]? = some u → W.cell? ⟨b, off + i * 3 + j, none⟩ = some u) ∧ ExpAt W t cs ∧ ((∀ m ∈ l[i].weights Tryz.prog 34, m ≤ reachBytes) → FitX t)),
    ∃ kids : List Exp, kids.length = l.length ∧ ExpsAt W b off kids ∧ ((∀ m ∈ DataW.weightsAll Tryz.prog 34 l, m ≤ reachBytes) → FitXs kids)
  | [], _, _, _ => ⟨[], rfl, (by unfold ExpsAt; trivial), fun _ => by simp only [FitXs]⟩
  | d :: r, b, off, h => by
    obtain ⟨t, cs, h1, h2, h4⟩ := h 0 (by simp)
    obtain ⟨kids, g1, g2, g4⟩ := exps_of r b (off + 3) (fun i hi => by
      obtain ⟨t, cs, k1, k2, k4⟩ := h (i + 1) (by simp; omega)
      refine ⟨t, cs, fun j u hu => ?_, k2, by simpa using k4⟩
      rw [← k1 j u hu]
      congr 2
      omega)
    refine ⟨t :: kids, by simp [g1], ?_, fun hw => ?_⟩
    · simp only [ExpsAt]
      exact ⟨⟨cs, fun j u hu => by have := h1 j u hu; simpa using this, h2⟩, g2⟩
    · simp only [FitXs]
      simp only [DataW.weightsAll, List.mem_append] at hw
      exact ⟨h4 (fun m hm => hw m (.inl (by simpa using hm))), g4 (fun m hm => hw m (.inr hm))⟩
theorem Tryz.byExpr : Tryz.prog.bytesOf 34 = 56 := by kernel_rfl
theorem Tryz.uExpr : ∃ f0 f1 f2 : Field, Tryz.prog.underlying 34 = some (.struct #[f0, f1, f2]) ∧ f0.type = 9 ∧ f0.offset = 0 ∧ f1.type = 9 ∧ f1.offset = 1 ∧ f2.type = 32 ∧ f2.offset = 2 :=
  ⟨_, _, _, Tryz.underlying34, rfl, rfl, rfl, rfl, rfl, rfl⟩
theorem Tryz.cxStr : Tryz.prog.cellsOf 9 = 1 := by kernel_rfl
theorem Tryz.cxExprs : Tryz.prog.cellsOf 32 = 1 := by kernel_rfl
theorem Tryz.cxExpr : Tryz.prog.cellsOf 34 = 3 := by kernel_rfl

set_option maxHeartbeats 2000000 in
set_option maxRecDepth 100000 in
theorem exp_open : ∀ (n : Nat) (cs : List Value) (x : DataW H × List MemPlace), DataW.trod enc Tryz.prog W base spare held n 34 cs = some x → ∃ t, ExpAt W t cs ∧ ((∀ m ∈ x.1.weights Tryz.prog 34, m ≤ reachBytes) → FitX t)
  | n, cs, x, h => by
    obtain ⟨f0, f1, f2, hu, t0, o0, t1, o1, t2, o2⟩ := Tryz.uExpr
    obtain ⟨xs, n1, rfl, rfl, hlen, hxl, hf⟩ := DataW.trod_struct hu h
    rw [Tryz.cxExpr] at hlen
    obtain ⟨c0, c1, c2, rfl⟩ := len3 hlen
    obtain ⟨y0, y1, y2, rfl⟩ := len3 (by simpa using hxl)
    have e0 := hf 0 f0 rfl
    have e1 := hf 1 f1 rfl
    have e2 := hf 2 f2 rfl
    rw [t0, o0, Tryz.cxStr] at e0
    rw [t1, o1, Tryz.cxStr] at e1
    rw [t2, o2, Tryz.cxExprs] at e2
    simp at e0 e1 e2
    obtain ⟨op, g0, rfl, hop⟩ := DataW.trod_string Tryz.underlying9 e0
    obtain ⟨text, g1, rfl, htext⟩ := DataW.trod_string Tryz.underlying9 e1
    simp at g0 g1
    subst g0 g1
    have hkids : ∃ (kids : List Exp) (a : Option Addr) (cap : Nat), c2 = .slice a kids.length cap ∧ kids.length ≤ cap ∧ cap ≤ maxLen ∧ (a = none → cap = 0) ∧ (∀ x, a = some x → kids ≠ [] → x.spot = none ∧ x.block < W.heap.size ∧ ExpsAt W x.block x.off kids) ∧ ((∀ m ∈ y2.1.weights Tryz.prog 32, m ≤ reachBytes) → kids.length ≤ 140737488351232 ∧ FitXs kids) := by
      rcases DataW.trod_slice Tryz.underlying32 e2 with ⟨h1, h2⟩ | ⟨a, ln, cp, elems, rest, n3, hn3, h1, hx, hb, hl, hm, hel, hcell, -, -⟩
      · simp at h1
        subst h1
        exact ⟨[], none, 0, rfl, Nat.le_refl _, by decide, fun _ => rfl, (fun x h => by cases h), fun _ => ⟨by simp, by simp only [FitXs]⟩⟩
      · simp at h1
        subst h1
        have each : ∀ i, i < ln → ∃ cs', W.cells? base (a.add (i * 3)) 3 = some cs' ∧ DataW.trod enc Tryz.prog W base spare held n3 34 cs' = some (elems.getD i (.nil, [])) := fun i hi => by
          have := hcell i hi
          rw [Tryz.cxExpr, List.getElem?_eq_getElem (by omega)] at this
          obtain ⟨cs', r1, r2⟩ := Option.bind_eq_some_iff.1 this
          exact ⟨cs', r1, by rw [r2, List.getD_eq_getElem?_getD, List.getElem?_eq_getElem (by omega)]; rfl⟩
        by_cases h0 : ln = 0
        · subst h0
          exact ⟨[], some a, cp, rfl, hl, hm, (fun h => by cases h), (fun x _ h => absurd rfl h), fun _ => ⟨by simp, by simp only [FitXs]⟩⟩
        · have hsp : a.spot = none := by
            obtain ⟨cs', r1, r2⟩ := each 0 (by omega)
            obtain ⟨l1, l2⟩ := cells_at r1
            obtain ⟨u0, u1, u2, rfl⟩ := len3 l1
            have := World.cell?_spot (l2 0 u0 rfl)
            simpa [Addr.add] using this
          obtain ⟨bb, off, sp⟩ := a
          simp only at hsp
          subst hsp
          have hlt : bb < W.heap.size := by
            obtain ⟨cs', r1, r2⟩ := each 0 (by omega)
            obtain ⟨l1, l2⟩ := cells_at r1
            obtain ⟨u0, u1, u2, rfl⟩ := len3 l1
            have := World.block_lt_of_cell? W _ (l2 0 u0 rfl)
            simpa [Addr.add] using this
          obtain ⟨kids, r1, r2, r4⟩ := exps_of (H := H) (W := W) (elems.map (·.1)) bb off (fun i hi => by
            simp at hi
            obtain ⟨cs', r1, r2⟩ := each i (by omega)
            obtain ⟨l1, l2⟩ := cells_at r1
            obtain ⟨t, v1, v3⟩ := exp_open n3 cs' _ r2
            refine ⟨t, cs', fun j u hu => ?_, v1, ?_⟩
            · have := l2 j u hu
              rw [Addr.add_lit, Addr.add_lit] at this
              exact this
            · rw [List.getD_eq_getElem?_getD, List.getElem?_eq_getElem hi] at v3
              simpa using v3)
          simp at r1
          refine ⟨kids, some ⟨bb, off, none⟩, cp, by rw [r1, hel], by omega, hm, (fun h => by cases h), (fun x hx _ => by cases hx; exact ⟨rfl, hlt, r2⟩), fun hw => ?_⟩
          rw [hx] at hw
          simp only [DataW.weights, Tryz.underlying32, Tryz.byExpr, List.mem_cons, List.mem_append] at hw
          refine ⟨?_, r4 (fun m hm => hw m (.inr (.inl hm)))⟩
          have := hw _ (.inl rfl)
          simp only [List.length_map] at this
          unfold reachBytes at this
          omega
    obtain ⟨kids, a, cap, rfl, h1, h2, h3, h4, h6⟩ := hkids
    refine ⟨.mk op text kids, ?_, fun hw => ?_⟩
    · simp only [ExpAt]
      exact ⟨a, cap, rfl, h1, h2, h3, h4⟩
    · have e1 : op.size = op.data.toList.length := rfl
      have e2 : text.size = text.data.toList.length := rfl
      simp only [DataW.weights, hu, List.map_cons, List.map_nil, DataW.weightsEach, t0, t1, t2, List.mem_append, List.mem_cons, List.not_mem_nil, or_false, false_or] at hw
      obtain ⟨k3, k4⟩ := h6 (fun m hm => hw m (by simp [hm]))
      have k5 := hw _ (.inl rfl)
      have k6 := hw _ (.inr (.inl rfl))
      unfold reachBytes at k5 k6
      simp only [FitX]
      exact ⟨by omega, by omega, k3, k4⟩
  termination_by n => n
  decreasing_by all_goals omega
end
end Go.Proofs.YthmmgpbojbjihaaGreatDoor

/- Expressions whose parts lie in blocks of a kind, and what they keep (layer 12). -/
namespace Go.Proofs.YthmmgpbojbjihaaGreatDoor
open Go.RowKit Go.Tab

mutual
def ExpIn (P : Nat → Prop) (w : World) : Exp → List Value → Prop
  | .mk op text kids, cs => ∃ a cap, cs = [.string op, .string text, .slice a kids.length cap] ∧
      kids.length ≤ cap ∧ cap ≤ maxLen ∧ (a = none → cap = 0) ∧ ∀ x, a = some x → kids ≠ [] → x.spot = none ∧ (x.block < w.heap.size ∧ P x.block ∧ ∀ off, w.frozen? ⟨x.block, off, none⟩ = false) ∧ ExpsIn P w x.block x.off kids
def ExpsIn (P : Nat → Prop) (w : World) (b off : Nat) : List Exp → Prop
  | [] => True
  | t :: r => (∃ cs, (∀ j u, cs[j]? = some u → w.cell? ⟨b, off + j, none⟩ = some u) ∧ ExpIn P w t cs) ∧ ExpsIn P w b (off + 3) r
end
mutual
theorem ExpIn.at {P : Nat → Prop} {w : World} : ∀ (t : Exp) (cs : List Value), ExpIn P w t cs → ExpAt w t cs
  | .mk op text kids, cs, h => by
    simp only [ExpIn] at h
    simp only [ExpAt]
    obtain ⟨a, cap, h1, h3, h4, h5, h6⟩ := h
    refine ⟨a, cap, h1, h3, h4, h5, fun x hx hne => ?_⟩
    obtain ⟨g1, g2, g3⟩ := h6 x hx hne
    exact ⟨g1, g2.1, ExpsIn.at kids x.off g3⟩
theorem ExpsIn.at {P : Nat → Prop} {w : World} {b : Nat} : ∀ (l : List Exp) (off : Nat), ExpsIn P w b off l → ExpsAt w b off l
  | [], _, _ => by simp only [ExpsAt]
  | t :: r, off, h => by
    simp only [ExpsIn] at h
    simp only [ExpsAt]
    obtain ⟨⟨cs, h1, h2⟩, h3⟩ := h
    exact ⟨⟨cs, h1, ExpIn.at t cs h2⟩, ExpsIn.at r _ h3⟩
end
mutual
/-- What keeps the blocks of the kind keeps the value, and its kind may be widened. -/
theorem ExpIn.move {P Q : Nat → Prop} {w w' : World} (hs : w.heap.size ≤ w'.heap.size) (hb : ∀ k, P k → k < w.heap.size → w'.heap[k]? = w.heap[k]?) (hq : ∀ k, P k → k < w.heap.size → Q k) :
    ∀ (t : Exp) (cs : List Value), ExpIn P w t cs → ExpIn Q w' t cs
  | .mk op text kids, cs, h => by
    simp only [ExpIn] at h ⊢
    obtain ⟨a, cap, h1, h3, h4, h5, h6⟩ := h
    refine ⟨a, cap, h1, h3, h4, h5, fun x hx hne => ?_⟩
    obtain ⟨g1, g2, g3⟩ := h6 x hx hne
    exact ⟨g1, ⟨Nat.lt_of_lt_of_le g2.1 hs, hq _ g2.2.1 g2.1, fun off => (frozen_same (hb _ g2.2.1 g2.1) off).trans (g2.2.2 off)⟩, ExpsIn.move hs hb hq ⟨g2.1, g2.2.1⟩ kids x.off g3⟩
theorem ExpsIn.move {P Q : Nat → Prop} {w w' : World} (hs : w.heap.size ≤ w'.heap.size) (hb : ∀ k, P k → k < w.heap.size → w'.heap[k]? = w.heap[k]?) (hq : ∀ k, P k → k < w.heap.size → Q k) {b : Nat} (hP : b < w.heap.size ∧ P b) :
    ∀ (l : List Exp) (off : Nat), ExpsIn P w b off l → ExpsIn Q w' b off l
  | [], _, _ => by simp only [ExpsIn]
  | t :: r, off, h => by
    simp only [ExpsIn] at h ⊢
    obtain ⟨⟨cs, h1, h2⟩, h3⟩ := h
    exact ⟨⟨cs, fun j u hu => (cell_same (hb b hP.2 hP.1) _).trans (h1 j u hu), ExpIn.move hs hb hq t cs h2⟩, ExpsIn.move hs hb hq hP r _ h3⟩
end
/-- The kids of a block that is being filled, from their cells one by one. -/
theorem ExpsIn.make {P : Nat → Prop} {w : World} {b : Nat} : ∀ (l : List Exp) (off : Nat), (∀ k (h : k < l.length), ∃ cs, (∀ j u, cs[j]? = some u → w.cell? ⟨b, off + k * 3 + j, none⟩ = some u) ∧ ExpIn P w l[k] cs) → ExpsIn P w b off l
  | [], _, _ => by simp only [ExpsIn]
  | t :: r, off, h => by
    simp only [ExpsIn]
    constructor
    · obtain ⟨cs, h1, h2⟩ := h 0 (by simp)
      exact ⟨cs, fun j u hu => by have := h1 j u hu; simpa using this, by simpa using h2⟩
    · refine ExpsIn.make r (off + 3) (fun k hk => ?_)
      obtain ⟨cs, h1, h2⟩ := h (k + 1) (by simp; omega)
      refine ⟨cs, fun j u hu => ?_, by simpa using h2⟩
      rw [← h1 j u hu]
      congr 2
      omega
theorem ExpsIn.get {P : Nat → Prop} {w : World} {b : Nat} : ∀ {l : List Exp} {off : Nat}, ExpsIn P w b off l → ∀ k (hk : k < l.length), ∃ cs, (∀ (j : Nat) (u : Value), cs[j]? = some u → w.cell? ⟨b, off + k * 3 + j, none⟩ = some u) ∧ ExpIn P w l[k] cs
  | t :: r, off, h, 0, _ => by
    simp only [ExpsIn] at h
    simpa using h.1
  | t :: r, off, h, k + 1, hk => by
    simp only [ExpsIn] at h
    obtain ⟨cs, h1, h2⟩ := ExpsIn.get h.2 k (by simpa using hk)
    refine ⟨cs, fun j u hu => ?_, by simpa using h2⟩
    rw [← h1 j u hu]
    congr 2
    omega
theorem ExpIn.below {P : Nat → Prop} {w w' : World} (hb : Below w.heap.size w w') (t : Exp) (cs : List Value) (h : ExpIn P w t cs) : ExpIn P w' t cs :=
  ExpIn.move hb.size (fun k _ hk => hb.block k hk) (fun _ h _ => h) t cs h
theorem ExpIn.len3 {P : Nat → Prop} {w : World} {t : Exp} {cs : List Value} (h : ExpIn P w t cs) : cs.length = 3 := by
  cases t
  simp only [ExpIn] at h
  obtain ⟨a, cap, rfl, -⟩ := h
  rfl
theorem ExpIn.shape {P : Nat → Prop} {w : World} {t : Exp} {cs : List Value} (h : ExpIn P w t cs) : ∃ op text sa sn sc, cs = [.string op, .string text, .slice sa sn sc] := (ExpIn.at _ _ h).shape
/-- An expression without kids. -/
theorem ExpIn.leaf (P : Nat → Prop) (w : World) (o t : ByteArray) : ExpIn P w (.mk o t []) [.string o, .string t, .slice none 0 0] := by
  simp only [ExpIn]
  exact ⟨none, 0, rfl, Nat.le_refl _, Nat.zero_le _, fun _ => rfl, fun x hx => by cases hx⟩
/-- All but one old block kept: a value that lies in blocks from base on, base behind that one. -/
theorem ExpIn.save {base g : Nat} {w w' : World} (h : Save g w w') (hg : g < base) (t : Exp) (cs : List Value) (hv : ExpIn (fun k => base ≤ k) w t cs) : ExpIn (fun k => base ≤ k) w' t cs :=
  ExpIn.move h.size (fun k hk hlt => h.2 k hlt (by omega)) (fun _ h _ => h) t cs hv
theorem ExpIn.wide {base b2 : Nat} {w : World} (hb : b2 ≤ base) (t : Exp) (cs : List Value) (hv : ExpIn (fun k => base ≤ k) w t cs) : ExpIn (fun k => b2 ≤ k) w t cs :=
  ExpIn.move (Nat.le_refl _) (fun _ _ _ => rfl) (fun _ h _ => Nat.le_trans hb h) t cs hv
/-- Kids that lie in a block that was made for them: told cell by cell. -/
theorem ExpIn.node {base : Nat} {w : World} {o t : ByteArray} {kids : List Exp} {b cap : Nat} (hb : base ≤ b) (hlt : b < w.heap.size) (hf : ∀ off, w.frozen? ⟨b, off, none⟩ = false) (hc : kids.length ≤ cap) (hm : cap ≤ maxLen)
    (h : ∀ k (h : k < kids.length), ∃ cs, (∀ j u, cs[j]? = some u → w.cell? ⟨b, k * 3 + j, none⟩ = some u) ∧ ExpIn (fun k => base ≤ k) w kids[k] cs) :
    ExpIn (fun k => base ≤ k) w (.mk o t kids) [.string o, .string t, .slice (some ⟨b, 0, none⟩) kids.length cap] := by
  simp only [ExpIn]
  refine ⟨some ⟨b, 0, none⟩, cap, rfl, hc, hm, (fun h => by cases h), fun x hx _ => ?_⟩
  cases hx
  exact ⟨rfl, ⟨hlt, hb, hf⟩, ExpsIn.make kids 0 (fun k hk => by
    obtain ⟨cs, h1, h2⟩ := h k hk
    exact ⟨cs, fun j u hu => by rw [Nat.zero_add]; exact h1 j u hu, h2⟩)⟩
end Go.Proofs.YthmmgpbojbjihaaGreatDoor

/- Rows of tokens: what is read, and what a call owns (layer 11). -/
namespace Go.Proofs.YthmmgpbojbjihaaGreatDoor
open Go.RowKit Go.Tab

/-- A token, as three cells. -/
def tokC (t : Tok) : List Value := [.int .i64 t.kind, .string t.text, .int .i64 t.pos]
abbrev tokV (t : Tok) : Value := .agg #[.int .i64 t.kind, .string t.text, .int .i64 t.pos]
def OwnT (base : Nat) (w : World) (v : Value) (l : List Tok) : Prop := w.ownsRow base 45 3 v l.length (l.flatMap tokC)
theorem OwnT.nil {base : Nat} {w : World} : OwnT base w (.slice none 0 0) [] := World.ownsRow_nil _ _ _ _
theorem OwnT.alloc {base : Nat} {w : World} {v : Value} {l : List Tok} (h : OwnT base w v l) (o : Obj) : OwnT base (w.alloc o) v l := World.ownsRow.alloc h o
theorem OwnT.moved {base : Nat} {w w' : World} {v : Value} {l : List Tok} (h : OwnT base w v l) (hc : ∀ k, v.ownBlock = some k → w'.heap[k]? = w.heap[k]?) : OwnT base w' v l := by
  obtain ⟨h1, h2⟩ := h
  refine ⟨h1, ?_⟩
  rcases h2 with h2 | ⟨g, cap, cur, rfl, hg0, hg, r⟩
  · exact .inl h2
  · exact .inr ⟨g, cap, cur, rfl, hg0, by rw [hc g rfl]; exact hg, r⟩
theorem OwnT.below {base B : Nat} {w w' : World} {v : Value} {l : List Tok} (h : OwnT base w v l) (hb : Below B w w') (hB : w.heap.size ≤ B) : OwnT base w' v l :=
  h.moved fun k hk => hb.block k (Nat.lt_of_lt_of_le (World.ownsRow.lt h k hk).2 hB)
theorem OwnT.base_le {base base' : Nat} {w : World} {v : Value} {l : List Tok} (h : OwnT base w v l) (hb : base' ≤ base) : OwnT base' w v l := by
  obtain ⟨h1, h2⟩ := h
  refine ⟨h1, ?_⟩
  rcases h2 with h2 | ⟨g, cap, cur, hv, hg0, r⟩
  · exact .inl h2
  · exact .inr ⟨g, cap, cur, hv, by omega, r⟩
theorem OwnT.len {base : Nat} {w : World} {v : Value} {l : List Tok} (h : OwnT base w v l) : ∃ a cap, v = .slice a l.length cap := by
  obtain ⟨h1, h2⟩ := h
  rcases h2 with ⟨rfl, h3⟩ | ⟨g, cap, cur, rfl, _⟩
  · exact ⟨none, 0, by rw [h3]⟩
  · exact ⟨_, cap, rfl⟩
theorem Tryz.infoTok : (Tryz.prog.info? 45).map (fun i => (i.zero, i.size, i.bytes)) = some (some (.agg #[.int .i64 0, .string ⟨#[]⟩, .int .i64 0]), 3, 32) := by kernel_rfl
theorem tokC_one (t : Tok) : ∀ u ∈ tokC t, u.oneCell' = true := by
  intro u hu
  simp only [tokC, List.mem_cons, List.not_mem_nil, or_false] at hu
  rcases hu with rfl | rfl | rfl <;> rfl

theorem flat_tok : ∀ (l : List Tok) (j : Nat) (h : j < l.length), (l.flatMap tokC)[j * 3]? = some (.int .i64 l[j].kind) ∧ (l.flatMap tokC)[j * 3 + 1]? = some (.string l[j].text) ∧ (l.flatMap tokC)[j * 3 + 2]? = some (.int .i64 l[j].pos)
  | p :: l, 0, _ => by simp [tokC]
  | p :: l, j + 1, h => by
    have ih := flat_tok l j (by simpa using h)
    have e1 : (j + 1) * 3 = j * 3 + 3 := by omega
    rw [e1]
    simpa [tokC] using ih

/-- v reads as a row of tokens. -/
def ToksAt (w : World) (v : Value) (l : List Tok) : Prop :=
  ∃ a cap, v = .slice a l.length cap ∧ l.length ≤ cap ∧ cap ≤ maxLen ∧ (a = none → cap = 0) ∧
    ∀ x, a = some x → l ≠ [] → x.spot = none ∧ x.block < w.heap.size ∧ ∀ j (h : j < l.length), w.cell? ⟨x.block, x.off + j * 3, none⟩ = some (.int .i64 l[j].kind) ∧
      w.cell? ⟨x.block, x.off + j * 3 + 1, none⟩ = some (.string l[j].text) ∧ w.cell? ⟨x.block, x.off + j * 3 + 2, none⟩ = some (.int .i64 l[j].pos)
theorem ToksAt.nil {w : World} : ToksAt w (.slice none 0 0) [] := ⟨none, 0, rfl, Nat.le_refl _, Nat.zero_le _, fun _ => rfl, fun x hx => by cases hx⟩
theorem OwnT.toks {base : Nat} {w : World} {v : Value} {l : List Tok} (h : OwnT base w v l) : ToksAt w v l := by
  have hlt := World.ownsRow.lt h
  obtain ⟨h1, h2⟩ := h
  rcases h2 with ⟨rfl, h3⟩ | ⟨g, cap, cur, rfl, hb, hg, h3, h4, h5, h6⟩
  · have : l = [] := List.eq_nil_of_length_eq_zero h3
    subst this
    exact ToksAt.nil
  · refine ⟨_, cap, rfl, h3, h4, (fun h => by cases h), fun x hx _ => ?_⟩
    cases hx
    refine ⟨rfl, (hlt g rfl).2, fun j hj => ?_⟩
    obtain ⟨f1, f2, f3⟩ := flat_tok l j hj
    rw [← h6, List.getElem?_take, if_pos (by omega)] at f1 f2 f3
    refine ⟨?_, ?_, ?_⟩
    · rw [cell_of_row w g _ cur 45 (0, 0) hg]
      simpa using f1
    · rw [cell_of_row w g _ cur 45 (0, 0) hg]
      simpa using f2
    · rw [cell_of_row w g _ cur 45 (0, 0) hg]
      simpa using f3
theorem ToksAt.moved {w w' : World} {v : Value} {l : List Tok} (h : ToksAt w v l) (hs : w.heap.size ≤ w'.heap.size) (hc : ∀ b off, b < w.heap.size → v.ownBlock = some b → w'.cell? ⟨b, off, none⟩ = w.cell? ⟨b, off, none⟩) : ToksAt w' v l := by
  obtain ⟨a, cap, rfl, h1, h2, h3, h4⟩ := h
  refine ⟨a, cap, rfl, h1, h2, h3, fun x hx hl => ?_⟩
  obtain ⟨g1, g2, g3⟩ := h4 x hx hl
  subst hx
  refine ⟨g1, Nat.lt_of_lt_of_le g2 hs, fun j hj => ?_⟩
  rw [hc _ _ g2 rfl, hc _ _ g2 rfl, hc _ _ g2 rfl]
  exact g3 j hj
theorem ToksAt.below {w w' : World} {B : Nat} {v : Value} {l : List Tok} (h : ToksAt w v l) (hb : Below B w w') (hB : w.heap.size ≤ B) : ToksAt w' v l :=
  h.moved hb.size fun b off hx _ => hb.cell (Nat.lt_of_lt_of_le hx hB)
theorem ToksAt.get {w : World} {a : Option Addr} {n cap : Nat} {l : List Tok} (h : ToksAt w (.slice a n cap) l) {j : Nat} (hj : j < l.length) :
    ∃ b off, a = some ⟨b, off, none⟩ ∧ b < w.heap.size ∧ w.cell? ⟨b, off + j * 3, none⟩ = some (.int .i64 l[j].kind) ∧ w.cell? ⟨b, off + j * 3 + 1, none⟩ = some (.string l[j].text) ∧ w.cell? ⟨b, off + j * 3 + 2, none⟩ = some (.int .i64 l[j].pos) := by
  obtain ⟨a', cap', he, h1, h2, h3, h4⟩ := h
  cases he
  cases a with
  | none => have := h3 rfl; omega
  | some x =>
    obtain ⟨b, off, sp⟩ := x
    obtain ⟨rfl, g2, g3⟩ := h4 _ rfl (by intro h0; subst h0; simp at hj)
    exact ⟨b, off, rfl, g2, g3 j hj⟩
theorem ToksAt.len {w : World} {v : Value} {l : List Tok} (h : ToksAt w v l) : ∃ a cap, v = .slice a l.length cap ∧ l.length ≤ cap ∧ cap ≤ maxLen ∧ (a = none → cap = 0) := by
  obtain ⟨a, cap, h1, h2, h3, h4, -⟩ := h
  exact ⟨a, cap, h1, h2, h3, h4⟩

section
variable {w : World} {ops : Array Oper} {rest : List Oper} {o : Oper} {a : Act} {Q : Exit → Act → World → Prop}
/-- 'append(s, t)': t lies in a block of its own. -/
theorem wpList_append_tok (hgd : Region.wanted o (yielded ops a.tmps) = true) (s x : Operand)
    (ho : o.op = .call { callee := .builtin .append, args := #[s, x], argTypes := #[38, 38] })
    (base : Nat) (l : List Tok) (t : Tok) (hown : OwnT base w (a.eval s) l) (g : Nat) (hx : a.eval x = .slice (some ⟨g, 0, none⟩) 1 1)
    (hc0 : w.cell? ⟨g, 0, none⟩ = some (.int .i64 t.kind)) (hc1 : w.cell? ⟨g, 1, none⟩ = some (.string t.text)) (hc2 : w.cell? ⟨g, 2, none⟩ = some (.int .i64 t.pos))
    (hm : l.length ≤ 1000000) (hbase : base ≤ w.heap.size) (w0 : World) (hb : Below base w0 w)
    (hK : ∀ v' w', OwnT base w' v' (l ++ [t]) → Below base w0 w' → w.grownBy w' (a.eval s).ownBlock → wpList Tryz.prog ops Q rest (a.put o.dst v') w') : wpList Tryz.prog ops Q (o :: rest) a w := by
  refine wpList_want hgd fun K hK' => ?_
  obtain ⟨i, hi1, hi2, hi3, hi4⟩ := info_parts Tryz.infoTok
  refine wp_append_own w s x 38 ho base 45 i _ 3 32 Tryz.underlying38 hi1 hi2 hi3 hi4 rfl (by decide) (a.eval s) l.length (l.flatMap tokC) rfl hown ⟨g, 0, none⟩ 1 1 (tokC t) hx rfl ?_ (tokC_one t) (by unfold maxLen; omega) (by omega) hbase ?_
  · intro j u hu
    rw [Addr.add_lit]
    match j with
    | 0 => simp [tokC] at hu; subst hu; simpa using hc0
    | 1 => simp [tokC] at hu; subst hu; simpa using hc1
    | 2 => simp [tokC] at hu; subst hu; simpa using hc2
    | j + 3 => simp [tokC] at hu
  · intro v' w' hown' hg _
    refine hK' _ _ (hK v' w' ?_ (hb.trans (grown_below hg hbase (fun k hk => (World.ownsRow.lt hown k hk).1))) hg)
    unfold OwnT
    simpa using hown'
end
end Go.Proofs.YthmmgpbojbjihaaGreatDoor

/- strings.Builder, wherever it lies in a block of the call's own: copyCheck, WriteByte, WriteString, String. -/
namespace Go.Proofs.YthmmgpbojbjihaaGreatDoor
open Go.RowKit Go.Tab

abbrev OwnU := OwnOf byteV 5
theorem Tryz.uPB : Tryz.prog.underlying 83 = some (.pointer 86) := by kernel_rfl
theorem Tryz.uUP : Tryz.prog.underlying 138 = some .unsafePointer := by kernel_rfl
theorem Tryz.uBytes : Tryz.prog.underlying 84 = some (.slice 5) := by kernel_rfl
theorem Tryz.uStr : Tryz.prog.underlying 9 = some .string := by kernel_rfl
theorem Tryz.infoU8 : (Tryz.prog.info? 5).map (fun i => (i.zero, i.size, i.bytes)) = some (some (.int .u8 0), 1, 1) := by kernel_rfl
theorem Tryz.sizeBld : (Tryz.prog.info? 86).map (·.size) = some 2 := by kernel_rfl
theorem Tryz.cellsU8 : Tryz.prog.cellsOf 5 = 1 := by kernel_rfl
theorem oneU (x : UInt8) : (byteV x).oneCell' = true := rfl
/-- The literal of one byte. -/
theorem lit_one (w : World) (c : UInt8) (n : Int) (hn : n = (c.toNat : Int)) (t : TypeId) : RowOf byteV (w.alloc (.cells #[.int .u8 n] t)) (.slice (some ⟨w.heap.size, 0, none⟩) 1 1) [c] := by
  refine ⟨_, 1, rfl, Nat.le_refl _, by decide, (fun h => by cases h), fun x hx _ => ?_⟩
  cases hx
  subst hn
  refine ⟨rfl, by simp, fun j hj => ?_⟩
  obtain rfl : j = 0 := by simpa using hj
  rw [World.cell?_alloc_new]
  rfl

/-- The builder at ⟨g, o⟩ within a block of cells cs: it holds the bytes l. -/
structure Bld (T : TypeId) (base : Nat) (w : World) (g o : Nat) (cs : Array Value) (l : List UInt8) : Prop where
  cells : Cells w g cs T
  addr : cs[o]? = some (.pointer none) ∨ cs[o]? = some (.pointer (some ⟨g, o, none⟩))
  buf : ∃ v, cs[o + 1]? = some v ∧ OwnU base w v l
/-- Where it may lie. -/
structure BldIn (T : TypeId) (n o : Nat) : Prop where
  ne : T ≠ 5
  lies : liesAt Tryz.prog Tryz.prog.depth T (n / Tryz.prog.cellsOf T) o 86 1 = true
  lt : o + 1 < n
/-- cs' is cs but for the builder at o, which has been used. -/
def Used (g o : Nat) (cs cs' : Array Value) : Prop := cs'.size = cs.size ∧ (∀ j, j ≠ o → j ≠ o + 1 → cs'[j]? = cs[j]?) ∧ cs'[o]? = some (.pointer (some ⟨g, o, none⟩))

set_option maxHeartbeats 1000000 in
set_option maxRecDepth 100000 in
theorem copyCheck_any {T : TypeId} {base g o : Nat} {cs : Array Value} {l : List UInt8} (w : World) (h : Bld T base w g o cs l) (hI : BldIn T cs.size o) (hg : base ≤ g) :
    Calls Tryz.prog 89 #[.pointer (some ⟨g, o, none⟩)] w fun e w' => e = .returned (.tuple #[]) ∧ ∃ cs', Bld T base w' g o cs' l ∧ Used g o cs cs' ∧ (∀ v, cs[o + 1]? = some v → cs'[o + 1]? = some v) ∧ w.grownBy w' (some g) := by
  obtain ⟨hc, ha, v, hv, hown⟩ := h
  obtain ⟨j, hj, hjs⟩ := Option.map_eq_some_iff.1 Tryz.sizeBld
  rcases ha with ha | ha
  · have h0 := hc.cell o _ ha
    have hf := hc.frozen o
    have hsh := hc.shape
    have hlt := hI.lt
    have hu1 := Lib.run_to_unsafe w ⟨g, o, none⟩ Tryz.uPB Tryz.uUP hj (by rw [hjs]; decide) hsh (by show o < cs.size; omega)
    have hu2 := Lib.run_from_unsafe w ⟨g, o, none⟩ Tryz.uUP Tryz.uPB hj hsh hI.lies
    go_enter Tryz.func89, Tryz.ntmps89
    go_wp2
    rw [run_callFunc_extern Tryz.func106 (by kernel_rfl) (by kernel_rfl) (by kernel_rfl) (e := Extern.AbiNoEscape.same) (by kernel_rfl)]
    rw [Lib.run_noEscape]
    simp only [Result.andThen]
    rw [Oper.upon_value]
    go_wp2
    go_end0
    have hgs := grownBy_setAt w g o (.pointer (some ⟨g, o, none⟩))
    refine ⟨rfl, _, ⟨hc.set o (by omega) _, .inr (by simp), v, by rw [Array.getElem?_set_ne (by omega) (by omega)]; exact hv, hown.kept hgs (.inr (own_ne_box hown hc hI.ne))⟩, ⟨by simp, fun k h1 _ => by rw [Array.getElem?_set_ne (by omega) (fun e => h1 e.symm)], by simp⟩, fun u hu => by rw [Array.getElem?_set_ne (by omega) (by omega)]; exact hu, hgs⟩
  · have h0 := hc.cell o _ ha
    have hnq := Lib.run_neq_ptr_same w ⟨g, o, none⟩ Tryz.uPB hj
    go_enter Tryz.func89, Tryz.ntmps89
    go_wp2
    go_end0
    exact ⟨rfl, cs, ⟨hc, .inr ha, v, hv, hown⟩, ⟨rfl, fun _ _ _ => rfl, ha⟩, fun _ h => h, World.grownBy.refl _ _⟩

/-- The bytes' cell, once more. -/
theorem Used.trans {g o : Nat} {a b c : Array Value} (h : Used g o a b) (h2 : Used g o b c) : Used g o a c :=
  ⟨h2.1.trans h.1, fun j h3 h4 => (h2.2.1 j h3 h4).trans (h.2.1 j h3 h4), h2.2.2⟩

theorem Bld.put {T : TypeId} {base g o : Nat} {cs : Array Value} {l' : List UInt8} {w : World} {v' : Value} (h : Cells w g cs T) (hI : BldIn T cs.size o) (ha : cs[o]? = some (.pointer (some ⟨g, o, none⟩))) (hown : OwnU base w v' l') :
    ∃ cs', Bld T base (w.setCell ⟨g, o + 1, none⟩ v') g o cs' l' ∧ Used g o cs cs' := by
  have hlt := hI.lt
  refine ⟨_, ⟨h.set (o + 1) hlt v', .inr (by rw [Array.getElem?_set_ne hlt (by omega)]; exact ha), v', by simp, hown.setOther _ _ (fun e => own_ne_box hown h hI.ne e)⟩, by simp, fun j h1 h2 => by rw [Array.getElem?_set_ne hlt (fun e => h2 e.symm)], by rw [Array.getElem?_set_ne hlt (by omega)]; exact ha⟩

set_option maxHeartbeats 1000000 in
set_option maxRecDepth 100000 in
theorem WriteByte_any {T : TypeId} {base g o : Nat} {cs : Array Value} {l : List UInt8} (w : World) (c : UInt8) (n : Int) (hn : n = (c.toNat : Int)) (h : Bld T base w g o cs l) (hI : BldIn T cs.size o) (hg : base ≤ g) (hlen : l.length ≤ 1000000000) :
    Calls Tryz.prog 65 #[.pointer (some ⟨g, o, none⟩), .int .u8 n] w fun e w' => e = .returned .nilIface ∧ ∃ cs', Bld T base w' g o cs' (l ++ [c]) ∧ Used g o cs cs' ∧ Below base w w' ∧ Beside 5 g w w' := by
  have hb0 : base ≤ w.heap.size := by have := h.cells.lt; omega
  subst hn
  go_enter Tryz.func65, Tryz.ntmps65
  go_wp2_with fail
  refine (copyCheck_any w h hI hg).mono ?_
  rintro e w1 ⟨rfl, cs1, h1, hU, hbuf, hg1⟩
  have hb1 : Below base w w1 := grown_below hg1 hb0 (fun k hk => by cases hk; exact hg)
  have hz1 := hg1.size
  obtain ⟨hc1, ha1, v, hv, hown⟩ := h1
  have hk1 := hc1.cell (o + 1) _ hv
  go_wp2_with (with_reducible first | refine stop_append ?_ | refine stop_make ?_ | refine stop_slice ?_ | refine stop_copy ?_); refine Stop.out ?_
  refine wpList_append_row (f := byteV) rfl _ _ 84 rfl base 5 1 _ Tryz.uBytes Tryz.infoU8 rfl oneU l [c] (by exact hown.alloc _) (by exact lit_one w1 c _ rfl _) (by unfold maxLen; simp; omega) (by simp; omega) (by simp; omega) w (by exact hb1.alloc (by omega) _) ?_
  intro v2 w2 ho2 hb2 hg2
  obtain ⟨a2, n2, c2, rfl, -⟩ := ho2.row.shape
  have hc2 := (hc1.alloc (.cells #[.int .u8 (c.toNat : Int)] 5)).kept hg2 (fun e => (own_ne_box hown hc1 (by exact hI.ne)) e.symm)
  have hB2 : Beside 5 g w w2 := (((Beside.refl.grown hg1 (fun k hk => .inl (by cases hk; rfl))).alloc (.cells #[.int .u8 (c.toNat : Int)] 5)).grown hg2 (fun k hk => .inr (own_is_row (hown.alloc (.cells #[.int .u8 (c.toNat : Int)] 5)) k hk)))
  have hf2 := hc2.frozen (o + 1)
  have hd2 := hc2.cell (o + 1) _ hv
  have hsz : cs1.size = cs.size := hU.1
  obtain ⟨cs3, h3, hU3⟩ := Bld.put hc2 (by rw [hsz]; exact hI) hU.2.2 ho2
  have hb3 := hb2.setCell (p := ⟨g, o + 1, none⟩) hg (.slice a2 n2 c2)
  have hB3 := hB2.setCell (o + 1) (.slice a2 n2 c2)
  clear hB2
  go_wp2
  go_ret
  exact ⟨rfl, cs3, h3, hU.trans hU3, hb3, hB3⟩

theorem strCells_map (s : ByteArray) : Lib.strCells s = s.data.toList.map byteV := rfl
/-- 'append(v, s...)', s a string. -/
theorem wpList_append_str {P : Program} {w : World} {ops : Array Oper} {rest : List Oper} {o : Oper} {a : Act} {Q : Exit → Act → World → Prop} (hgd : o.guard = none) (sl x : Operand) (t u : TypeId)
    (ho : o.op = .call { callee := .builtin .append, args := #[sl, x], argTypes := #[t, u] }) (base : Nat) (e : TypeId) (ht : P.underlying t = some (.slice e)) (hu : P.underlying u = some .string)
    (hi : (P.info? e).map (fun i => (i.zero, i.size, i.bytes)) = some (some (.int .u8 0), 1, 1)) (l : List UInt8) (hown : OwnOf byteV e base w (a.eval sl) l) (s : ByteArray) (hx : a.eval x = .string s)
    (hlen : l.length + s.size ≤ 2000000000) (hbase : base ≤ w.heap.size) (w0 : World) (hb : Below base w0 w)
    (hK : ∀ v' w', OwnOf byteV e base w' v' (l ++ s.data.toList) → Below base w0 w' → w.grownBy w' (a.eval sl).ownBlock → wpList P ops Q rest (a.put o.dst v') w') : wpList P ops Q (o :: rest) a w := by
  obtain ⟨i, hi1, hi2, hi3, hi4⟩ := info_parts hi
  refine Lib.wpList_append_own_string w hgd sl x t u ho base e i ht hu hi1 hi2 hi3 hi4 (a.eval sl) l.length (l.map byteV) rfl hown s hx (by unfold maxLen; omega) (by omega) hbase ?_
  intro v' w' hown' hg _
  refine hK v' w' ?_ (hb.trans (grown_below hg hbase (fun k hk => (World.ownsRow.lt hown k hk).1))) hg
  unfold OwnOf
  rw [show (l ++ s.data.toList).length = l.length + s.size by rw [List.length_append]; rfl, List.map_append]
  exact hown'

set_option maxHeartbeats 1000000 in
set_option maxRecDepth 100000 in
theorem WriteString_any {T : TypeId} {base g o : Nat} {cs : Array Value} {l : List UInt8} (w : World) (s : ByteArray) (h : Bld T base w g o cs l) (hI : BldIn T cs.size o) (hg : base ≤ g) (hlen : l.length + s.size ≤ 1000000000) :
    Calls Tryz.prog 91 #[.pointer (some ⟨g, o, none⟩), .string s] w fun e w' => e = .returned (.tuple #[.int .i64 s.size, .nilIface]) ∧ ∃ cs', Bld T base w' g o cs' (l ++ s.data.toList) ∧ Used g o cs cs' ∧ Below base w w' ∧ Beside 5 g w w' := by
  have hb0 : base ≤ w.heap.size := by have := h.cells.lt; omega
  go_enter Tryz.func91, Tryz.ntmps91
  go_wp2_with fail
  refine (copyCheck_any w h hI hg).mono ?_
  rintro e w1 ⟨rfl, cs1, h1, hU, hbuf, hg1⟩
  have hb1 : Below base w w1 := grown_below hg1 hb0 (fun k hk => by cases hk; exact hg)
  have hz1 := hg1.size
  obtain ⟨hc1, ha1, v, hv, hown⟩ := h1
  have hk1 := hc1.cell (o + 1) _ hv
  go_wp2_with (with_reducible first | refine stop_append ?_ | refine stop_make ?_ | refine stop_slice ?_ | refine stop_copy ?_); refine Stop.out ?_
  refine wpList_append_str rfl _ _ 84 9 rfl base 5 Tryz.uBytes Tryz.uStr Tryz.infoU8 l (by exact hown) s rfl (by omega) (by omega) w (by exact hb1) ?_
  intro v2 w2 ho2 hb2 hg2
  obtain ⟨a2, n2, c2, rfl, -⟩ := ho2.row.shape
  have hc2 := hc1.kept hg2 (fun e => (own_ne_box hown hc1 (by exact hI.ne)) e.symm)
  have hB2 : Beside 5 g w w2 := ((Beside.refl.grown hg1 (fun k hk => .inl (by cases hk; rfl))).grown hg2 (fun k hk => .inr (own_is_row hown k hk)))
  have hf2 := hc2.frozen (o + 1)
  have hd2 := hc2.cell (o + 1) _ hv
  have hsz : cs1.size = cs.size := hU.1
  obtain ⟨cs3, h3, hU3⟩ := Bld.put hc2 (by rw [hsz]; exact hI) hU.2.2 ho2
  have hb3 := hb2.setCell (p := ⟨g, o + 1, none⟩) hg (.slice a2 n2 c2)
  have hB3 := hB2.setCell (o + 1) (.slice a2 n2 c2)
  clear hB2
  go_wp2
  go_ret2
  exact ⟨rfl, cs3, h3, hU.trans hU3, hb3, hB3⟩

theorem Tryz.uPU8 : Tryz.prog.underlying 111 = some (.pointer 5) := by kernel_rfl
theorem freeze_other (w : World) (p : Addr) (n k : Nat) (hk : k ≠ p.block) : (w.freeze p n).heap[k]? = w.heap[k]? := by
  unfold World.freeze
  split
  · rfl
  · simp only [Array.getElem?_modify]
    rw [if_neg (fun e => hk e.symm)]
set_option maxHeartbeats 1000000 in
set_option maxRecDepth 100000 in
theorem String_any {T : TypeId} {base g o : Nat} {cs : Array Value} {l : List UInt8} (w : World) (h : Bld T base w g o cs l) (hg : base ≤ w.heap.size) (hlen : l.length ≤ 1000000000) :
    Calls Tryz.prog 50 #[.pointer (some ⟨g, o, none⟩)] w fun e w' => e = .returned (.string ⟨l.toArray⟩) ∧ Below base w w' ∧ ∀ k o', k < w.heap.size → w.heap[k]? = some o' → (∀ cs fr, o' ≠ .cells cs 5 fr) → w'.heap[k]? = some o' := by
  obtain ⟨hc, ha, v, hv, hown⟩ := h
  have hUS : ∀ (W : World) (q : Option Addr), (Builtin.unsafeString_ #[111, 3] 9 #[.pointer q, .int .i64 0]).run Tryz.prog W = .ok (.string .empty) W := fun W q => Lib.run_unsafeString_none W _ _ _ q
  have c1 := hc.drew.cell (o + 1) _ hv
  rcases hown.2 with ⟨rfl, hl⟩ | ⟨b, cap, cur, rfl, hbb, hb, hnc, hcm, hcs, htake⟩
  · have hl0 : l = [] := List.eq_nil_of_length_eq_zero hl
    subst hl0
    have hSD : (Builtin.unsafeSliceData_ #[84] 111 #[.slice none 0 0]).run Tryz.prog w.drew = .ok (.pointer none) w.drew := rfl
    go_enter Tryz.func50, Tryz.ntmps50
    go_wp2
    go_region
    all_goals (go_wp2; go_ret; exact ⟨rfl, Below.drew (Below.refl base w), fun k o' _ h _ => h⟩)
  · by_cases hl0 : l = []
    · subst hl0
      clear hown htake
      by_cases hcap : cap = 0
      · subst hcap
        have hSD : (Builtin.unsafeSliceData_ #[84] 111 #[.slice (some ⟨b, 0, none⟩) 0 0]).run Tryz.prog w.drew = .ok (.pointer (some ⟨w.drew.heap.size, 0, none⟩)) (w.drew.alloc (.view ⟨b, 0, none⟩ 5)) :=
          Lib.run_unsafeSliceData_zero w.drew _ _ 5 Tryz.uPU8 ⟨b, 0, none⟩ 0 (5, cur.size) (by have hg' : w.drew.heap[b]? = some (.cells cur 5 (0, 0)) := hb; simp [World.shape?, hg'])
        have c2 := (hc.drew.alloc (.view ⟨b, 0, none⟩ 5)).cell (o + 1) _ hv
        have c3 : (w.alloc (.view ⟨b, 0, none⟩ 5)).drew.cell? ⟨g, o + 1, none⟩ = some (.slice (some ⟨b, 0, none⟩) 0 0) := c2
        have c4 := hc.cell (o + 1) _ hv
        simp only [List.length_nil] at c1 c2 c3 c4
        go_enter Tryz.func50, Tryz.ntmps50
        go_wp2
        go_region
        all_goals
          go_wp2
          go_ret
          exact ⟨rfl, (Below.drew (Below.refl base w)).alloc hg _, fun k o' hk h _ => ((World.grownBy_alloc w.drew (.view ⟨b, 0, none⟩ 5) none).block k hk (by simp)).trans h⟩
      · have hSD : (Builtin.unsafeSliceData_ #[84] 111 #[.slice (some ⟨b, 0, none⟩) 0 cap]).run Tryz.prog w.drew = .ok (.pointer (some ⟨b, 0, none⟩)) w.drew := Lib.run_unsafeSliceData_row _ _ _ _ _ _ hcap
        simp only [List.length_nil] at c1
        clear hcap
        go_enter Tryz.func50, Tryz.ntmps50
        go_wp2
        go_region
        all_goals (go_wp2; go_ret; exact ⟨rfl, Below.drew (Below.refl base w), fun k o' _ h _ => h⟩)
    · have hl1 : l.length ≠ 0 := by simpa using hl0
      have hSD : (Builtin.unsafeSliceData_ #[84] 111 #[.slice (some ⟨b, 0, none⟩) l.length cap]).run Tryz.prog w.drew = .ok (.pointer (some ⟨b, 0, none⟩)) w.drew := Lib.run_unsafeSliceData_row _ _ _ _ _ _ (by omega)
      have hUS2 : (Builtin.unsafeString_ #[111, 3] 9 #[.pointer (some ⟨b, 0, none⟩), .int .i64 l.length]).run Tryz.prog w.drew = .ok (.string ⟨l.toArray⟩) (w.drew.freeze ⟨b, 0, none⟩ l.length) := by
        refine Lib.run_unsafeString_row w.drew 111 3 9 5 Tryz.uPU8 Tryz.cellsU8 b cur.size (by have hg' : w.drew.heap[b]? = some (.cells cur 5 (0, 0)) := hb; simp [World.shape?, hg']) l hl0 (by omega) (by omega) ?_
        intro j x hx
        obtain ⟨hj, rfl⟩ := List.getElem?_eq_some_iff.1 hx
        have := hown.cellAt j hj
        rw [Addr.add_lit, Nat.zero_add]; exact this
      clear hown htake hl0 hl1
      go_enter Tryz.func50, Tryz.ntmps50
      go_wp2
      go_region
      all_goals
        go_wp2
        go_ret
        refine ⟨rfl, Lib.below_freeze (Below.drew (Below.refl base w)) (p := ⟨b, 0, none⟩) hbb _, fun k o' _ h hn => ?_⟩
        rw [freeze_other _ _ _ _ (by rintro rfl; rw [hb] at h; cases h; exact hn _ _ rfl)]
        exact h
end Go.Proofs.YthmmgpbojbjihaaGreatDoor

/- The walks of the smallest functions of layer 2: isScalar, width, tail, first. -/
namespace Go.Proofs.YthmmgpbojbjihaaGreatDoor
open Go.RowKit Go.Tab

/-- The table of sizes, as the program lays it. -/
def Tab (w : World) : Prop := ∀ j : Nat, j < 32 → w.cell? ⟨3, j, none⟩ = some (.int .i64 (sizeOf8 (8 * j) : Nat))
theorem Tab.below {w w' : World} {B : Nat} (h : Tab w) (hb : Below B w w') (hB : 3 < B) : Tab w' := fun j hj => (hb.cell hB).trans (h j hj)
theorem Tab.pos {w : World} (h : Tab w) : 3 < w.heap.size := World.block_lt_of_cell? w _ (h 0 (by decide))
theorem size_same (a : Nat) : sizeOf8 (8 * (a / 8)) = sizeOf8 a := by
  unfold sizeOf8
  have h1 : 8 * (a / 8) < 128 ↔ a < 128 := by omega
  have h2 : 8 * (a / 8) < 192 ↔ a < 192 := by omega
  have h3 : 8 * (a / 8) < 224 ↔ a < 224 := by omega
  have h4 : 8 * (a / 8) < 240 ↔ a < 240 := by omega
  have h5 : 8 * (a / 8) < 248 ↔ a < 248 := by omega
  simp only [h1, h2, h3, h4, h5]

theorem i64_and_nat (a b : Nat) (ha : a < 4611686018427387904) (hb : b < 4611686018427387904) : bits .and .i64 (a : Int) (b : Int) = ((a &&& b : Nat) : Int) := by
  have hx : a &&& b < 2 ^ 62 := Nat.and_lt_two_pow _ (by omega)
  have e1 : (BitVec.ofInt 64 (a : Int)).toNat = a := by rw [BitVec.ofInt_natCast, BitVec.toNat_ofNat]; exact Nat.mod_eq_of_lt (by omega)
  have e2 : (BitVec.ofInt 64 (b : Int)).toNat = b := by rw [BitVec.ofInt_natCast, BitVec.toNat_ofNat]; exact Nat.mod_eq_of_lt (by omega)
  show IntKind.i64.wrap ((BitVec.ofInt 64 (a : Int) &&& BitVec.ofInt 64 (b : Int)).toNat : Int) = _
  rw [BitVec.toNat_and, e1, e2, IntKind.wrap_i64]
  omega
theorem i64_or_nat (a b : Nat) (ha : a < 4611686018427387904) (hb : b < 4611686018427387904) : bits .or .i64 (a : Int) (b : Int) = ((a ||| b : Nat) : Int) := by
  have hx : a ||| b < 2 ^ 62 := Nat.or_lt_two_pow (by omega) (by omega)
  have e1 : (BitVec.ofInt 64 (a : Int)).toNat = a := by rw [BitVec.ofInt_natCast, BitVec.toNat_ofNat]; exact Nat.mod_eq_of_lt (by omega)
  have e2 : (BitVec.ofInt 64 (b : Int)).toNat = b := by rw [BitVec.ofInt_natCast, BitVec.toNat_ofNat]; exact Nat.mod_eq_of_lt (by omega)
  show IntKind.i64.wrap ((BitVec.ofInt 64 (a : Int) ||| BitVec.ofInt 64 (b : Int)).toNat : Int) = _
  rw [BitVec.toNat_or, e1, e2, IntKind.wrap_i64]
  omega
theorem and_mask (a k : Nat) : a &&& (2 ^ k - 1) = a % 2 ^ k := Nat.and_two_pow_sub_one_eq_mod a k
theorem and31 (a : Nat) (h : a < 256) : bits .and .i64 (a : Int) 31 = ((a % 32 : Nat) : Int) := by
  have := i64_and_nat a 31 (by omega) (by omega); rw [show 31 = 2 ^ 5 - 1 by rfl, and_mask] at this; simpa using this
theorem and15 (a : Nat) (h : a < 256) : bits .and .i64 (a : Int) 15 = ((a % 16 : Nat) : Int) := by
  have := i64_and_nat a 15 (by omega) (by omega); rw [show 15 = 2 ^ 4 - 1 by rfl, and_mask] at this; simpa using this
theorem and7 (a : Nat) (h : a < 256) : bits .and .i64 (a : Int) 7 = ((a % 8 : Nat) : Int) := by
  have := i64_and_nat a 7 (by omega) (by omega); rw [show 7 = 2 ^ 3 - 1 by rfl, and_mask] at this; simpa using this
theorem and63 (a : Nat) (h : a < 4611686018427387904) : bits .and .i64 (a : Int) 63 = ((a % 64 : Nat) : Int) := by
  have := i64_and_nat a 63 h (by omega); rw [show 63 = 2 ^ 6 - 1 by rfl, and_mask] at this; simpa using this
theorem and192 (a : Nat) (h : a < 256) : bits .and .i64 (a : Int) 192 = ((a / 64 * 64 : Nat) : Int) := by
  have := i64_and_nat a 192 (by omega) (by omega)
  have h2 : ∀ a : Fin 256, a.val &&& 192 = a.val / 64 * 64 := by decide +kernel
  rw [show a &&& 192 = a / 64 * 64 from h2 ⟨a, h⟩] at this
  simpa using this
theorem or64 (a b : Nat) (h : a < 16777216) (hb : b < 64) : bits .or .i64 ((a : Int) * 64) (b : Int) = ((a * 64 + b : Nat) : Int) := by
  have := i64_or_nat (a * 64) b (by omega) (by omega)
  have h7 := Nat.two_pow_add_eq_or_of_lt (i := 6) (b := b) (by omega) a
  rw [show 2 ^ 6 * a = a * 64 by omega] at h7
  rw [← h7] at this
  simpa using this

def isScI (c : Int) : Bool := decide (0 ≤ c) && decide (c ≤ 1114111) && (decide (c < 55296) || decide (57343 < c))
theorem isScI_nat (c : Nat) : isScI (c : Int) = isSc c := by
  unfold isScI isSc
  have e1 : decide (0 ≤ (c : Int)) = true := by simp
  have e2 : decide ((c : Int) ≤ 1114111) = decide (c ≤ 1114111) := by simp only [decide_eq_decide]; omega
  have e3 : decide ((c : Int) < 55296) = decide (c < 55296) := by simp only [decide_eq_decide]; omega
  have e4 : decide (57343 < (c : Int)) = decide (57343 < c) := by simp only [decide_eq_decide]; omega
  rw [e1, e2, e3, e4]; simp
set_option maxHeartbeats 800000 in
set_option maxRecDepth 100000 in
theorem isScalar_any (c : Int) (w : World) : Calls Tryz.prog 107 #[.int .i64 c] w fun e w' => e = .returned (.bool (isScI c)) ∧ w = w' := by
  unfold isScI
  by_cases h0 : 0 ≤ c
  · by_cases h1 : c ≤ 1114111
    · by_cases h2 : c < 55296
      · go_enter Tryz.func107, Tryz.ntmps107
        go_wp2
        go_ret
        exact ⟨ret_bool (by simp [h0, h1, h2]), rfl⟩
      · have h3 : decide (c < 55296) = false := by simp; omega
        go_enter Tryz.func107, Tryz.ntmps107
        go_wp2
        go_ret
        exact ⟨ret_bool (by simp [h0, h1, h2]), rfl⟩
    · have h3 : decide (c ≤ 1114111) = false := by simp; omega
      go_enter Tryz.func107, Tryz.ntmps107
      go_wp2
      go_ret
      exact ⟨ret_bool (by simp [h0, h1]), rfl⟩
  · have h3 : decide (0 ≤ c) = false := by simp; omega
    go_enter Tryz.func107, Tryz.ntmps107
    go_wp2
    go_ret
    exact ⟨ret_bool (by simp [h0]), rfl⟩

set_option maxHeartbeats 800000 in
set_option maxRecDepth 100000 in
theorem width_any (c : Nat) (w : World) : Calls Tryz.prog 108 #[.int .i64 c] w fun e w' => e = .returned (.int .i64 (wid c : Nat)) ∧ w = w' := by
  unfold wid
  by_cases h1 : c < 128
  · rw [if_pos h1]
    go_enter Tryz.func108, Tryz.ntmps108
    go_wp2
    go_ret
    exact ⟨rfl, rfl⟩
  · rw [if_neg h1]
    by_cases h2 : c < 2048
    · rw [if_pos h2]
      have d1 : decide ((c : Int) < 128) = false := by simp; omega
      have d2 : decide ((c : Int) < 2048) = true := by simp; omega
      clear h1 h2
      go_enter Tryz.func108, Tryz.ntmps108
      go_wp2
      go_ret
      exact ⟨rfl, rfl⟩
    · rw [if_neg h2]
      by_cases h3 : c < 65536
      · rw [if_pos h3]
        have d1 : decide ((c : Int) < 128) = false := by simp; omega
        have d2 : decide ((c : Int) < 2048) = false := by simp; omega
        have d3 : decide ((c : Int) < 65536) = true := by simp; omega
        clear h1 h2 h3
        go_enter Tryz.func108, Tryz.ntmps108
        go_wp2
        go_ret
        exact ⟨rfl, rfl⟩
      · rw [if_neg h3]
        have d1 : decide ((c : Int) < 128) = false := by simp; omega
        have d2 : decide ((c : Int) < 2048) = false := by simp; omega
        have d3 : decide ((c : Int) < 65536) = false := by simp; omega
        clear h1 h2 h3
        go_enter Tryz.func108, Tryz.ntmps108
        go_wp2
        go_ret
        exact ⟨rfl, rfl⟩
end Go.Proofs.YthmmgpbojbjihaaGreatDoor

/- The walk of layer 2's first. -/
namespace Go.Proofs.YthmmgpbojbjihaaGreatDoor
open Go.RowKit Go.Tab

abbrev firstPost (l : List Nat) (w : World) : Ending → World → Prop := fun e w' => e = .returned (.tuple #[.int .i64 (oneN l).1, .int .i64 (oneN l).2]) ∧ w = w'
theorem ret_first {a b : Int} {l : List Nat} {c n : Nat} (h : oneN l = (c, n)) (h1 : a = c) (h2 : b = n) : Ending.returned (.tuple #[.int .i64 a, .int .i64 b]) = .returned (.tuple #[.int .i64 (oneN l).1, .int .i64 (oneN l).2]) := by
  rw [h, h1, h2]

set_option maxHeartbeats 800000 in
set_option maxRecDepth 100000 in
theorem first_one (s : ByteArray) (i : Nat) (a : Nat) (r : List Nat) (w : World) (hT : Tab w) (hl : (bs s).drop i = a :: r) (hs : s.size ≤ 1048576) (h1 : a < 128) :
    Calls Tryz.prog 95 #[.string s, .int .i64 i] w (firstPost (a :: r) w) := by
  obtain ⟨h0, e0⟩ := bs_at hl (j := 0) (by simp)
  simp only [Nat.add_zero, List.getElem_cons_zero] at h0 e0
  have ho : oneN (a :: r) = (a, 1) := by simp [oneN, h1]
  have HO := Lib.hid ho
  have hc := hT (a / 8) (by omega)
  rw [size_same, show sizeOf8 a = 1 by simp [sizeOf8, h1]] at hc
  clear ho hl
  unfold firstPost
  go_enter Tryz.func95, Tryz.ntmps95
  go_wp2
  go_ret2
  exact ⟨ret_first HO.out rfl rfl, rfl⟩

theorem or64' (c b : Nat) (h : c < 131072) (hb : b < 256) : bits .or .i64 ((c : Int) * 64) ((b : Int) % 64) = ((c * 64 + b % 64 : Nat) : Int) := by
  have := or64 c (b % 64) (by omega) (by omega)
  simpa using this

set_option maxHeartbeats 4000000 in
set_option maxRecDepth 100000 in
theorem first_many (s : ByteArray) (i : Nat) (a n : Nat) (r : List Nat) (w : World) (hT : Tab w) (hl : (bs s).drop i = a :: r) (hs : s.size ≤ 1048576) (hsz : sizeOf8 a = n) (hn : n = 2 ∨ n = 3 ∨ n = 4) :
    Calls Tryz.prog 95 #[.string s, .int .i64 i] w (firstPost (a :: r) w) := by
  have hlt : ∀ x ∈ a :: r, x < 256 := by rw [← hl]; exact fun x hx => bs_lt x (List.mem_of_mem_drop hx)
  have ha := hlt a (by simp)
  have hi := Lib.hid (fun (j : Nat) (hj : j < (a :: r).length) => bs_at hl hj)
  have hlen : (a :: r).length = s.size - i := by rw [← hl]; simp [bs_length]
  simp only [List.length_cons] at hlen
  obtain ⟨h0, e0⟩ := hi.out 0 (by simp)
  simp only [Nat.add_zero, List.getElem_cons_zero] at h0 e0
  have ho := oneN_many hlt hsz (by omega)
  have hc := hT (a / 8) (by omega)
  rw [size_same, hsz] at hc
  clear hl
  unfold firstPost
  by_cases hsh : r.length < n - 1
  · rw [if_pos hsh] at ho
    have HO := Lib.hid ho
    have hd : (s.size : Int) - i < n := by omega
    clear ho hsh hlen hsz
    rcases hn with rfl | rfl | rfl
    all_goals
      go_enter Tryz.func95, Tryz.ntmps95
      go_wp2
      go_ret2
      exact ⟨ret_first HO.out rfl rfl, rfl⟩
  · rw [if_neg hsh] at ho
    have HO := Lib.hid ho
    have hd : (n : Int) ≤ (s.size : Int) - i := by omega
    have m1 := and31 a ha
    have m2 := and15 a ha
    have m3 := and7 a ha
    have hin : initOf a n < 32 := by unfold initOf; split <;> (try split) <;> omega
    have hrl : n - 1 ≤ r.length := by omega
    have HLT := Lib.hid hlt
    have hn1 : ((n : Int) == 1) = false := by rw [beq_eq_false_iff_ne]; omega
    have hn0 : ((n : Int) == 0) = false := by rw [beq_eq_false_iff_ne]; omega
    have hn4 : n ≤ 4 := by omega
    have hn2 : 2 ≤ n := by omega
    have hz : (n = 2 ∧ ((n : Int) == 2) = true ∧ initOf a n = a % 32) ∨ (n = 3 ∧ ((n : Int) == 2) = false ∧ ((n : Int) == 3) = true ∧ initOf a n = a % 16) ∨ (n = 4 ∧ ((n : Int) == 2) = false ∧ ((n : Int) == 3) = false ∧ initOf a n = a % 8) := by
      rcases hn with rfl | rfl | rfl
      · exact .inl ⟨rfl, rfl, rfl⟩
      · exact .inr (.inl ⟨rfl, rfl, rfl, rfl⟩)
      · exact .inr (.inr ⟨rfl, rfl, rfl, rfl⟩)
    clear ho hsh hlen hsz hlt hn
    have key : ∀ A : Nat, A = initOf a n → A < 32 := fun A h => by omega
    rcases hz with ⟨-, f2, hz⟩ | ⟨-, f2, f3, hz⟩ | ⟨-, f2, f3, hz⟩
    all_goals
      have HZ := Lib.hid hz
      clear hz
      go_enter Tryz.func95, Tryz.ntmps95
      go_wp2_with fail
      go_loop [4, 5, 7] (fun c z k => ∃ C K : Nat, c = .int .i64 C ∧ z = .int .i64 n ∧ k = .int .i64 K ∧ 1 ≤ K ∧ K ≤ n ∧ cont (initOf a n) (r.take (n - 1)) = cont C ((r.take (n - 1)).drop (K - 1)) ∧ Hid ((K = 1 → C < 32) ∧ (K = 2 → C < 2048) ∧ (K = 3 → C < 131072) ∧ C < 8388608)) (fun _ _ k => n - (intOf k).toNat)
      case atStart =>
        refine ⟨initOf a n, 1, by rw [HZ.out]; simp, rfl, rfl, by omega, by omega, by simp, ?_⟩
        have := hin
        exact Lib.hid (by omega)
      case round =>
        obtain ⟨C, K, rfl, rfl, rfl, hK1, hK2, hcont, hC⟩ := hrel
        by_cases hKn : K < n
        · have hKr : K < (a :: r).length := by simp; omega
          obtain ⟨h5, e5⟩ := hi.out K hKr
          have hel : (r.take (n - 1)).drop (K - 1) = (a :: r)[K] :: (r.take (n - 1)).drop K := by
            have h6 : K - 1 < (r.take (n - 1)).length := by simp; omega
            rw [List.drop_eq_getElem_cons h6]
            obtain ⟨j, rfl⟩ : ∃ j, K = j + 1 := ⟨K - 1, by omega⟩
            simp
          have hb := HLT.out _ (List.getElem_mem hKr)
          rw [hel] at hcont
          clear hel
          generalize (a :: r)[K] = b at e5 hb hcont
          have h5i : 0 ≤ (i : Int) + (K : Int) ∧ (i : Int) + (K : Int) < (s.size : Int) := by omega
          have m4 := and192 b hb
          have m5 := and63 b (by omega)
          by_cases hb2 : b / 64 = 2
          · have hCs : C < 131072 := by have := hC.out; omega
            have m6 := or64' C b hCs hb
            have m7 : ((b / 64 * 64 : Nat) : Int) = 128 := by omega
            rw [m7] at m4
            simp only [cont, hb2, if_true] at hcont
            have HC := Lib.hid hcont
            have HB : Hid ((K + 1 = 1 → C * 64 + b % 64 < 32) ∧ (K + 1 = 2 → C * 64 + b % 64 < 2048) ∧ (K + 1 = 3 → C * 64 + b % 64 < 131072) ∧ C * 64 + b % 64 < 8388608) := Lib.hid (by have := hC.out; omega)
            have hCw : C * 64 ≤ 8388607 := by omega
            clear hcont m7 hCs
            go_wp2
            go_round
            case rel => exact ⟨C * 64 + b % 64, K + 1, by go_num, rfl, by go_num, by omega, by omega, HC.out, HB⟩
            case measure => simp [intOf]; omega
          · have m7 : (((b / 64 * 64 : Nat) : Int) != 128) = true := by rw [bne_iff_ne]; omega
            simp only [cont, hb2, if_false] at hcont
            have HC := Lib.hid hcont
            have H5 := HO.out
            rw [HC.out] at H5
            have H6 := Lib.hid H5
            rw [← m4] at m7
            clear hcont H5
            go_wp2
            go_ret2
            exact ⟨ret_first H6.out rfl rfl, rfl⟩
        · obtain rfl : K = n := by omega
          have hd0 : (r.take (K - 1)).drop (K - 1) = [] := List.drop_of_length_le (by simp; omega)
          rw [hd0] at hcont
          simp only [cont] at hcont
          have H5 := HO.out
          rw [hcont] at H5
          simp only at H5
          clear hcont hd0
          by_cases hsc : isSc C = true
          · by_cases hw : wid C = K
            · rw [if_pos ⟨hsc, hw⟩] at H5
              have H6 := Lib.hid H5
              have hb1 : ((wid C : Nat) : Int) = (K : Int) := by rw [hw]
              have HB1 := Lib.hid hb1
              clear H5 hw hb1
              go_wp2_with fail
              refine (isScalar_any (C : Int) w).mono ?_
              rintro e1 w1 ⟨rfl, rfl⟩
              rw [isScI_nat, hsc]
              go_wp2_with fail
              refine (width_any C w).mono ?_
              rintro e1 w1 ⟨rfl, rfl⟩
              rw [HB1.out]
              go_wp2
              go_ret2
              exact ⟨ret_first H6.out rfl rfl, rfl⟩
            · rw [if_neg (fun h => hw h.2)] at H5
              have H6 := Lib.hid H5
              have hb1 : (((wid C : Nat) : Int) != (K : Int)) = true := by rw [bne_iff_ne]; omega
              clear H5 hw
              go_wp2_with fail
              refine (isScalar_any (C : Int) w).mono ?_
              rintro e1 w1 ⟨rfl, rfl⟩
              rw [isScI_nat, hsc]
              go_wp2_with fail
              refine (width_any C w).mono ?_
              rintro e1 w1 ⟨rfl, rfl⟩
              go_wp2
              go_ret2
              exact ⟨ret_first H6.out rfl rfl, rfl⟩
          · rw [if_neg (fun h => hsc h.1)] at H5
            have H6 := Lib.hid H5
            have hsf : isSc C = false := by simpa using hsc
            clear H5 hsc
            go_wp2_with fail
            refine (isScalar_any (C : Int) w).mono ?_
            rintro e1 w1 ⟨rfl, rfl⟩
            rw [isScI_nat, hsf]
            go_wp2
            go_ret2
            exact ⟨ret_first H6.out rfl rfl, rfl⟩

set_option maxHeartbeats 800000 in
set_option maxRecDepth 100000 in
theorem first_any (s : ByteArray) (i : Nat) (w : World) (hT : Tab w) (hs : s.size ≤ 1048576) :
    Calls Tryz.prog 95 #[.string s, .int .i64 i] w (firstPost ((bs s).drop i) w) := by
  obtain ⟨l, hl⟩ : ∃ l, (bs s).drop i = l := ⟨_, rfl⟩
  rw [hl]
  match l with
  | [] =>
    have h1 : s.size ≤ i := by have := congrArg List.length hl; simp [bs_length] at this; omega
    unfold firstPost
    go_enter Tryz.func95, Tryz.ntmps95
    go_wp2
    go_ret2
    exact ⟨rfl, rfl⟩
  | a :: r =>
    rcases sizeOf8_cases a with h | h | h
    · obtain ⟨h0, e0⟩ := bs_at hl (j := 0) (by simp)
      simp only [Nat.add_zero, List.getElem_cons_zero] at h0 e0
      have ha := bs_lt a (List.mem_of_mem_drop (i := i) (by rw [hl]; simp))
      have HO := Lib.hid (oneN_none (r := r) h)
      have hc := hT (a / 8) (by omega)
      rw [size_same, h] at hc
      clear hl h
      unfold firstPost
      go_enter Tryz.func95, Tryz.ntmps95
      go_wp2
      go_ret2
      exact ⟨ret_first HO.out rfl rfl, rfl⟩
    · exact first_one s i a r w hT hl hs (sizeOf8_one h)
    · exact first_many s i a _ r w hT hl hs rfl (by omega)
end Go.Proofs.YthmmgpbojbjihaaGreatDoor

/- The walks of layer 2's Bad, Valid, Count. -/
namespace Go.Proofs.YthmmgpbojbjihaaGreatDoor
open Go.RowKit Go.Tab

def badV : Option Nat → Int
  | none => -1
  | some a => a
theorem badV_neg (o : Option Nat) : decide (badV o < 0) = o.isNone := by
  cases o with
  | none => rfl
  | some a =>
    rw [decide_eq_false (by simp [badV])]
    rfl
/-- What is told from place k on, behind what has been told. -/
def Rest (l : List Nat) (k : Nat) (pre : List (Nat × Nat)) : Prop := scan l 0 = (pre ++ (scan (l.drop k) k).1, (scan (l.drop k) k).2)
theorem Rest.zero (l : List Nat) : Rest l 0 [] := by simp [Rest]
theorem Rest.bad {l : List Nat} {k : Nat} {pre : List (Nat × Nat)} (h : Rest l k pre) (hk : k < l.length) (h1 : (oneN (l.drop k)).2 = 0) : scan l 0 = (pre, some k) := by
  have hne : l.drop k ≠ [] := by intro h; have := congrArg List.length h; simp at this; omega
  rw [h, scan_bad hne h1]; simp
theorem Rest.good {l : List Nat} {k c n : Nat} {pre : List (Nat × Nat)} (h : Rest l k pre) (hk : k < l.length) (h1 : oneN (l.drop k) = (c, n)) (hn : n ≠ 0) : Rest l (k + n) (pre ++ [(k, c)]) := by
  have hne : l.drop k ≠ [] := by intro h; have := congrArg List.length h; simp at this; omega
  unfold Rest at h ⊢
  rw [h, scan_good hne h1 hn, List.drop_drop]; simp
theorem Rest.done {l : List Nat} {k : Nat} {pre : List (Nat × Nat)} (h : Rest l k pre) (hk : k = l.length) : scan l 0 = (pre, none) := by
  rw [h, hk, List.drop_length, scan_nil]; simp

theorem scan_lt : ∀ (m : Nat) (l : List Nat) (a k : Nat), l.length ≤ m → (∀ x ∈ l, x < 256) → (scan l a).2 = some k → k < a + l.length
  | m, l, a, k, hm, hl, h => by
    by_cases h0 : l = []
    · subst h0; simp [scan_nil] at h
    have hp := List.length_pos_iff.2 h0
    by_cases hn : (oneN l).2 = 0
    · rw [scan_bad h0 hn] at h; simp at h; omega
    · have hle := (oneN_le l hl).1
      cases m with
      | zero => omega
      | succ m =>
        rw [scan_step h0, if_neg hn] at h
        have := scan_lt m (l.drop (oneN l).2) (a + (oneN l).2) k (by simp; omega) (fun x hx => hl x (List.mem_of_mem_drop hx)) h
        simp at this; omega

set_option maxHeartbeats 800000 in
set_option maxRecDepth 100000 in
theorem Bad_any (s : ByteArray) (w : World) (hT : Tab w) (hs : s.size ≤ 1048576) :
    Calls Tryz.prog 72 #[.string s] w fun e w' => e = .returned (.int .i64 (badV (scan (bs s) 0).2)) ∧ w = w' := by
  go_enter Tryz.func72, Tryz.ntmps72
  go_wp2_with fail
  go_loop [3] (fun i => ∃ (k : Nat) (pre : List (Nat × Nat)), i = .int .i64 k ∧ k ≤ s.size ∧ Rest (bs s) k pre) (fun i => s.size - (intOf i).toNat)
  case atStart => exact ⟨0, [], rfl, Nat.zero_le _, Rest.zero _⟩
  case round =>
    obtain ⟨k, pre, rfl, hk, hr⟩ := hrel
    have HR := Lib.hid hr
    clear hr
    by_cases h : k < s.size
    · obtain ⟨c, n, h1⟩ : ∃ c n, oneN ((bs s).drop k) = (c, n) := ⟨_, _, rfl⟩
      have hle := (oneN_le ((bs s).drop k) (fun x hx => bs_lt x (List.mem_of_mem_drop hx))).1
      have hF := first_any s k w hT hs
      unfold firstPost at hF
      rw [h1] at hF hle
      simp only [List.length_drop, bs_length] at hle
      have H1 := Lib.hid h1
      clear h1
      by_cases hn : n = 0
      · subst hn
        have h2 := Lib.hid (HR.out.bad (by rw [bs_length]; exact h) (by rw [H1.out]))
        go_wp2_with fail
        refine hF.mono ?_
        clear hF
        rintro e w1 ⟨rfl, rfl⟩
        go_wp2
        go_ret
        rw [h2.out]
        exact ⟨rfl, rfl⟩
      · have h2 := Lib.hid (HR.out.good (by rw [bs_length]; exact h) H1.out hn)
        have hb : ((n : Int) == 0) = false := by rw [beq_eq_false_iff_ne]; omega
        have hn1 : 1 ≤ n := by omega
        clear hn
        go_wp2_with fail
        refine hF.mono ?_
        clear hF
        rintro e w1 ⟨rfl, rfl⟩
        go_wp2
        go_round
        case rel => exact ⟨k + n, _, by go_num, by omega, h2.out⟩
        case measure => simp [intOf]; omega
    · have h2 := Lib.hid (HR.out.done (by rw [bs_length]; omega))
      go_wp2
      go_ret
      rw [h2.out]
      exact ⟨rfl, rfl⟩

end Go.Proofs.YthmmgpbojbjihaaGreatDoor

/- The walks of layer 2's Put and of the reference's Put. -/
namespace Go.Proofs.YthmmgpbojbjihaaGreatDoor
open Go.RowKit Go.Tab

def strOf (l : List UInt8) : ByteArray := ⟨l.toArray⟩
theorem or_join (k m x : Nat) (hx : x < 2 ^ k) (hm : 2 ^ k * m < 256) (hx2 : x < 256) : bits .or .i64 ((2 ^ k * m : Nat) : Int) (x : Int) = ((2 ^ k * m + x : Nat) : Int) := by
  have := i64_or_nat (2 ^ k * m) x (by omega) (by omega)
  rw [← Nat.two_pow_add_eq_or_of_lt hx m] at this
  exact this
theorem or128 (x : Nat) (h : x < 64) : bits .or .i64 128 (x : Int) = ((128 + x : Nat) : Int) := or_join 6 2 x h (by decide) (by omega)
theorem or192 (x : Nat) (h : x < 64) : bits .or .i64 192 (x : Int) = ((192 + x : Nat) : Int) := or_join 6 3 x h (by decide) (by omega)
theorem or224 (x : Nat) (h : x < 32) : bits .or .i64 224 (x : Int) = ((224 + x : Nat) : Int) := or_join 5 7 x h (by decide) (by omega)
theorem or240 (x : Nat) (h : x < 16) : bits .or .i64 240 (x : Int) = ((240 + x : Nat) : Int) := or_join 4 15 x h (by decide) (by omega)

set_option maxHeartbeats 800000 in
set_option maxRecDepth 100000 in
theorem tail_any (c : Nat) (w : World) (hc : c ≤ 1114111) : Calls Tryz.prog 109 #[.int .i64 c] w fun e w' => e = .returned (.int .u8 (128 + c % 64 : Nat)) ∧ w = w' := by
  have m1 := and63 c (by omega)
  have m2 := or128 (c % 64) (by omega)
  push_cast at m1 m2
  clear hc
  go_enter Tryz.func109, Tryz.ntmps109
  go_wp2
  go_ret
  exact ⟨ret_num (by simp), rfl⟩
theorem Tryz.underS : Tryz.prog.underlying 9 = some .string := by kernel_rfl
theorem Tryz.underI : Tryz.prog.underlying 3 = some (.int .i64) := by kernel_rfl
theorem conv_back (w : World) (l : List UInt8) (cs : Array Value) (n : Nat) (m : List UInt8) (hm : m = l) (h : cs = (l.map byteV).toArray) (hn : n = l.length) :
    (convert 84 9 (.slice (some ⟨w.heap.size, 0, none⟩) n n)).run Tryz.prog (w.alloc (.cells cs 5)) = .ok (.string (strOf m)) (w.alloc (.cells cs 5)) := by
  subst hm h hn
  refine run_convert_bytes_back (P := Tryz.prog) _ _ _ 5 _ m.length m Tryz.underlying84 Tryz.underlying5 Tryz.underS fun j hj => ?_
  rw [Addr.add_lit, World.cell?_alloc_new]
  simp [hj]

set_option maxHeartbeats 800000 in
set_option maxRecDepth 100000 in
theorem Put_any (c : Nat) (w : World) (h : isSc c = true) :
    Calls Tryz.prog 90 #[.int .i64 c] w fun e w' => e = .returned (.tuple #[.string (strOf (putU c)), .bool true]) ∧ Below w.heap.size w w' := by
  have hS := isScalar_any (c : Int) w
  rw [isScI_nat, h] at hS
  rw [isSc_iff] at h
  obtain ⟨h, -⟩ := h
  by_cases h1 : c < 128
  · have hW := width_any c w
    rw [show wid c = 1 by simp [wid, h1]] at hW
    have hp : putU c = [UInt8.ofNat c] := by simp [putU, putN, h1]
    have hcv := conv_back w [UInt8.ofNat c] #[.int .u8 c] 1 (putU c) hp (by simp [byteV]; omega) rfl
    clear hp
    go_enter Tryz.func90, Tryz.ntmps90
    go_wp2_with fail
    refine hS.mono ?_
    rintro e w1 ⟨rfl, rfl⟩
    go_wp2_with fail
    refine hW.mono ?_
    rintro e w1 ⟨rfl, rfl⟩
    go_wp2
    go_ret2
    exact ⟨rfl, (Below.refl _ _).alloc (Nat.le_refl _) _⟩
  · by_cases h2 : c < 2048
    · have hW := width_any c w
      rw [show wid c = 2 by simp [wid, h1, h2]] at hW
      have hp : putU c = [UInt8.ofNat (192 + c / 64), UInt8.ofNat (128 + c % 64)] := by simp [putU, putN, h1, h2]
      have m1 := or192 (c / 64) (by omega)
      push_cast at m1
      have H := Lib.hid h
      have hcv := conv_back w [UInt8.ofNat (192 + c / 64), UInt8.ofNat (128 + c % 64)] #[.int .u8 (192 + (c : Int) / 64), .int .u8 (128 + (c : Int) % 64)] 2 (putU c) hp (by simp [byteV]; omega) rfl
      have hb : c / 64 ≤ 31 := by omega
      clear hp h h1 h2
      go_enter Tryz.func90, Tryz.ntmps90
      go_wp2_with fail
      refine hS.mono ?_
      rintro e w1 ⟨rfl, rfl⟩
      go_wp2_with fail
      refine hW.mono ?_
      rintro e w1 ⟨rfl, rfl⟩
      go_wp2_with fail
      refine (tail_any c w H.out).mono ?_
      rintro e w1 ⟨rfl, rfl⟩
      go_wp2
      go_ret2
      exact ⟨rfl, (Below.refl _ _).alloc (Nat.le_refl _) _⟩
    · by_cases h3 : c < 65536
      · have hW := width_any c w
        rw [show wid c = 3 by simp [wid, h1, h2, h3]] at hW
        have hp : putU c = [UInt8.ofNat (224 + c / 4096), UInt8.ofNat (128 + c / 64 % 64), UInt8.ofNat (128 + c % 64)] := by simp [putU, putN, h1, h2, h3]
        have m1 := or224 (c / 4096) (by omega)
        push_cast at m1
        have H := Lib.hid h
        have H2 := Lib.hid (show c / 64 ≤ 1114111 by omega)
        have hcv := conv_back w [UInt8.ofNat (224 + c / 4096), UInt8.ofNat (128 + c / 64 % 64), UInt8.ofNat (128 + c % 64)] #[.int .u8 (224 + (c : Int) / 4096), .int .u8 (128 + (c : Int) / 64 % 64), .int .u8 (128 + (c : Int) % 64)] 3 (putU c) hp (by simp [byteV]; omega) rfl
        have hb : c / 4096 ≤ 15 := by omega
        clear hp h h1 h2 h3
        go_enter Tryz.func90, Tryz.ntmps90
        go_wp2_with fail
        refine hS.mono ?_
        rintro e w1 ⟨rfl, rfl⟩
        go_wp2_with fail
        refine hW.mono ?_
        rintro e w1 ⟨rfl, rfl⟩
        go_wp2_with fail
        refine (tail_any (c / 64) w H2.out).mono ?_
        rintro e w1 ⟨rfl, rfl⟩
        go_wp2_with fail
        refine (tail_any c w H.out).mono ?_
        rintro e w1 ⟨rfl, rfl⟩
        go_wp2
        go_ret2
        exact ⟨rfl, (Below.refl _ _).alloc (Nat.le_refl _) _⟩
      · have hW := width_any c w
        rw [show wid c = 4 by simp [wid, h1, h2, h3]] at hW
        have hp : putU c = [UInt8.ofNat (240 + c / 262144), UInt8.ofNat (128 + c / 4096 % 64), UInt8.ofNat (128 + c / 64 % 64), UInt8.ofNat (128 + c % 64)] := by simp [putU, putN, h1, h2, h3]
        have m1 : bits .or .i64 240 ((c : Int) / 262144) = 240 + (c : Int) / 262144 := by
          have := or240 (c / 262144) (by omega)
          rw [Int.natCast_add, Int.natCast_ediv] at this
          exact this
        have H := Lib.hid h
        have H2 := Lib.hid (show c / 64 ≤ 1114111 by omega)
        have H3 := Lib.hid (show c / 4096 ≤ 1114111 by omega)
        have hcv := conv_back w [UInt8.ofNat (240 + c / 262144), UInt8.ofNat (128 + c / 4096 % 64), UInt8.ofNat (128 + c / 64 % 64), UInt8.ofNat (128 + c % 64)] #[.int .u8 (240 + (c : Int) / 262144), .int .u8 (128 + (c : Int) / 4096 % 64), .int .u8 (128 + (c : Int) / 64 % 64), .int .u8 (128 + (c : Int) % 64)] 4 (putU c) hp (by simp [byteV]; omega) rfl
        have hb : c / 262144 ≤ 4 := by omega
        clear hp h h1 h2 h3
        go_enter Tryz.func90, Tryz.ntmps90
        go_wp2_with fail
        refine hS.mono ?_
        rintro e w1 ⟨rfl, rfl⟩
        go_wp2_with fail
        refine hW.mono ?_
        rintro e w1 ⟨rfl, rfl⟩
        go_wp2_with fail
        refine (tail_any (c / 4096) w H3.out).mono ?_
        rintro e w1 ⟨rfl, rfl⟩
        go_wp2_with fail
        refine (tail_any (c / 64) w H2.out).mono ?_
        rintro e w1 ⟨rfl, rfl⟩
        go_wp2_with fail
        refine (tail_any c w H.out).mono ?_
        rintro e w1 ⟨rfl, rfl⟩
        go_wp2
        go_ret2
        exact ⟨rfl, (Below.refl _ _).alloc (Nat.le_refl _) _⟩

set_option maxHeartbeats 800000 in
set_option maxRecDepth 100000 in
theorem Put_none (c : Int) (w : World) (h : isScI c = false) :
    Calls Tryz.prog 90 #[.int .i64 c] w fun e w' => e = .returned (.tuple #[.string (strOf []), .bool false]) ∧ w = w' := by
  have hS := isScalar_any c w
  rw [h] at hS
  go_enter Tryz.func90, Tryz.ntmps90
  go_wp2_with fail
  refine hS.mono ?_
  rintro e w1 ⟨rfl, rfl⟩
  go_wp2
  go_ret2
  exact ⟨rfl, rfl⟩
end Go.Proofs.YthmmgpbojbjihaaGreatDoor

/- The walks of the smallest functions of layer 7: a throw, the next byte, the signs. -/
namespace Go.Proofs.YthmmgpbojbjihaaGreatDoor
open Go.RowKit Go.Tab

/-- What is thrown with error n. -/
abbrev failV (n : Int) : Value := .iface 80 (.agg #[.int .i64 n])
abbrev FailP (n : Int) : Ending := .panicked [{ v := failV n, recovered := false }]

set_option maxHeartbeats 800000 in
set_option maxRecDepth 100000 in
theorem fail_any (n : Int) (w : World) : Calls Tryz.prog 48 #[.int .i64 n] w fun e w' => e = FailP n ∧ w = w' := by
  go_enter Tryz.func48, Tryz.ntmps48
  go_wp2
  exact ⟨rfl, rfl, rfl⟩

/-- The reader: its text, where it stands, what it has told. -/
def RdrAt (w : World) (g : Nat) (s : ByteArray) (k : Nat) (l : List UInt8) : Prop :=
  ∃ cs, Bld 88 g w g 2 cs l ∧ cs.size = 4 ∧ cs[0]? = some (.string s) ∧ cs[1]? = some (.int .i64 (k : Int))
theorem in4 : BldIn 88 4 2 := ⟨by decide, by kernel_rfl, by decide⟩
theorem RdrAt.drewN {w : World} {g : Nat} {s : ByteArray} {k : Nat} {l : List UInt8} (h : RdrAt w g s k l) (n : Nat) : RdrAt (w.drewN n) g s k l := by
  obtain ⟨cs, ⟨h1, h2, v, h3, h4⟩, h5⟩ := h
  exact ⟨cs, ⟨h1.drewN n, h2, v, h3, h4.drewN n⟩, h5⟩
theorem RdrAt.lt {w : World} {g : Nat} {s : ByteArray} {k : Nat} {l : List UInt8} (h : RdrAt w g s k l) : g < w.heap.size := by
  obtain ⟨cs, h1, _⟩ := h; exact h1.cells.lt
/-- The place moves on. -/
theorem RdrAt.moved {w : World} {g : Nat} {s : ByteArray} {k : Nat} {l : List UInt8} (h : RdrAt w g s k l) (k' : Nat) : RdrAt (w.setCell ⟨g, 1, none⟩ (.int .i64 (k' : Int))) g s k' l := by
  obtain ⟨cs, ⟨h1, h2, v, h3, h4⟩, h5, h6, h7⟩ := h
  refine ⟨cs.set 1 (.int .i64 (k' : Int)) (by omega), ⟨h1.set 1 (by omega) _, ?_, v, ?_, h4.setOther _ _ (own_ne_box h4 h1 (by decide))⟩, by simpa using h5, ?_, by simp⟩
  · rwa [Array.getElem?_set_ne (by omega) (by omega)]
  · rwa [Array.getElem?_set_ne (by omega) (by omega)]
  · rwa [Array.getElem?_set_ne (by omega) (by omega)]
theorem below_moved {w : World} (g : Nat) (v : Value) : Below g w (w.setCell ⟨g, 1, none⟩ v) := (Below.refl g w).setCell (p := ⟨g, 1, none⟩) (Nat.le_refl _) v

/-- A method that hands v back; the reader stands at k', and has told l'. -/
def OkR (g : Nat) (s : ByteArray) (w : World) (v : Value) (k' : Nat) (l' : List UInt8) (e : Ending) (w' : World) : Prop :=
  e = .returned v ∧ RdrAt w' g s k' l' ∧ Below g w w' ∧ Beside 5 g w w'
/-- .. that throws error n. -/
def BadR (g : Nat) (w : World) (n : Int) (e : Ending) (w' : World) : Prop := e = FailP n ∧ Below g w w'

theorem Beside.drewN {E : TypeId} {g : Nat} {w w' : World} (h : Beside E g w w') (n : Nat) : Beside E g w (w'.drewN n) := h
theorem Below.drewN' {B : Nat} {w w' : World} (h : Below B w w') (n : Nat) : Below B w (w'.drewN n) := h.trans (below_draws B w' n)

set_option maxHeartbeats 1000000 in
set_option maxRecDepth 100000 in
theorem rnext_end (w : World) (g : Nat) (s : ByteArray) (k : Nat) (l : List UInt8) (h : RdrAt w g s k l) (hk : k = s.size) (hs : s.size ≤ 1000000) :
    Calls Tryz.prog 47 #[.pointer (some ⟨g, 0, none⟩)] w (BadR g w 2) := by
  obtain ⟨cs, hb, h5, h6, h7⟩ := h
  have c0 := hb.cells.cell 0 _ h6
  have c1 := hb.cells.cell 1 _ h7
  have hd : decide (s.size ≤ k) = true := by simp; omega
  clear hk hb h5 h6 h7
  go_enter Tryz.func47, Tryz.ntmps47
  go_wp2_with fail
  go_quiet (fail)
  go_wp2_with fail
  refine (fail_any 2 _).mono ?_
  rintro e w1 ⟨rfl, rfl⟩
  go_wp2
  exact ⟨rfl, rfl, Below.drewN' (Below.refl g w) _⟩

set_option maxHeartbeats 1000000 in
set_option maxRecDepth 100000 in
theorem rnext_any (w : World) (g : Nat) (s : ByteArray) (k : Nat) (l : List UInt8) (h : RdrAt w g s k l) (hk : k < s.size) (hs : s.size ≤ 1000000) :
    Calls Tryz.prog 47 #[.pointer (some ⟨g, 0, none⟩)] w (OkR g s w (.int .u8 ((s[k]'hk).toNat : Nat)) (k + 1) l) := by
  obtain ⟨cs, hb, h5, h6, h7⟩ := id h
  have c0 := hb.cells.cell 0 _ h6
  have c1 := hb.cells.cell 1 _ h7
  have f1 := hb.cells.frozen 1
  have hd : decide (s.size ≤ k) = false := by simp; omega
  have hlt := hb.cells.lt
  clear hb h5 h6 h7
  go_enter Tryz.func47, Tryz.ntmps47
  go_wp2_with fail
  go_quiet (fail)
  go_wp2_with fail
  go_quiet (fail)
  go_wp2
  go_ret
  exact ⟨rfl, ((h.drewN _).moved (k + 1)).drewN _, Below.drewN' ((Below.drewN' (Below.refl g w) _).setCell (p := ⟨g, 1, none⟩) (Nat.le_refl _) _) _, ((Beside.refl.drewN _).setCell 1 _).drewN _⟩

theorem drop_nil_iff {s : ByteArray} {k : Nat} (hk : k ≤ s.size) (h : (bs s).drop k = []) : k = s.size := by
  have := congrArg List.length h
  simp [bs_length] at this; omega
theorem rnext_nil (w : World) (g : Nat) (s : ByteArray) (k : Nat) (l : List UInt8) (h : RdrAt w g s k l) (hk : k ≤ s.size) (hr : (bs s).drop k = []) (hs : s.size ≤ 1000000) :
    Calls Tryz.prog 47 #[.pointer (some ⟨g, 0, none⟩)] w (BadR g w 2) := rnext_end w g s k l h (drop_nil_iff hk hr) hs
theorem rnext_cons (w : World) (g : Nat) (s : ByteArray) (k : Nat) (l : List UInt8) {c : Nat} {r : List Nat} (h : RdrAt w g s k l) (hr : (bs s).drop k = c :: r) (hs : s.size ≤ 1000000) :
    Calls Tryz.prog 47 #[.pointer (some ⟨g, 0, none⟩)] w (OkR g s w (.int .u8 (c : Int)) (k + 1) l) := by
  obtain ⟨hk, he⟩ := bs_at hr (j := 0) (by simp)
  have hk' : k < s.size := hk
  have e : (s[k]'hk').toNat = c := he
  have := rnext_any w g s k l h hk' hs
  rwa [e] at this
theorem drop_cons {l r : List Nat} {k c : Nat} (h : l.drop k = c :: r) : l.drop (k + 1) = r ∧ k < l.length := by
  refine ⟨?_, ?_⟩
  · rw [← List.drop_drop, h]; rfl
  · have := congrArg List.length h; simp at this; omega

theorem OkR.after {g : Nat} {s : ByteArray} {w w1 : World} {v : Value} {k : Nat} {l : List UInt8} {e : Ending} {w' : World} (hb : Below g w w1) (hB : Beside 5 g w w1) (h : OkR g s w1 v k l e w') : OkR g s w v k l e w' := ⟨h.1, h.2.1, hb.trans h.2.2.1, hB.trans h.2.2.2⟩
theorem BadR.after {g : Nat} {w w1 : World} {n : Int} {e : Ending} {w' : World} (hb : Below g w w1) (h : BadR g w1 n e w') : BadR g w n e w' := ⟨h.1, hb.trans h.2⟩

theorem or16 (a b : Nat) (h : a < 16777216) (hb : b < 16) : bits .or .i64 ((a : Int) * 16) (b : Int) = ((a * 16 + b : Nat) : Int) := by
  have := i64_or_nat (a * 16) b (by omega) (by omega)
  push_cast at this
  rw [this, show a * 16 = 2 ^ 4 * a by omega, ← Nat.two_pow_add_eq_or_of_lt (by omega : b < 2 ^ 4)]

/-- What four tells, from the bytes r on. -/
def FourP (g : Nat) (s : ByteArray) (w : World) (k : Nat) (l : List UInt8) (r : List Nat) (e : Ending) (w' : World) : Prop :=
  ((unitQ r).2 = 0 ∧ OkR g s w (.int .i64 ((unitQ r).1 : Nat)) (k + 4) l e w') ∨ ((unitQ r).2 ≠ 0 ∧ BadR g w ((unitQ r).2 : Nat) e w')

theorem lim4 {j m : Nat} (hj : j < 4) (hm : m < 16 ^ j) : m < 4096 ∧ ∀ d, d < 16 → m * 16 + d < 16 ^ (j + 1) := by
  have : j = 0 ∨ j = 1 ∨ j = 2 ∨ j = 3 := by omega
  rcases this with rfl | rfl | rfl | rfl <;> simp at hm ⊢ <;> refine ⟨by omega, fun d hd => by omega⟩

set_option maxHeartbeats 2000000 in
set_option maxRecDepth 100000 in
theorem four_any (w : World) (g : Nat) (s : ByteArray) (k : Nat) (l : List UInt8) (h : RdrAt w g s k l) (hk : k ≤ s.size) (hs : s.size ≤ 1000000) :
    Calls Tryz.prog 105 #[.pointer (some ⟨g, 0, none⟩)] w (FourP g s w k l ((bs s).drop k)) := by
  go_enter Tryz.func105, Tryz.ntmps105
  go_wp2_with fail
  go_loopw [3, 5] (fun n i wr => ∃ (j m : Nat), j ≤ 4 ∧ n = .int .i64 m ∧ i = .int .i64 j ∧ m < 16 ^ j ∧ RdrAt wr g s (k + j) l ∧ k + j ≤ s.size ∧ Below g w wr ∧ Beside 5 g w wr ∧ unitF (4 - j) m ((bs s).drop (k + j)) = unitQ ((bs s).drop k)) (fun _ i _ => 4 - (intOf i).toNat)
  case atStart => exact ⟨0, 0, by omega, rfl, rfl, by simp, h, hk, Below.refl _ _, Beside.refl, rfl⟩
  case round =>
    obtain ⟨j, m, hj, rfl, rfl, hm, hR, hkj, hb, hB, hu⟩ := hrel
    by_cases hj4 : j < 4
    · obtain ⟨hm1, hm2⟩ := lim4 hj4 hm
      obtain ⟨i, hi⟩ : ∃ i, 4 - j = i + 1 := ⟨3 - j, by omega⟩
      rw [hi] at hu
      cases hr : (bs s).drop (k + j) with
      | nil =>
        rw [hr, unitF] at hu
        have HU := Lib.hid hu
        have hN := rnext_nil wr g s (k + j) l hR hkj hr hs
        clear hu hr hi hm2 hm
        go_wp2_with fail
        refine hN.mono ?_
        rintro e w1 ⟨rfl, hb1⟩
        go_wp2
        exact ⟨rfl, .inr ⟨by rw [← HU.out]; simp, by rw [← HU.out]; rfl, hb.trans hb1⟩⟩
      | cons c r =>
        obtain ⟨hd1, hd2⟩ := drop_cons hr
        rw [bs_length] at hd2
        have HR := Lib.hid (show (bs s).drop (k + (j + 1)) = r from hd1)
        have hc : c < 256 := bs_lt c (List.mem_of_mem_drop (by rw [hr]; simp))
        have hN := rnext_cons wr g s (k + j) l hR hr hs
        rw [hr] at hu
        simp only [unitF] at hu
        clear hd1
        by_cases h1 : 48 ≤ c ∧ c ≤ 57
        · obtain ⟨x, hx⟩ : ∃ x, x = m * 16 + (c - 48) := ⟨_, rfl⟩
          have ho : bits .or .i64 ((m : Int) * 16) ((c : Int) - 48) = (x : Int) := by
            have := or16 m (c - 48) (by omega) (by omega)
            rw [show (((c - 48 : Nat)) : Int) = (c : Int) - 48 by omega] at this
            rw [this, hx]
          have hx2 : x < 16 ^ (j + 1) := by rw [hx]; exact hm2 _ (by omega)
          rw [show hexV c = some (c - 48) by unfold hexV; rw [if_pos h1]] at hu
          simp only [← hx] at hu
          have HU := Lib.hid hu
          have HX2 := Lib.hid hx2
          clear hu hr hm2 hm hx2 hx
          have HI := Lib.hid hi
          clear hi
          go_wp2_with fail
          refine hN.mono ?_
          clear hN
          rintro e w1 ⟨rfl, hR1, hb1, hB1⟩
          go_wp2
          go_roundw
          case rel => exact ⟨j + 1, x, by omega, rfl, by go_num, HX2.out, hR1, by omega, hb.trans hb1, hB.trans hB1, by rw [show 4 - (j + 1) = i by have := HI.out; omega, HR.out]; exact HU.out⟩
          case measure => simp [intOf]; omega
        by_cases h2 : 97 ≤ c ∧ c ≤ 102
        · obtain ⟨x, hx⟩ : ∃ x, x = m * 16 + (c - 87) := ⟨_, rfl⟩
          have ho : bits .or .i64 ((m : Int) * 16) ((c : Int) - 97 + 10) = (x : Int) := by
            have := or16 m (c - 87) (by omega) (by omega)
            rw [show (((c - 87 : Nat)) : Int) = (c : Int) - 97 + 10 by omega] at this
            rw [this, hx]
          have hx2 : x < 16 ^ (j + 1) := by rw [hx]; exact hm2 _ (by omega)
          rw [show hexV c = some (c - 87) by unfold hexV; rw [if_neg h1, if_pos h2]] at hu
          simp only [← hx] at hu
          have HU := Lib.hid hu
          have HX2 := Lib.hid hx2
          clear hu hr hm2 hm hx2 hx
          have HI := Lib.hid hi
          clear hi
          go_wp2_with fail
          refine hN.mono ?_
          clear hN
          rintro e w1 ⟨rfl, hR1, hb1, hB1⟩
          go_wp2
          go_roundw
          case rel => exact ⟨j + 1, x, by omega, rfl, by go_num, HX2.out, hR1, by omega, hb.trans hb1, hB.trans hB1, by rw [show 4 - (j + 1) = i by have := HI.out; omega, HR.out]; exact HU.out⟩
          case measure => simp [intOf]; omega
        by_cases h3 : 65 ≤ c ∧ c ≤ 70
        · obtain ⟨x, hx⟩ : ∃ x, x = m * 16 + (c - 55) := ⟨_, rfl⟩
          have ho : bits .or .i64 ((m : Int) * 16) ((c : Int) - 65 + 10) = (x : Int) := by
            have := or16 m (c - 55) (by omega) (by omega)
            rw [show (((c - 55 : Nat)) : Int) = (c : Int) - 65 + 10 by omega] at this
            rw [this, hx]
          have hx2 : x < 16 ^ (j + 1) := by rw [hx]; exact hm2 _ (by omega)
          rw [show hexV c = some (c - 55) by unfold hexV; rw [if_neg h1, if_neg h2, if_pos h3]] at hu
          simp only [← hx] at hu
          have HU := Lib.hid hu
          have HX2 := Lib.hid hx2
          clear hu hr hm2 hm hx2 hx
          have HI := Lib.hid hi
          clear hi
          go_wp2_with fail
          refine hN.mono ?_
          clear hN
          rintro e w1 ⟨rfl, hR1, hb1, hB1⟩
          go_wp2
          go_roundw
          case rel => exact ⟨j + 1, x, by omega, rfl, by go_num, HX2.out, hR1, by omega, hb.trans hb1, hB.trans hB1, by rw [show 4 - (j + 1) = i by have := HI.out; omega, HR.out]; exact HU.out⟩
          case measure => simp [intOf]; omega
        · rw [show hexV c = none by unfold hexV; rw [if_neg h1, if_neg h2, if_neg h3]] at hu
          have HU := Lib.hid hu
          clear hu hr hm2 hm hi
          have h4 : c < 48 ∨ (58 ≤ c ∧ c ≤ 64) ∨ (71 ≤ c ∧ c ≤ 96) ∨ 103 ≤ c := by omega
          clear h1 h2 h3
          rcases h4 with h4 | h4 | h4 | h4
          all_goals
            go_wp2_with fail
            refine hN.mono ?_
            rintro e w1 ⟨rfl, hR1, hb1, hB1⟩
            go_wp2_with fail
            refine (fail_any 3 _).mono ?_
            rintro e w2 ⟨rfl, rfl⟩
            go_wp2
            exact ⟨rfl, .inr ⟨by rw [← HU.out]; simp, by rw [← HU.out]; rfl, hb.trans hb1⟩⟩
    · obtain rfl : j = 4 := by omega
      simp only [Nat.sub_self, unitF] at hu
      have HU := Lib.hid hu
      clear hu hm
      go_wp2
      go_ret
      exact .inl ⟨by rw [← HU.out], by rw [← HU.out]; rfl, hR, hb, hB⟩
end Go.Proofs.YthmmgpbojbjihaaGreatDoor
