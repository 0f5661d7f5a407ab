/- Texts of this claim, one behind the other: LxP, TkA, Bld, ExP, ExQ, BrA, Gen, ExA, ExB. -/
import Derived.Test.YthbhknfhmkhfgaaGreatDoorMga
import Derived.Lib.SlTrimSet
import Derived.Lib.IndexMore
import Derived.Lib.Builder
import Derived.Lib.AppendStr
import Derived.Lib.UnsafeStr
import Derived.Laws.Externs
import Derived.Test.YthbhknfhmkhfgaaGreatDoorRows
import Derived.Deep.Slices
import Derived.SliceStrings
import Derived.ChangeArms
set_option linter.unusedSimpArgs false
set_option linter.unusedVariables false
namespace Go.Proofs.YthbhknfhmkhfgaaGreatDoor
set_option maxRecDepth 100000
set_option maxHeartbeats 20000000
def npc (l : Bs) : Bool × Bs × Bs × Bs × Bs × Bs :=
 let a := l.drop (mnS l)
 let b := a.drop (intS a)
 let c := b.drop (fracS b)
 (decide (mnS l = 1), a.take (intS a), (b.take (fracS b)).drop 1, c.take 1, (c.drop 1).take (sgS (c.drop 1)), (c.drop 1).drop (sgS (c.drop 1)))
def decR (l : Bs) : (Bool × Bs × Int) × Int :=
 if scanN l = l.length /\ l ≠ [] then numVal (npc l).1 (npc l).2.1 (npc l).2.2.1 (powP (npc l).2.2.2.2.1 (npc l).2.2.2.2.2) else ((false, [], 0), 3)
def decE (l : Bs) : Int := (decR l).2
section
variable {l : Bs} {neg : Bool} {ip fr mk sg pw : Bs}
theorem NumTxt.sgEq (h : NumTxt l neg ip fr mk sg pw) (hp : pw ≠ []) : sgS (sg ++ pw) = sg.length := by
 rcases h.exp with ⟨rfl, rfl, rfl⟩ | ⟨hm, hs, -⟩
 ·exact absurd rfl hp
 ·rcases hs with rfl | rfl | rfl
  ·cases pw with
   | nil => exact absurd rfl hp
   | cons c p =>
    have hc := all_head h.dpw (c := c) rfl; rw [List.nil_append, sgS, if_neg]
    ·rfl
    ·intro e
     rcases e with rfl | rfl <;> revert hc <;> decide
  ·rfl
  ·rfl
theorem NumTxt.frac (h : NumTxt l neg ip fr mk sg pw) : fracS ((if fr = [] then [] else 46 :: fr) ++ (mk ++ (sg ++ pw))) = (if fr = [] then ([] : Bs) else 46 :: fr).length := by
 have hh := fun c => h.pow_head (c := c); generalize mk ++ (sg ++ pw) = r at hh ⊢
 by_cases hf : fr = []
 ·rw [if_pos hf, List.nil_append]
  cases r with
  | nil => rfl
  | cons c r => rw [fracS, if_neg]; (· rfl); intro e; exact (hh c rfl).2 e.1
 ·rw [if_neg hf, List.cons_append]
  have hd : digs (fr ++ r) = fr.length := by rw [digs_app _ _ h.dfr, digs_none r (fun c hc => (hh c hc).1)]; rfl
  rw [fracS, hd, if_pos ⟨rfl, len_pos hf⟩, List.length_cons]; omega
theorem NumTxt.npc (h : NumTxt l neg ip fr mk sg pw) : npc l = (neg, ip, fr, mk, sg, pw) := by
 have hm := h.mn; have hi := h.int; have hf := h.frac; have hs := h.sgEq; have he := h.exp; unfold Go.Proofs.YthbhknfhmkhfgaaGreatDoor.npc; simp only; rw [hm.2, hi, List.drop_left, List.take_left, hf, List.drop_left, List.take_left, hm.1]; have h1 : decide ((if neg = true then 1 else 0 : Nat) = 1) = neg := by cases neg <;> rfl
 have h2 : (if fr = [] then ([] : Bs) else 46 :: fr).drop 1 = fr := by
  by_cases hfr : fr = []
  ·rw [if_pos hfr, hfr]; rfl
  ·rw [if_neg hfr]; rfl
 rw [h1, h2]; rcases he with ⟨rfl, rfl, rfl⟩ | ⟨hmk, -, hp⟩
 ·rfl
 ·have hmk1 : mk.length = 1 := by rcases hmk with rfl | rfl <;> rfl
  have e1 : (mk ++ (sg ++ pw)).take 1 = mk := by rw [<- hmk1, List.take_left]
  have e2 : (mk ++ (sg ++ pw)).drop 1 = sg ++ pw := by rw [<- hmk1, List.drop_left]
  rw [e1, e2, hs hp, List.take_left, List.drop_left]
theorem NumTxt.decR (h : NumTxt l neg ip fr mk sg pw) : decR l = numVal neg ip fr (powP sg pw) := by
 unfold Go.Proofs.YthbhknfhmkhfgaaGreatDoor.decR; rw [if_pos h.scan, h.npc]
end
inductive LR where
 | tok (kind size : Nat) : LR
 | bad (off : Nat) (err : Int) : LR
def nb (l : Bs) : List Nat := l.map UInt8.toNat
theorem nb_byt (l : Bs) : Byt (nb l) := by
 intro x hx; obtain ⟨c, _, rfl⟩ := List.mem_map.1 hx; exact c.toNat_lt
theorem nb_len (l : Bs) : (nb l).length = l.length := List.length_map ..
def blanksB : Bs := [32, 9, 13]
def blankB (c : UInt8) : Bool := blanksB.contains c
def letB (c : UInt8) : Bool := decide (65 <= c.toNat /\ c.toNat <= 90) || (decide (97 <= c.toNat /\ c.toNat <= 122) || decide (c.toNat = 95))
def idB (c : UInt8) : Bool := letB c || dg c
def idN : Bs -> Nat
 | [] => 0
 | c :: l => if idB c then idN l + 1 else 0
def lineN : Bs -> Nat
 | [] => 0
 | c :: l => if c = 10 then 0 else lineN l + 1
def wth (l : Bs) : Option (Nat × Int) :=
 match (scan (nb l) 0).1.find? (fun x => decide (x.2 < 32) && x.2 != 9) with
 | some x => some (x.1, 3)
 | none => match (scan (nb l) 0).2 with
  | some a => some (a, 7)
  | none => none
def remT (l : Bs) (kind : Nat) : LR := match wth l with
 | some x => .bad x.1 x.2
 | none => .tok kind l.length
def remS (l : Bs) : Bs := Lib.trimRightS (l.take (lineN l)) blanksB
def endN : Bs -> Option Nat
 | [] => none
 | c :: l => if c = 42 /\ l.head? = some 47 then some 0 else (endN l).map (· + 1)
def aside1 (l : Bs) : LR := match endN (l.drop 2) with
 | none => .bad 0 2
 | some n => if (l.take (n + 2)).contains 10 then .bad 0 2 else remT (l.take (n + 4)) 7
def dbls : List Bs := [[61, 61], [33, 61], [60, 61], [62, 61], [38, 38], [124, 124]]
def sgls : Bs := [61, 60, 62, 43, 45, 42, 47, 37, 33, 63, 58, 44, 46, 40, 41, 91, 93, 123, 125]
def sgN (l : Bs) : Nat := if dbls.any (fun d => d.isPrefixOf l) then 2 else match l with
 | [] => 0
 | c :: _ => if sgls.contains c then 1 else 0
def num1 (l : Bs) : LR := if decE (l.take (scanN l)) = 0 then .tok 2 (scanN l) else .bad 0 (decE (l.take (scanN l)))
def quo1 (l : Bs) : LR := if (scanQ (nb l)).2.2 = 0 then .tok 3 (scanQ (nb l)).2.1 else .bad 0 ((scanQ (nb l)).2.2 : Nat)
def one1 : Bs -> LR
 | [] => .bad 0 3
 | c :: r =>
  if letB c then .tok 1 (1 + idN r)
  else if dg c then num1 (c :: r)
  else if c = 34 then quo1 (c :: r)
  else if c = 10 then .tok 5 1
  else if c = 35 \/ (c = 47 /\ r.head? = some 47) then remT (remS (c :: r)) 6
  else if c = 47 /\ r.head? = some 42 then aside1 (c :: r)
  else if sgN (c :: r) = 0 then .bad 0 3 else .tok 4 (sgN (c :: r))
theorem idN_le : ∀ l : Bs, idN l <= l.length
 | [] => Nat.le_refl _
 | c :: l => by have := idN_le l; simp only [idN, List.length_cons]; split <;> omega
theorem lineN_le : ∀ l : Bs, lineN l <= l.length
 | [] => Nat.le_refl _
 | c :: l => by have := lineN_le l; simp only [lineN, List.length_cons]; split <;> omega
theorem endN_le : ∀ (l : Bs) (n : Nat), endN l = some n -> n + 2 <= l.length
 | [], n, h => by simp [endN] at h
 | c :: l, n, h => by
  rw [endN] at h; split at h
  ·next hc =>
   cases h
   cases l with
   | nil => simp at hc
   | cons d l => simp
  ·obtain ⟨m, hm, rfl⟩ := Option.map_eq_some_iff.1 h
   have := endN_le l m hm; simp only [List.length_cons]; omega
theorem scanN_le (l : Bs) : scanN l <= l.length := by
 have hi : ∀ l : Bs, intS l <= l.length := by
  intro l
  cases l with
  | nil => exact Nat.le_refl _
  | cons c l => rw [intS]; split; (· simp); (· exact digs_le _)
 have hf : ∀ l : Bs, fracS l <= l.length := by
  intro l
  cases l with
  | nil => exact Nat.le_refl _
  | cons c l => rw [fracS]; have := digs_le l; split <;> simp; omega
 have hs : ∀ l : Bs, sgS l <= l.length := by
  intro l
  cases l with
  | nil => exact Nat.le_refl _
  | cons c l => rw [sgS]; split <;> simp
 have hp : ∀ l : Bs, powS l <= l.length := by
  intro l
  cases l with
  | nil => exact Nat.le_refl _
  | cons c l =>
   rw [powS]; have h1 := digs_le (l.drop (sgS l)); have h2 := hs l; rw [List.length_drop] at h1; split
   ·simp only [List.length_cons]; omega
   ·exact Nat.zero_le _
 have hm : mnS l <= l.length := by
  cases l with
  | nil => exact Nat.le_refl _
  | cons c l => rw [mnS]; split <;> simp
 rw [scanN]; split
 ·exact Nat.zero_le _
 ·have h1 := hi (l.drop (mnS l))
  have h2 := hf (l.drop (mnS l + intS (l.drop (mnS l)))); have h3 := hp ((l.drop (mnS l + intS (l.drop (mnS l)))).drop (fracS (l.drop (mnS l + intS (l.drop (mnS l)))))); rw [tailS]; simp only [List.length_drop] at h1 h2 h3; omega
theorem scanN_pos {c : UInt8} {r : Bs} (h : dg c = true) : 1 <= scanN (c :: r) := by
 have hm : mnS (c :: r) = 0 := by
  rw [mnS, if_neg]; rintro rfl
  revert h; decide
 have hi : intS (c :: r) ≠ 0 := by
  rw [intS]; split
  ·decide
  ·rw [digs, if_pos h]; omega
 rw [scanN, hm, List.drop_zero, if_neg hi]; omega
theorem bodyF_size : ∀ (k : Nat) (l : List Nat), Byt l -> (bodyF k l).2.2 = 0 -> 1 <= (bodyF k l).2.1 /\ (bodyF k l).2.1 <= l.length
 | 0, l, _, h => by simp [bodyF, errR] at h
 | k + 1, l, hl, h => by
  rw [bodyF] at h ⊢; split at h
  ·next hq =>
   rw [if_pos hq]
   cases l with
   | nil => simp at hq
   | cons c l => simp
  ·next hq =>
   rw [if_neg hq]; split at h
   ·next hp => exact absurd h hp
   ·next hp =>
    rw [if_neg hp]; have hp0 : (partQ l).2.2 = 0 := by simpa using hp
    obtain ⟨c, -, -, h3, h4⟩ := partQ_ok hl hp0; split at h
    ·next hr => exact absurd h hr
    ·next hr =>
     rw [if_neg hr]; have := bodyF_size k (l.drop (partQ l).2.1) (hl.drop _) (by simpa using hr)
     simp only [List.length_drop] at this; simp only; omega
theorem scanQ_size {l : List Nat} (hl : Byt l) (h : (scanQ l).2.2 = 0) : 2 <= (scanQ l).2.1 /\ (scanQ l).2.1 <= l.length := by
 cases l with
 | nil => simp [scanQ, errR] at h
 | cons c r =>
  rw [scanQ] at h ⊢; split at h
  ·simp [errR] at h
  ·next hc =>
   rw [if_neg hc]; unfold joinR at h ⊢; split at h
   ·next he => exact absurd h he
   ·next he =>
    rw [if_neg he]; have := bodyF_size _ r (hl.drop 1) (by simpa [bodyQ] using he)
    simp only [bodyQ, List.length_cons]; omega
theorem remS_len (l : Bs) : (remS l).length <= l.length := by
 unfold remS Lib.trimRightS; rw [List.length_reverse]; refine Nat.le_trans (List.dropWhile_sublist _).length_le ?_; rw [List.length_reverse, List.length_take]; omega
theorem remS_pos {c : UInt8} {r : Bs} (h1 : c ≠ 10) (h2 : blankB c = false) : 1 <= (remS (c :: r)).length := by
 unfold remS Lib.trimRightS; rw [List.length_reverse, lineN, if_neg h1, List.take_succ_cons, List.reverse_cons]; generalize (r.take (lineN r)).reverse = q
 induction q with
 | nil =>
  rw [List.nil_append, List.dropWhile_cons_of_neg (by rw [show blanksB.contains c = false from h2]; simp)]
  simp
 | cons a q ih =>
  rw [List.cons_append, List.dropWhile_cons]; split
  ·exact ih
  ·simp
theorem sgN_le (l : Bs) : sgN l <= l.length := by
 unfold sgN; split
 ·next h =>
  obtain ⟨d, hd, hp⟩ := List.any_eq_true.1 h
  have h2 : d.length = 2 := by
   simp only [dbls, List.mem_cons, List.not_mem_nil, or_false] at hd; rcases hd with rfl | rfl | rfl | rfl | rfl | rfl <;> rfl
  have := (List.isPrefixOf_iff_prefix.1 hp).length_le; omega
 ·split
  ·exact Nat.zero_le _
  ·split
   ·simp
   ·exact Nat.zero_le _
theorem one1_size {l : Bs} {k n : Nat} (h : one1 l = .tok k n) : 1 <= n /\ n <= l.length := by
 cases l with
 | nil => cases h
 | cons c r =>
  rw [one1] at h; split at h
  ·cases h
   have := idN_le r; simp only [List.length_cons]; omega
  split at h
  ·next hd =>
   unfold num1 at h; split at h
   ·cases h; exact ⟨scanN_pos hd, scanN_le _⟩
   ·cases h
  split at h
  ·unfold quo1 at h
   split at h
   ·next hq =>
    cases h
    have := scanQ_size (nb_byt (c :: r)) hq; rw [nb_len] at this; omega
   ·cases h
  split at h
  ·cases h; simp
  split at h
  ·next h10 hr =>
   unfold remT at h; split at h
   ·cases h
   ·cases h
    refine ⟨remS_pos h10 ?_, remS_len _⟩; rcases hr with rfl | ⟨rfl, -⟩ <;> rfl
  split at h
  ·unfold aside1 at h
   split at h
   ·cases h
   ·next n hn =>
    have := endN_le _ _ hn; split at h
    ·cases h
    ·unfold remT at h
     split at h
     ·cases h
     ·cases h
      simp only [List.length_take, List.length_drop, List.length_cons] at this ⊢; omega
  split at h
  ·cases h
  ·cases h
   exact ⟨by omega, sgN_le _⟩
structure Tok where
 kind : Int
 text : ByteArray
 pos : Int
def lexF : Nat -> Bs -> Nat -> List Tok × Int × Int
 | 0, _, _ => ([], -1, 0)
 | _ + 1, [], _ => ([], -1, 0)
 | n + 1, c :: r, p => if blankB c then lexF n r (p + 1) else match one1 (c :: r) with
  | .bad off e => ([], ((p + off : Nat) : Int), e)
  | .tok k sz => (⟨(k : Nat), strL ((c :: r).take sz), (p : Nat)⟩ :: (lexF n ((c :: r).drop sz) (p + sz)).1, (lexF n ((c :: r).drop sz) (p + sz)).2)
theorem lexF_same : ∀ (n m : Nat) (l : Bs) (p : Nat), l.length <= n -> l.length <= m -> lexF n l p = lexF m l p
 | 0, m, l, p, h, _ => by
  obtain rfl := List.eq_nil_of_length_eq_zero (Nat.le_zero.1 h); cases m <;> rfl
 | n + 1, 0, l, p, _, h => by
  obtain rfl := List.eq_nil_of_length_eq_zero (Nat.le_zero.1 h); rfl
 | n + 1, m + 1, [], p, _, _ => rfl
 | n + 1, m + 1, c :: r, p, hn, hm => by
  simp only [List.length_cons] at hn hm; rw [lexF, lexF]; split
  ·exact lexF_same n m r _ (by omega) (by omega)
  ·cases ho : one1 (c :: r) with
   | bad off e => rfl
   | tok k sz =>
    have hs := one1_size ho; simp only; rw [lexF_same n m _ _ (by rw [List.length_drop, List.length_cons]; omega) (by rw [List.length_drop, List.length_cons]; omega)]
def lexL (l : Bs) (p : Nat) : List Tok × Int × Int := lexF l.length l p
theorem lexL_nil (p : Nat) : lexL [] p = ([], -1, 0) := rfl
theorem lexL_blank {c : UInt8} {r : Bs} (h : blankB c = true) (p : Nat) : lexL (c :: r) p = lexL r (p + 1) := by
 unfold lexL; rw [List.length_cons, lexF, if_pos h]
theorem lexL_bad {c : UInt8} {r : Bs} (h : blankB c = false) {off : Nat} {e : Int} (ho : one1 (c :: r) = .bad off e) (p : Nat) : lexL (c :: r) p = ([], ((p + off : Nat) : Int), e) := by
 unfold lexL; rw [List.length_cons, lexF, if_neg (by rw [h]; simp), ho]
theorem lexL_tok {c : UInt8} {r : Bs} (h : blankB c = false) {k sz : Nat} (ho : one1 (c :: r) = .tok k sz) (p : Nat) :
  lexL (c :: r) p = (⟨(k : Nat), strL ((c :: r).take sz), (p : Nat)⟩ :: (lexL ((c :: r).drop sz) (p + sz)).1, (lexL ((c :: r).drop sz) (p + sz)).2) := by
 have hs := one1_size ho; unfold lexL; rw [List.length_cons, lexF, if_neg (by rw [h]; simp), ho]
 simp only; rw [lexF_same r.length ((c :: r).drop sz).length _ _ (by rw [List.length_drop, List.length_cons]; omega) (Nat.le_refl _)]
theorem lexL_len : ∀ (k : Nat) (l : Bs) (p : Nat), l.length <= k -> (lexL l p).1.length <= l.length
 | 0, l, p, h => by
  obtain rfl := List.eq_nil_of_length_eq_zero (Nat.le_zero.1 h); exact Nat.le_refl _
 | k + 1, [], p, _ => Nat.le_refl _
 | k + 1, c :: r, p, h => by
  simp only [List.length_cons] at h
  by_cases hb : blankB c = true
  ·rw [lexL_blank hb]
   have := lexL_len k r (p + 1) (by omega)
   simp only [List.length_cons]; omega
  ·have hb' : blankB c = false := by simpa using hb
   cases ho : one1 (c :: r) with
   | bad off e => rw [lexL_bad hb' ho]; simp
   | tok kd sz =>
    rw [lexL_tok hb' ho]; have hs := one1_size ho; have := lexL_len k ((c :: r).drop sz) (p + sz) (by rw [List.length_drop, List.length_cons]; omega)
    rw [List.length_drop] at this; simp only [List.length_cons] at this hs ⊢; omega
end Go.Proofs.YthbhknfhmkhfgaaGreatDoor
namespace Go.Proofs.YthbhknfhmkhfgaaGreatDoor
set_option maxRecDepth 100000
set_option maxHeartbeats 20000000
open Go.RowKit Go.Tab
def tokC (t : Tok) : List Value := [.int .i64 t.kind, .string t.text, .int .i64 t.pos]
abbrev tokV (t : Tok) : Value := .agg #[.int .i64 t.kind, .string t.text, .int .i64 t.pos]
def OwnT (base : Nat) (w : World) (v : Value) (l : List Tok) : Prop := w.ownsRow base 36 3 v l.length (l.flatMap tokC)
theorem OwnT.nil {base : Nat} {w : World} : OwnT base w (.slice none 0 0) [] := World.ownsRow_nil _ _ _ _
theorem OwnT.alloc {base : Nat} {w : World} {v : Value} {l : List Tok} (h : OwnT base w v l) (o : Obj) : OwnT base (w.alloc o) v l := World.ownsRow.alloc h o
theorem OwnT.moved {base : Nat} {w w' : World} {v : Value} {l : List Tok} (h : OwnT base w v l) (hc : ∀ k, v.ownBlock = some k -> w'.heap[k]? = w.heap[k]?) : OwnT base w' v l := by
 obtain ⟨h1, h2⟩ := h; refine ⟨h1, ?_⟩; rcases h2 with h2 | ⟨g, cap, cur, rfl, hg0, hg, r⟩
 ·exact .inl h2
 ·exact .inr ⟨g, cap, cur, rfl, hg0, by rw [hc g rfl]; exact hg, r⟩
theorem OwnT.below {base B : Nat} {w w' : World} {v : Value} {l : List Tok} (h : OwnT base w v l) (hb : Below B w w') (hB : w.heap.size <= B) : OwnT base w' v l :=
 h.moved fun k hk => hb.block k (Nat.lt_of_lt_of_le (World.ownsRow.lt h k hk).2 hB)
theorem OwnT.base_le {base base' : Nat} {w : World} {v : Value} {l : List Tok} (h : OwnT base w v l) (hb : base' <= base) : OwnT base' w v l := by
 obtain ⟨h1, h2⟩ := h; refine ⟨h1, ?_⟩; rcases h2 with h2 | ⟨g, cap, cur, hv, hg0, r⟩
 ·exact .inl h2
 ·exact .inr ⟨g, cap, cur, hv, by omega, r⟩
theorem OwnT.len {base : Nat} {w : World} {v : Value} {l : List Tok} (h : OwnT base w v l) : ∃ a cap, v = .slice a l.length cap := by
 obtain ⟨h1, h2⟩ := h; rcases h2 with ⟨rfl, h3⟩ | ⟨g, cap, cur, rfl, _⟩
 ·exact ⟨none, 0, by rw [h3]⟩
 ·exact ⟨_, cap, rfl⟩
theorem Tryz.infoTok : (Tryz.prog.info? 36).map (fun i => (i.zero, i.size, i.bytes)) = some (some (.agg #[.int .i64 0, .string ⟨#[]⟩, .int .i64 0]), 3, 32) := by kernel_rfl
theorem tokC_one (t : Tok) : ∀ u ∈ tokC t, u.oneCell' = true := by
 intro u hu; simp only [tokC, List.mem_cons, List.not_mem_nil, or_false] at hu; rcases hu with rfl | rfl | rfl <;> rfl
theorem flat_tok : ∀ (l : List Tok) (j : Nat) (h : j < l.length), (l.flatMap tokC)[j * 3]? = some (.int .i64 l[j].kind) /\ (l.flatMap tokC)[j * 3 + 1]? = some (.string l[j].text) /\ (l.flatMap tokC)[j * 3 + 2]? = some (.int .i64 l[j].pos)
 | p :: l, 0, _ => by simp [tokC]
 | p :: l, j + 1, h => by
  have ih := flat_tok l j (by simpa using h)
  have e1 : (j + 1) * 3 = j * 3 + 3 := by omega
  rw [e1]
  simpa [tokC] using ih
def ToksAt (w : World) (v : Value) (l : List Tok) : Prop :=
 ∃ a cap, v = .slice a l.length cap /\ l.length <= cap /\ cap <= maxLen /\ (a = none -> cap = 0) /\
  ∀ x, a = some x -> l ≠ [] -> x.spot = none /\ x.block < w.heap.size /\ ∀ j (h : j < l.length), w.cell? ⟨x.block, x.off + j * 3, none⟩ = some (.int .i64 l[j].kind) /\
   w.cell? ⟨x.block, x.off + j * 3 + 1, none⟩ = some (.string l[j].text) /\ w.cell? ⟨x.block, x.off + j * 3 + 2, none⟩ = some (.int .i64 l[j].pos)
theorem ToksAt.nil {w : World} : ToksAt w (.slice none 0 0) [] := ⟨none, 0, rfl, Nat.le_refl _, Nat.zero_le _, fun _ => rfl, fun x hx => by cases hx⟩
theorem OwnT.toks {base : Nat} {w : World} {v : Value} {l : List Tok} (h : OwnT base w v l) : ToksAt w v l := by
 have hlt := World.ownsRow.lt h; obtain ⟨h1, h2⟩ := h; rcases h2 with ⟨rfl, h3⟩ | ⟨g, cap, cur, rfl, hb, hg, h3, h4, h5, h6⟩
 ·have : l = [] := List.eq_nil_of_length_eq_zero h3
  subst this; exact ToksAt.nil
 ·refine ⟨_, cap, rfl, h3, h4, (fun h => by cases h), fun x hx _ => ?_⟩
  cases hx
  refine ⟨rfl, (hlt g rfl).2, fun j hj => ?_⟩; obtain ⟨f1, f2, f3⟩ := flat_tok l j hj; rw [<- h6, List.getElem?_take, if_pos (by omega)] at f1 f2 f3
  refine ⟨?_, ?_, ?_⟩
  ·rw [cell_of_row w g _ cur 36 (0, 0) hg]
   simpa using f1
  ·rw [cell_of_row w g _ cur 36 (0, 0) hg]
   simpa using f2
  ·rw [cell_of_row w g _ cur 36 (0, 0) hg]
   simpa using f3
theorem ToksAt.moved {w w' : World} {v : Value} {l : List Tok} (h : ToksAt w v l) (hs : w.heap.size <= w'.heap.size) (hc : ∀ b off, b < w.heap.size -> v.ownBlock = some b -> w'.cell? ⟨b, off, none⟩ = w.cell? ⟨b, off, none⟩) : ToksAt w' v l := by
 obtain ⟨a, cap, rfl, h1, h2, h3, h4⟩ := h; refine ⟨a, cap, rfl, h1, h2, h3, fun x hx hl => ?_⟩; obtain ⟨g1, g2, g3⟩ := h4 x hx hl; subst hx; refine ⟨g1, Nat.lt_of_lt_of_le g2 hs, fun j hj => ?_⟩; rw [hc _ _ g2 rfl, hc _ _ g2 rfl, hc _ _ g2 rfl]; exact g3 j hj
theorem ToksAt.below {w w' : World} {B : Nat} {v : Value} {l : List Tok} (h : ToksAt w v l) (hb : Below B w w') (hB : w.heap.size <= B) : ToksAt w' v l :=
 h.moved hb.size fun b off hx _ => hb.cell (Nat.lt_of_lt_of_le hx hB)
theorem ToksAt.get {w : World} {a : Option Addr} {n cap : Nat} {l : List Tok} (h : ToksAt w (.slice a n cap) l) {j : Nat} (hj : j < l.length) :
  ∃ b off, a = some ⟨b, off, none⟩ /\ b < w.heap.size /\ w.cell? ⟨b, off + j * 3, none⟩ = some (.int .i64 l[j].kind) /\ w.cell? ⟨b, off + j * 3 + 1, none⟩ = some (.string l[j].text) /\ w.cell? ⟨b, off + j * 3 + 2, none⟩ = some (.int .i64 l[j].pos) := by
 obtain ⟨a', cap', he, h1, h2, h3, h4⟩ := h; cases he
 cases a with
 | none => have := h3 rfl; omega
 | some x =>
  obtain ⟨b, off, sp⟩ := x; obtain ⟨rfl, g2, g3⟩ := h4 _ rfl (by intro h0; subst h0; simp at hj)
  exact ⟨b, off, rfl, g2, g3 j hj⟩
theorem ToksAt.len {w : World} {v : Value} {l : List Tok} (h : ToksAt w v l) : ∃ a cap, v = .slice a l.length cap /\ l.length <= cap /\ cap <= maxLen /\ (a = none -> cap = 0) := by
 obtain ⟨a, cap, h1, h2, h3, h4, -⟩ := h; exact ⟨a, cap, h1, h2, h3, h4⟩
section
variable {w : World} {ops : Array Oper} {rest : List Oper} {o : Oper} {a : Act} {Q : Exit -> Act -> World -> Prop}
theorem wpList_append_tok (hgd : Region.wanted o (yielded ops a.tmps) = true) (s x : Operand)
  (ho : o.op = .call { callee := .builtin .append, args := #[s, x], argTypes := #[30, 30] })
  (base : Nat) (l : List Tok) (t : Tok) (hown : OwnT base w (a.eval s) l) (g : Nat) (hx : a.eval x = .slice (some ⟨g, 0, none⟩) 1 1)
  (hc0 : w.cell? ⟨g, 0, none⟩ = some (.int .i64 t.kind)) (hc1 : w.cell? ⟨g, 1, none⟩ = some (.string t.text)) (hc2 : w.cell? ⟨g, 2, none⟩ = some (.int .i64 t.pos))
  (hm : l.length <= 1048576) (hbase : base <= w.heap.size) (w0 : World) (hb : Below base w0 w)
  (hK : ∀ v' w', OwnT base w' v' (l ++ [t]) -> Below base w0 w' -> w.grownBy w' (a.eval s).ownBlock -> wpList Tryz.prog ops Q rest (a.put o.dst v') w') : wpList Tryz.prog ops Q (o :: rest) a w := by
 refine wpList_want hgd fun K hK' => ?_; obtain ⟨i, hi1, hi2, hi3, hi4⟩ := info_parts Tryz.infoTok; refine wp_append_own w s x 30 ho base 36 i _ 3 32 Tryz.underlying30 hi1 hi2 hi3 hi4 rfl (by decide) (a.eval s) l.length (l.flatMap tokC) rfl hown ⟨g, 0, none⟩ 1 1 (tokC t) hx rfl ?_ (tokC_one t) (by unfold maxLen; omega) (by omega) hbase ?_
 ·intro j u hu
  rw [Addr.add_lit]
  match j with
  | 0 => simp [tokC] at hu; subst hu; simpa using hc0
  | 1 => simp [tokC] at hu; subst hu; simpa using hc1
  | 2 => simp [tokC] at hu; subst hu; simpa using hc2
  | j + 3 => simp [tokC] at hu
 ·intro v' w' hown' hg _
  refine hK' _ _ (hK v' w' ?_ (hb.trans (grown_below hg hbase (fun k hk => (World.ownsRow.lt hown k hk).1))) hg); unfold OwnT
  simpa using hown'
end
abbrev OwnU := OwnOf byteV 5
theorem Tryz.uPB : Tryz.prog.underlying 55 = some (.pointer 58) := by kernel_rfl
theorem Tryz.uUP : Tryz.prog.underlying 155 = some .unsafePointer := by kernel_rfl
theorem Tryz.uBytes : Tryz.prog.underlying 56 = some (.slice 5) := by kernel_rfl
theorem Tryz.uStr : Tryz.prog.underlying 9 = some .string := by kernel_rfl
theorem Tryz.infoU8 : (Tryz.prog.info? 5).map (fun i => (i.zero, i.size, i.bytes)) = some (some (.int .u8 0), 1, 1) := by kernel_rfl
theorem Tryz.sizeBld : (Tryz.prog.info? 58).map (·.size) = some 2 := by kernel_rfl
theorem Tryz.cellsU8 : Tryz.prog.cellsOf 5 = 1 := by kernel_rfl
theorem oneU (x : UInt8) : (byteV x).oneCell' = true := rfl
theorem lit_one (w : World) (c : UInt8) (n : Int) (hn : n = (c.toNat : Int)) (t : TypeId) : RowOf byteV (w.alloc (.cells #[.int .u8 n] t)) (.slice (some ⟨w.heap.size, 0, none⟩) 1 1) [c] := by
 refine ⟨_, 1, rfl, Nat.le_refl _, by decide, (fun h => by cases h), fun x hx _ => ?_⟩
 cases hx
 subst hn; refine ⟨rfl, by simp, fun j hj => ?_⟩
 obtain rfl : j = 0 := by simpa using hj
 rw [World.cell?_alloc_new]; rfl
structure Bld (T : TypeId) (base : Nat) (w : World) (g o : Nat) (cs : Array Value) (l : List UInt8) : Prop where
 cells : Cells w g cs T
 addr : cs[o]? = some (.pointer none) \/ cs[o]? = some (.pointer (some ⟨g, o, none⟩))
 buf : ∃ v, cs[o + 1]? = some v /\ OwnU base w v l
structure BldIn (T : TypeId) (n o : Nat) : Prop where
 ne : T ≠ 5
 lies : liesAt Tryz.prog Tryz.prog.depth T (n / Tryz.prog.cellsOf T) o 58 1 = true
 lt : o + 1 < n
def Used (g o : Nat) (cs cs' : Array Value) : Prop := cs'.size = cs.size /\ (∀ j, j ≠ o -> j ≠ o + 1 -> cs'[j]? = cs[j]?) /\ cs'[o]? = some (.pointer (some ⟨g, o, none⟩))
theorem copyCheck_any {T : TypeId} {base g o : Nat} {cs : Array Value} {l : List UInt8} (w : World) (h : Bld T base w g o cs l) (hI : BldIn T cs.size o) (hg : base <= g) :
  Calls Tryz.prog 124 #[.pointer (some ⟨g, o, none⟩)] w fun e w' => e = .returned (.tuple #[]) /\ ∃ cs', Bld T base w' g o cs' l /\ Used g o cs cs' /\ (∀ v, cs[o + 1]? = some v -> cs'[o + 1]? = some v) /\ w.grownBy w' (some g) := by
 obtain ⟨hc, ha, v, hv, hown⟩ := h; obtain ⟨j, hj, hjs⟩ := Option.map_eq_some_iff.1 Tryz.sizeBld; rcases ha with ha | ha
 ·have h0 := hc.cell o _ ha
  have hf := hc.frozen o; have hsh := hc.shape; have hlt := hI.lt; have hu1 := Lib.run_to_unsafe w ⟨g, o, none⟩ Tryz.uPB Tryz.uUP hj (by rw [hjs]; decide) hsh (by show o < cs.size; omega)
  have hu2 := Lib.run_from_unsafe w ⟨g, o, none⟩ Tryz.uUP Tryz.uPB hj hsh hI.lies; go_enter Tryz.func124, Tryz.ntmps124; go_wp2; rw [run_callFunc_extern Tryz.func148 (by kernel_rfl) (by kernel_rfl) (by kernel_rfl) (e := Extern.AbiNoEscape.same) (by kernel_rfl)]
  rw [Lib.run_noEscape]; simp only [Result.andThen]; rw [Oper.upon_value]; go_wp2; go_end0
  have hgs := grownBy_setAt w g o (.pointer (some ⟨g, o, none⟩)); refine ⟨rfl, _, ⟨hc.set o (by omega) _, .inr (by simp), v, by rw [Array.getElem?_set_ne (by omega) (by omega)]; exact hv, hown.kept hgs (.inr (own_ne_box hown hc hI.ne))⟩, ⟨by simp, fun k h1 _ => by rw [Array.getElem?_set_ne (by omega) (fun e => h1 e.symm)], by simp⟩, fun u hu => by rw [Array.getElem?_set_ne (by omega) (by omega)]; exact hu, hgs⟩
 ·have h0 := hc.cell o _ ha
  have hnq := Lib.run_neq_ptr_same w ⟨g, o, none⟩ Tryz.uPB hj; go_enter Tryz.func124, Tryz.ntmps124; go_wp2; go_end0
  exact ⟨rfl, cs, ⟨hc, .inr ha, v, hv, hown⟩, ⟨rfl, fun _ _ _ => rfl, ha⟩, fun _ h => h, World.grownBy.refl _ _⟩
theorem Used.trans {g o : Nat} {a b c : Array Value} (h : Used g o a b) (h2 : Used g o b c) : Used g o a c :=
 ⟨h2.1.trans h.1, fun j h3 h4 => (h2.2.1 j h3 h4).trans (h.2.1 j h3 h4), h2.2.2⟩
theorem Bld.put {T : TypeId} {base g o : Nat} {cs : Array Value} {l' : List UInt8} {w : World} {v' : Value} (h : Cells w g cs T) (hI : BldIn T cs.size o) (ha : cs[o]? = some (.pointer (some ⟨g, o, none⟩))) (hown : OwnU base w v' l') :
  ∃ cs', Bld T base (w.setCell ⟨g, o + 1, none⟩ v') g o cs' l' /\ Used g o cs cs' := by
 have hlt := hI.lt; refine ⟨_, ⟨h.set (o + 1) hlt v', .inr (by rw [Array.getElem?_set_ne hlt (by omega)]; exact ha), v', by simp, hown.setOther _ _ (fun e => own_ne_box hown h hI.ne e)⟩, by simp, fun j h1 h2 => by rw [Array.getElem?_set_ne hlt (fun e => h2 e.symm)], by rw [Array.getElem?_set_ne hlt (by omega)]; exact ha⟩
theorem WriteByte_any {T : TypeId} {base g o : Nat} {cs : Array Value} {l : List UInt8} (w : World) (c : UInt8) (n : Int) (hn : n = (c.toNat : Int)) (h : Bld T base w g o cs l) (hI : BldIn T cs.size o) (hg : base <= g) (hlen : l.length <= 1000000000) :
  Calls Tryz.prog 103 #[.pointer (some ⟨g, o, none⟩), .int .u8 n] w fun e w' => e = .returned .nilIface /\ ∃ cs', Bld T base w' g o cs' (l ++ [c]) /\ Used g o cs cs' /\ Below base w w' /\ Beside 5 g w w' := by
 have hb0 : base <= w.heap.size := by have := h.cells.lt; omega
 subst hn; go_enter Tryz.func103, Tryz.ntmps103; go_wp2_with fail; refine (copyCheck_any w h hI hg).mono ?_; rintro e w1 ⟨rfl, cs1, h1, hU, hbuf, hg1⟩; have hb1 : Below base w w1 := grown_below hg1 hb0 (fun k hk => by cases hk; exact hg)
 have hz1 := hg1.size; obtain ⟨hc1, ha1, v, hv, hown⟩ := h1; have hk1 := hc1.cell (o + 1) _ hv; go_wp2_with (with_reducible first | refine stop_append ?_ | refine stop_make ?_ | refine stop_slice ?_ | refine stop_copy ?_); refine Stop.out ?_
 refine wpList_append_row (f := byteV) rfl _ _ 56 rfl base 5 1 _ Tryz.uBytes Tryz.infoU8 rfl oneU l [c] (by exact hown.alloc _) (by exact lit_one w1 c _ rfl _) (by unfold maxLen; simp; omega) (by simp; omega) (by simp; omega) w (by exact hb1.alloc (by omega) _) ?_
 intro v2 w2 ho2 hb2 hg2; obtain ⟨a2, n2, c2, rfl, -⟩ := ho2.row.shape; have hc2 := (hc1.alloc (.cells #[.int .u8 (c.toNat : Int)] 5)).kept hg2 (fun e => (own_ne_box hown hc1 (by exact hI.ne)) e.symm)
 have hB2 : Beside 5 g w w2 := (((Beside.refl.grown hg1 (fun k hk => .inl (by cases hk; rfl))).alloc (.cells #[.int .u8 (c.toNat : Int)] 5)).grown hg2 (fun k hk => .inr (own_is_row (hown.alloc (.cells #[.int .u8 (c.toNat : Int)] 5)) k hk)))
 have hf2 := hc2.frozen (o + 1); have hd2 := hc2.cell (o + 1) _ hv; have hsz : cs1.size = cs.size := hU.1; obtain ⟨cs3, h3, hU3⟩ := Bld.put hc2 (by rw [hsz]; exact hI) hU.2.2 ho2
 have hb3 := hb2.setCell (p := ⟨g, o + 1, none⟩) hg (.slice a2 n2 c2); have hB3 := hB2.setCell (o + 1) (.slice a2 n2 c2); clear hB2; go_wp2; go_ret; exact ⟨rfl, cs3, h3, hU.trans hU3, hb3, hB3⟩
theorem wpList_append_str {P : Program} {w : World} {ops : Array Oper} {rest : List Oper} {o : Oper} {a : Act} {Q : Exit -> Act -> World -> Prop} (hgd : o.guard = none) (sl x : Operand) (t u : TypeId)
  (ho : o.op = .call { callee := .builtin .append, args := #[sl, x], argTypes := #[t, u] }) (base : Nat) (e : TypeId) (ht : P.underlying t = some (.slice e)) (hu : P.underlying u = some .string)
  (hi : (P.info? e).map (fun i => (i.zero, i.size, i.bytes)) = some (some (.int .u8 0), 1, 1)) (l : List UInt8) (hown : OwnOf byteV e base w (a.eval sl) l) (s : ByteArray) (hx : a.eval x = .string s)
  (hlen : l.length + s.size <= 2000000000) (hbase : base <= w.heap.size) (w0 : World) (hb : Below base w0 w)
  (hK : ∀ v' w', OwnOf byteV e base w' v' (l ++ s.data.toList) -> Below base w0 w' -> w.grownBy w' (a.eval sl).ownBlock -> wpList P ops Q rest (a.put o.dst v') w') : wpList P ops Q (o :: rest) a w := by
 obtain ⟨i, hi1, hi2, hi3, hi4⟩ := info_parts hi; refine Lib.wpList_append_own_string w hgd sl x t u ho base e i ht hu hi1 hi2 hi3 hi4 (a.eval sl) l.length (l.map byteV) rfl hown s hx (by unfold maxLen; omega) (by omega) hbase ?_
 intro v' w' hown' hg _; refine hK v' w' ?_ (hb.trans (grown_below hg hbase (fun k hk => (World.ownsRow.lt hown k hk).1))) hg; unfold OwnOf; rw [show (l ++ s.data.toList).length = l.length + s.size by rw [List.length_append]; rfl, List.map_append]
 exact hown'
theorem WriteString_any {T : TypeId} {base g o : Nat} {cs : Array Value} {l : List UInt8} (w : World) (s : ByteArray) (h : Bld T base w g o cs l) (hI : BldIn T cs.size o) (hg : base <= g) (hlen : l.length + s.size <= 1000000000) :
  Calls Tryz.prog 100 #[.pointer (some ⟨g, o, none⟩), .string s] w fun e w' => e = .returned (.tuple #[.int .i64 s.size, .nilIface]) /\ ∃ cs', Bld T base w' g o cs' (l ++ s.data.toList) /\ Used g o cs cs' /\ Below base w w' /\ Beside 5 g w w' := by
 have hb0 : base <= w.heap.size := by have := h.cells.lt; omega
 go_enter Tryz.func100, Tryz.ntmps100; go_wp2_with fail; refine (copyCheck_any w h hI hg).mono ?_; rintro e w1 ⟨rfl, cs1, h1, hU, hbuf, hg1⟩; have hb1 : Below base w w1 := grown_below hg1 hb0 (fun k hk => by cases hk; exact hg)
 have hz1 := hg1.size; obtain ⟨hc1, ha1, v, hv, hown⟩ := h1; have hk1 := hc1.cell (o + 1) _ hv; go_wp2_with (with_reducible first | refine stop_append ?_ | refine stop_make ?_ | refine stop_slice ?_ | refine stop_copy ?_); refine Stop.out ?_
 refine wpList_append_str rfl _ _ 56 9 rfl base 5 Tryz.uBytes Tryz.uStr Tryz.infoU8 l (by exact hown) s rfl (by omega) (by omega) w (by exact hb1) ?_
 intro v2 w2 ho2 hb2 hg2; obtain ⟨a2, n2, c2, rfl, -⟩ := ho2.row.shape; have hc2 := hc1.kept hg2 (fun e => (own_ne_box hown hc1 (by exact hI.ne)) e.symm)
 have hB2 : Beside 5 g w w2 := ((Beside.refl.grown hg1 (fun k hk => .inl (by cases hk; rfl))).grown hg2 (fun k hk => .inr (own_is_row hown k hk)))
 have hf2 := hc2.frozen (o + 1); have hd2 := hc2.cell (o + 1) _ hv; have hsz : cs1.size = cs.size := hU.1; obtain ⟨cs3, h3, hU3⟩ := Bld.put hc2 (by rw [hsz]; exact hI) hU.2.2 ho2
 have hb3 := hb2.setCell (p := ⟨g, o + 1, none⟩) hg (.slice a2 n2 c2); have hB3 := hB2.setCell (o + 1) (.slice a2 n2 c2); clear hB2; go_wp2; go_ret2
 exact ⟨rfl, cs3, h3, hU.trans hU3, hb3, hB3⟩
theorem Tryz.uPU8 : Tryz.prog.underlying 80 = some (.pointer 5) := by kernel_rfl
theorem freeze_other (w : World) (p : Addr) (n k : Nat) (hk : k ≠ p.block) : (w.freeze p n).heap[k]? = w.heap[k]? := by
 unfold World.freeze; split
 ·rfl
 ·simp only [Array.getElem?_modify]
  rw [if_neg (fun e => hk e.symm)]
theorem String_any {T : TypeId} {base g o : Nat} {cs : Array Value} {l : List UInt8} (w : World) (h : Bld T base w g o cs l) (hg : base <= w.heap.size) (hlen : l.length <= 1000000000) :
  Calls Tryz.prog 25 #[.pointer (some ⟨g, o, none⟩)] w fun e w' => e = .returned (.string ⟨l.toArray⟩) /\ Below base w w' /\ ∀ k o', k < w.heap.size -> w.heap[k]? = some o' -> (∀ cs fr, o' ≠ .cells cs 5 fr) -> w'.heap[k]? = some o' := by
 obtain ⟨hc, ha, v, hv, hown⟩ := h; have hUS : ∀ (W : World) (q : Option Addr), (Builtin.unsafeString_ #[80, 3] 9 #[.pointer q, .int .i64 0]).run Tryz.prog W = .ok (.string .empty) W := fun W q => Lib.run_unsafeString_none W _ _ _ q; have c1 := hc.drew.cell (o + 1) _ hv; rcases hown.2 with ⟨rfl, hl⟩ | ⟨b, cap, cur, rfl, hbb, hb, hnc, hcm, hcs, htake⟩
 ·have hl0 : l = [] := List.eq_nil_of_length_eq_zero hl
  subst hl0; have hSD : (Builtin.unsafeSliceData_ #[56] 80 #[.slice none 0 0]).run Tryz.prog w.drew = .ok (.pointer none) w.drew := rfl; go_enter Tryz.func25, Tryz.ntmps25; go_wp2; go_region
  all_goals (go_wp2; go_ret; exact ⟨rfl, Below.drew (Below.refl base w), fun k o' _ h _ => h⟩)
 ·by_cases hl0 : l = []
  ·subst hl0
   clear hown htake
   by_cases hcap : cap = 0
   ·subst hcap
    have hSD : (Builtin.unsafeSliceData_ #[56] 80 #[.slice (some ⟨b, 0, none⟩) 0 0]).run Tryz.prog w.drew = .ok (.pointer (some ⟨w.drew.heap.size, 0, none⟩)) (w.drew.alloc (.view ⟨b, 0, none⟩ 5)) :=
     Lib.run_unsafeSliceData_zero w.drew _ _ 5 Tryz.uPU8 ⟨b, 0, none⟩ 0 (5, cur.size) (by have hg' : w.drew.heap[b]? = some (.cells cur 5 (0, 0)) := hb; simp [World.shape?, hg'])
    have c2 := (hc.drew.alloc (.view ⟨b, 0, none⟩ 5)).cell (o + 1) _ hv; have c3 : (w.alloc (.view ⟨b, 0, none⟩ 5)).drew.cell? ⟨g, o + 1, none⟩ = some (.slice (some ⟨b, 0, none⟩) 0 0) := c2; have c4 := hc.cell (o + 1) _ hv; simp only [List.length_nil] at c1 c2 c3 c4; go_enter Tryz.func25, Tryz.ntmps25; go_wp2; go_region
    all_goals
     go_wp2; go_ret; exact ⟨rfl, (Below.drew (Below.refl base w)).alloc hg _, fun k o' hk h _ => ((World.grownBy_alloc w.drew (.view ⟨b, 0, none⟩ 5) none).block k hk (by simp)).trans h⟩
   ·have hSD : (Builtin.unsafeSliceData_ #[56] 80 #[.slice (some ⟨b, 0, none⟩) 0 cap]).run Tryz.prog w.drew = .ok (.pointer (some ⟨b, 0, none⟩)) w.drew := Lib.run_unsafeSliceData_row _ _ _ _ _ _ hcap
    simp only [List.length_nil] at c1; clear hcap; go_enter Tryz.func25, Tryz.ntmps25; go_wp2; go_region
    all_goals (go_wp2; go_ret; exact ⟨rfl, Below.drew (Below.refl base w), fun k o' _ h _ => h⟩)
  ·have hl1 : l.length ≠ 0 := by simpa using hl0
   have hSD : (Builtin.unsafeSliceData_ #[56] 80 #[.slice (some ⟨b, 0, none⟩) l.length cap]).run Tryz.prog w.drew = .ok (.pointer (some ⟨b, 0, none⟩)) w.drew := Lib.run_unsafeSliceData_row _ _ _ _ _ _ (by omega)
   have hUS2 : (Builtin.unsafeString_ #[80, 3] 9 #[.pointer (some ⟨b, 0, none⟩), .int .i64 l.length]).run Tryz.prog w.drew = .ok (.string ⟨l.toArray⟩) (w.drew.freeze ⟨b, 0, none⟩ l.length) := by
    refine Lib.run_unsafeString_row w.drew 80 3 9 5 Tryz.uPU8 Tryz.cellsU8 b cur.size (by have hg' : w.drew.heap[b]? = some (.cells cur 5 (0, 0)) := hb; simp [World.shape?, hg']) l hl0 (by omega) (by omega) ?_
    intro j x hx; obtain ⟨hj, rfl⟩ := List.getElem?_eq_some_iff.1 hx; have := hown.cellAt j hj; rw [Addr.add_lit, Nat.zero_add]; exact this
   clear hown htake hl0 hl1; go_enter Tryz.func25, Tryz.ntmps25; go_wp2; go_region
   all_goals
    go_wp2; go_ret; refine ⟨rfl, Lib.below_freeze (Below.drew (Below.refl base w)) (p := ⟨b, 0, none⟩) hbb _, fun k o' _ h hn => ?_⟩; rw [freeze_other _ _ _ _ (by rintro rfl; rw [hb] at h; cases h; exact hn _ _ rfl)]
    exact h
end Go.Proofs.YthbhknfhmkhfgaaGreatDoor
namespace Go.Proofs.YthbhknfhmkhfgaaGreatDoor
set_option maxRecDepth 100000
set_option maxHeartbeats 20000000
inductive Exp where
 | mk (op text : ByteArray) (kids : List Exp) : Exp
def Exp.op : Exp -> ByteArray
 | .mk o _ _ => o
def Exp.text : Exp -> ByteArray
 | .mk _ t _ => t
def Exp.kids : Exp -> List Exp
 | .mk _ _ k => k
def zeroX : Exp := .mk ⟨#[]⟩ ⟨#[]⟩ []
def lvTab : List (Bs × Int) := [([63], 0), ([124, 124], 1), ([38, 38], 2), ([61, 61], 3), ([33, 61], 3), ([60], 4), ([62], 4), ([60, 61], 4), ([62, 61], 4), ([43], 5), ([45], 5), ([42], 6), ([47], 6), ([37], 6), ([33], 7), ([110, 101, 103], 7),
 ([103, 101, 116], 8), ([97, 116], 8), ([110, 97, 109, 101], 8), ([99, 97, 108, 108], 8), ([110, 117, 109], 8), ([116, 101, 120, 116], 8), ([108, 105, 115, 116], 8)]
def lvN (s : ByteArray) : Int := match lvTab.find? (fun x => x.1 == s.data.toList) with
 | some x => x.2
 | none => -1
def isS (r : List Tok) (w : ByteArray) : Bool := match r with
 | [] => false
 | t :: _ => decide (t.kind = 4) && decide (t.text = w)
def isL (r : List Tok) (lv : Nat) : Option ByteArray := match r with
 | [] => none
 | t :: _ => if t.kind = 4 /\ lvN t.text = lv then some t.text else none
abbrev GotX := Exp × Nat × Int
def badX (r : List Tok) (n : Nat) : GotX := if r = [] then (zeroX, n, 2) else (zeroX, n, 3)
def upX (n : Nat) (g : GotX) : GotX := (g.1, n + g.2.1, g.2.2)
def quoX (s : ByteArray) : Option ByteArray :=
 if (scanQ (nb s.data.toList)).2.2 = 0 /\ (scanQ (nb s.data.toList)).2.1 = s.size then some (strL ((scanQ (nb s.data.toList)).1.map UInt8.ofNat)) else none
inductive Nt where
 | choice : Nt
 | term (lv : Nat) : Nt
 | tloop (lv : Nat) (a : Exp) : Nt
 | tight : Nt
 | post : Nt
 | ploop (a : Exp) : Nt
 | prime : Nt
 | many (shut : ByteArray) : Nt
 | mloop (shut : ByteArray) (l : List Exp) : Nt
abbrev sQ : ByteArray := ⟨#[63]⟩
abbrev sCo : ByteArray := ⟨#[58]⟩
abbrev sBang : ByteArray := ⟨#[33]⟩
abbrev sMinus : ByteArray := ⟨#[45]⟩
abbrev sDot : ByteArray := ⟨#[46]⟩
abbrev sComma : ByteArray := ⟨#[44]⟩
abbrev sLp : ByteArray := ⟨#[40]⟩
abbrev sRp : ByteArray := ⟨#[41]⟩
abbrev sLb : ByteArray := ⟨#[91]⟩
abbrev sRb : ByteArray := ⟨#[93]⟩
abbrev oNeg : ByteArray := ⟨#[110, 101, 103]⟩
abbrev oGet : ByteArray := ⟨#[103, 101, 116]⟩
abbrev oAt : ByteArray := ⟨#[97, 116]⟩
abbrev oName : ByteArray := ⟨#[110, 97, 109, 101]⟩
abbrev oCall : ByteArray := ⟨#[99, 97, 108, 108]⟩
abbrev oNum : ByteArray := ⟨#[110, 117, 109]⟩
abbrev oText : ByteArray := ⟨#[116, 101, 120, 116]⟩
abbrev oList : ByteArray := ⟨#[108, 105, 115, 116]⟩
abbrev oNo : ByteArray := ⟨#[]⟩
def deepX (n : Nat) : GotX := (zeroX, n, 5)
def andX (g : GotX) (f : Exp -> Nat -> GotX) : GotX := if g.2.2 = 0 then f g.1 g.2.1 else (zeroX, g.2)
def parX : Nat -> Nt -> List Tok -> Nat -> GotX
 | 0, _, _, _ => (zeroX, 0, -1)
 | n + 1, .choice, r, d => andX (parX n (.term 1) r d) fun a k =>
   if isS (r.drop k) sQ = false then (a, k, 0) else if 64 <= d then deepX k else
   andX (upX (k + 1) (parX n .choice (r.drop (k + 1)) (d + 1))) fun b k2 =>
   if isS (r.drop k2) sCo = false then badX (r.drop k2) k2 else
   andX (upX (k2 + 1) (parX n .choice (r.drop (k2 + 1)) (d + 1))) fun c k3 => (.mk sQ oNo [a, b, c], k3, 0)
 | n + 1, .term lv, r, d => if 7 <= lv then parX n .tight r d else
   andX (parX n (.term (lv + 1)) r d) fun a k => upX k (parX n (.tloop lv a) (r.drop k) d)
 | n + 1, .tloop lv a, r, d => match isL r lv with
   | none => (a, 0, 0)
   | some o => andX (upX 1 (parX n (.term (lv + 1)) (r.drop 1) d)) fun b k => upX k (parX n (.tloop lv (.mk o oNo [a, b])) (r.drop k) d)
 | n + 1, .tight, r, d => if isS r sBang = false /\ isS r sMinus = false then parX n .post r d else if 64 <= d then deepX 0 else
   andX (upX 1 (parX n .tight (r.drop 1) (d + 1))) fun a k => (.mk (if isS r sBang then sBang else oNeg) oNo [a], k, 0)
 | n + 1, .post, r, d => andX (parX n .prime r d) fun a k => upX k (parX n (.ploop a) (r.drop k) d)
 | n + 1, .ploop a, r, d =>
   if isS r sDot then match r.drop 1 with
    | [] => badX [] 1
    | t :: _ => if t.kind = 1 then upX 2 (parX n (.ploop (.mk oGet t.text [a])) (r.drop 2) d) else badX (r.drop 1) 1
   else if isS r sLb then (if 64 <= d then deepX 0 else
    andX (upX 1 (parX n .choice (r.drop 1) (d + 1))) fun b k => if isS (r.drop k) sRb = false then badX (r.drop k) k else upX (k + 1) (parX n (.ploop (.mk oAt oNo [a, b])) (r.drop (k + 1)) d))
   else (a, 0, 0)
 | n + 1, .prime, r, d => match r with
   | [] => badX [] 0
   | t :: r' =>
    if t.kind = 1 then (if isS r' sLp then andX (upX 1 (parX n (.many sRp) r' d)) fun x k => (.mk oCall t.text x.kids, k, 0) else (.mk oName t.text [], 1, 0))
    else if t.kind = 2 then (.mk oNum t.text [], 1, 0)
    else if t.kind = 3 then (match quoX t.text with | none => (zeroX, 0, 3) | some s => (.mk oText s [], 1, 0))
    else if isS r sLb then andX (parX n (.many sRb) r d) fun x k => (.mk oList oNo x.kids, k, 0)
    else if isS r sLp then (if 64 <= d then deepX 0 else andX (upX 1 (parX n .choice r' (d + 1))) fun a k => if isS (r.drop k) sRp = false then badX (r.drop k) k else (a, k + 1, 0))
    else badX r 0
 | n + 1, .many s, r, d => if 64 <= d then deepX 0 else if isS (r.drop 1) s then (.mk oNo oNo [], 2, 0) else upX 1 (parX n (.mloop s []) (r.drop 1) d)
 | n + 1, .mloop s l, r, d => andX (parX n .choice r (d + 1)) fun a k =>
   if isS (r.drop k) sComma then upX (k + 1) (parX n (.mloop s (l ++ [a])) (r.drop (k + 1)) d) else if isS (r.drop k) s then (.mk oNo oNo (l ++ [a]), k + 1, 0) else badX (r.drop k) k
def Nt.rank : Nt -> Nat
 | .choice => 14
 | .term lv => 13 - lv
 | .tloop _ _ => 2
 | .tight => 5
 | .post => 4
 | .ploop _ => 2
 | .prime => 3
 | .many _ => 2
 | .mloop _ _ => 15
def fuelX (t : Nt) (r : List Tok) : Nat := r.length * 16 + t.rank
theorem andX_ok {g : GotX} {f : Exp -> Nat -> GotX} (h : g.2.2 = 0) : andX g f = f g.1 g.2.1 := by rw [andX, if_pos h]
theorem andX_bad {g : GotX} {f : Exp -> Nat -> GotX} (h : g.2.2 ≠ 0) : andX g f = (zeroX, g.2) := by rw [andX, if_neg h]
def FineX (m : Nat) (r : List Tok) (g : GotX) : Prop := g.2.2 ≠ -1 /\ g.2.1 <= r.length /\ (g.2.2 = 0 -> m <= g.2.1)
theorem FineX.and {m m2 : Nat} {r : List Tok} {g : GotX} {f : Exp -> Nat -> GotX} (h : FineX m r g) (hf : g.2.2 = 0 -> m <= g.2.1 -> g.2.1 <= r.length -> FineX m2 r (f g.1 g.2.1)) : FineX m2 r (andX g f) := by
 by_cases he : g.2.2 = 0
 ·rw [andX_ok he]; exact hf he (h.2.2 he) h.2.1
 ·rw [andX_bad he]; exact ⟨h.1, h.2.1, fun e => absurd e he⟩
theorem FineX.up {m n : Nat} {r : List Tok} {g : GotX} (h : FineX m (r.drop n) g) (hn : n <= r.length) : FineX (n + m) r (upX n g) := by
 obtain ⟨h1, h2, h3⟩ := h; rw [List.length_drop] at h2; exact ⟨h1, by simp only [upX]; omega, fun e => by have := h3 e; simp only [upX]; omega⟩
theorem FineX.less {m m2 : Nat} {r : List Tok} {g : GotX} (h : FineX m r g) (hm : m2 <= m) : FineX m2 r g := ⟨h.1, h.2.1, fun e => Nat.le_trans hm (h.2.2 e)⟩
theorem FineX.ok {m n : Nat} {r : List Tok} {x : Exp} (h1 : n <= r.length) (h2 : m <= n) : FineX m r (x, n, 0) := ⟨(by decide : (0 : Int) ≠ -1), h1, fun _ => h2⟩
theorem FineX.bad {m : Nat} {r q : List Tok} {n : Nat} (hn : n <= r.length) : FineX m r (badX q n) := by
 unfold badX; split
 ·exact ⟨(by decide : (2 : Int) ≠ -1), hn, fun e => by cases e⟩
 ·exact ⟨(by decide : (3 : Int) ≠ -1), hn, fun e => by cases e⟩
theorem FineX.deep {m : Nat} {r : List Tok} {n : Nat} (hn : n <= r.length) : FineX m r (deepX n) := ⟨(by decide : (5 : Int) ≠ -1), hn, fun e => by cases e⟩
theorem isS_some {r : List Tok} {w : ByteArray} (h : isS r w = true) : 1 <= r.length := by cases r with | nil => cases h | cons t r => simp
theorem isS_none {r : List Tok} {w : ByteArray} (h : ¬ isS r w = false) : 1 <= r.length := isS_some (by simpa using h)
theorem isL_some {r : List Tok} {lv : Nat} {o : ByteArray} (h : isL r lv = some o) : 1 <= r.length := by cases r with | nil => cases h | cons t r => simp
theorem len_drop1 {r : List Tok} {k : Nat} (h : 1 <= (r.drop k).length) : k + 1 <= r.length := by rw [List.length_drop] at h; omega
def Nt.okX : Nt -> List Tok -> Prop
 | .term lv, _ => lv <= 7
 | .tloop lv _, _ => lv <= 6
 | .many _, r => 1 <= r.length
 | _, _ => True
def Nt.least : Nt -> Nat
 | .tloop _ _ => 0
 | .ploop _ => 0
 | _ => 1
theorem parX_fine : ∀ (n : Nat) (t : Nt) (r : List Tok) (d : Nat), fuelX t r <= n -> t.okX r -> FineX t.least r (parX n t r d) := by
 intro n
 induction n with
 | zero =>
  intro t r d h ht; exfalso
  unfold fuelX at h
  cases t with
  | term lv => simp only [Nt.rank] at h; simp only [Nt.okX] at ht; omega
  | _ => simp only [Nt.rank] at h; omega
 | succ n ih =>
  intro t r d h ht; unfold fuelX at h; have IH : ∀ (t : Nt) (r : List Tok) (d : Nat), r.length * 16 + t.rank <= n -> t.okX r -> FineX t.least r (parX n t r d) := fun t r d h => ih t r d h; clear ih
  cases t with
  | choice =>
   simp only [Nt.rank] at h; rw [parX]; refine (IH (.term 1) r d (by simp only [Nt.rank]; omega) (by simp only [Nt.okX]; omega)).and fun _ h1 h2 => ?_
   simp only [Nt.least] at h1 ⊢; split
   ·exact (.ok (h2) (h1))
   ·next hq =>
    have hq := len_drop1 (isS_none hq); split
    ·exact .deep h2
    ·refine ((IH .choice (r.drop _) (d + 1) (by simp only [Nt.rank, List.length_drop]; omega) (by simp only [Nt.okX]; try omega)).up hq).and fun _ h3 h4 => ?_
     simp only [Nt.least] at h3; split
     ·exact .bad h4
     ·next hc =>
      have hc := len_drop1 (isS_none hc); refine ((IH .choice (r.drop _) (d + 1) (by simp only [Nt.rank, List.length_drop]; omega) (by simp only [Nt.okX]; try omega)).up hc).and fun _ h5 h6 => ?_
      exact (.ok (h6) (by simp only [Nt.least] at *; omega))
  | term lv =>
   simp only [Nt.rank] at h; simp only [Nt.okX] at ht; rw [parX]; split
   ·exact IH .tight r d (by simp only [Nt.rank]; omega) (by simp only [Nt.okX]; try omega)
   ·refine (IH (.term (lv + 1)) r d (by simp only [Nt.rank]; omega) (by simp only [Nt.okX]; omega)).and fun _ h1 h2 => ?_
    simp only [Nt.least] at h1; exact ((IH (.tloop lv _) (r.drop _) d (by simp only [Nt.rank, List.length_drop]; omega) (by simp only [Nt.okX]; try omega)).up h2).less (by simp only [Nt.least]; omega)
  | tloop lv a =>
   simp only [Nt.rank] at h; rw [parX]; split
   ·exact (.ok (Nat.zero_le _) (Nat.zero_le _))
   ·next o ho =>
    have hl := isL_some ho; refine ((IH (.term (lv + 1)) (r.drop 1) d (by simp only [Nt.rank, List.length_drop]; omega) (by simp only [Nt.okX] at ht ⊢; omega)).up hl).and fun _ h1 h2 => ?_
    simp only [Nt.least] at h1; exact ((IH (.tloop lv _) (r.drop _) d (by simp only [Nt.rank, List.length_drop]; omega) ht).up h2).less (Nat.zero_le _)
  | tight =>
   simp only [Nt.rank] at h; rw [parX]; split
   ·exact IH .post r d (by simp only [Nt.rank]; omega) (by simp only [Nt.okX]; try omega)
   ·next hs =>
    have hl : 1 <= r.length := by
     by_cases h1 : isS r sBang = false
     ·exact isS_none (w := sMinus) (fun h2 => hs ⟨h1, h2⟩)
     ·exact isS_none h1
    split
    ·exact .deep (Nat.zero_le _)
    ·refine ((IH .tight (r.drop 1) (d + 1) (by simp only [Nt.rank, List.length_drop]; omega) (by simp only [Nt.okX]; try omega)).up hl).and fun _ h1 h2 => ?_
     exact (.ok (h2) (by simp only [Nt.least] at *; omega))
  | post =>
   simp only [Nt.rank] at h; rw [parX]; refine (IH .prime r d (by simp only [Nt.rank]; omega) (by simp only [Nt.okX]; try omega)).and fun _ h1 h2 => ?_
   simp only [Nt.least] at h1; exact ((IH (.ploop _) (r.drop _) d (by simp only [Nt.rank, List.length_drop]; omega) (by simp only [Nt.okX]; try omega)).up h2).less (by simp only [Nt.least]; omega)
  | ploop a =>
   simp only [Nt.rank] at h; rw [parX]; split
   ·next hs =>
    have hl := isS_some hs; split
    ·exact .bad hl
    ·next t q hq =>
     have hl2 : 2 <= r.length := by have := congrArg List.length hq; simp at this; omega
     split
     ·exact ((IH (.ploop _) (r.drop 2) d (by simp only [Nt.rank, List.length_drop]; omega) (by simp only [Nt.okX]; try omega)).up hl2).less (Nat.zero_le _)
     ·exact .bad hl
   ·split
    ·next hs =>
     have hl := isS_some hs; split
     ·exact .deep (Nat.zero_le _)
     ·refine ((IH .choice (r.drop 1) (d + 1) (by simp only [Nt.rank, List.length_drop]; omega) (by simp only [Nt.okX]; try omega)).up hl).and fun _ h1 h2 => ?_
      simp only [Nt.least] at h1; split
      ·exact .bad h2
      ·next hb =>
       have hb := len_drop1 (isS_none hb); exact ((IH (.ploop _) (r.drop _) d (by simp only [Nt.rank, List.length_drop]; omega) (by simp only [Nt.okX]; try omega)).up hb).less (Nat.zero_le _)
    ·exact (.ok (Nat.zero_le _) (Nat.zero_le _))
  | prime =>
   simp only [Nt.rank] at h
   cases r with
   | nil => exact .bad (Nat.zero_le _)
   | cons t r' =>
    simp only [parX]; simp only [List.length_cons] at h; split
    ·split
     ·next hs =>
      have := ((IH (.many sRp) ((t :: r').drop 1) d (by simp only [Nt.rank, List.length_drop, List.length_cons]; omega) (isS_some hs)).up (n := 1) (by simp))
      refine this.and fun _ h1 h2 => ?_; exact (.ok (h2) (by simp only [Nt.least] at *; omega))
     ·exact (.ok (by simp) (Nat.le_refl _))
    ·split
     ·exact (.ok (by simp) (Nat.le_refl _))
     ·split
      ·split
       ·exact ⟨(by decide : (3 : Int) ≠ -1), Nat.zero_le _, fun e => by cases e⟩
       ·exact (.ok (by simp) (Nat.le_refl _))
      ·split
       ·refine (IH (.many sRb) (t :: r') d (by simp only [Nt.rank, List.length_cons]; omega) (by simp [Nt.okX])).and fun _ h1 h2 => ?_
        exact (.ok (h2) (h1))
       ·split
        ·split
         ·exact .deep (Nat.zero_le _)
         ·refine ((IH .choice ((t :: r').drop 1) (d + 1) (by simp only [Nt.rank, List.length_drop, List.length_cons]; omega) (by simp only [Nt.okX]; try omega)).up (n := 1) (by simp)).and fun _ h1 h2 => ?_
          simp only [Nt.least] at h1; split
          ·exact .bad h2
          ·next hb => exact (.ok (len_drop1 (isS_none hb)) (by simp only [Nt.least] at *; omega))
        ·exact .bad (Nat.zero_le _)
  | many s =>
   simp only [Nt.rank] at h; have hl : 1 <= r.length := ht; rw [parX]; split
   ·exact .deep (Nat.zero_le _)
   ·split
    ·next hs => exact (.ok (len_drop1 (isS_some hs)) (by simp only [Nt.least] at *; omega))
    ·exact ((IH (.mloop s []) (r.drop 1) d (by simp only [Nt.rank, List.length_drop]; omega) (by simp only [Nt.okX]; try omega)).up hl).less (by simp only [Nt.least]; omega)
  | mloop s l =>
   simp only [Nt.rank] at h; rw [parX]; refine (IH .choice r (d + 1) (by simp only [Nt.rank]; omega) (by simp only [Nt.okX]; try omega)).and fun _ h1 h2 => ?_
   simp only [Nt.least] at h1; split
   ·next hs =>
    have hs := len_drop1 (isS_some hs); exact ((IH (.mloop s _) (r.drop _) d (by simp only [Nt.rank, List.length_drop]; omega) (by simp only [Nt.okX]; try omega)).up hs).less (by simp only [Nt.least]; omega)
   ·split
    ·next hs => exact (.ok (len_drop1 (isS_some hs)) (by simp only [Nt.least] at *; omega))
    ·exact .bad h2
end Go.Proofs.YthbhknfhmkhfgaaGreatDoor
namespace Go.Proofs.YthbhknfhmkhfgaaGreatDoor
set_option maxRecDepth 100000
set_option maxHeartbeats 20000000
def FineY (m : Nat) (r : List Tok) (g : GotX) : Prop := g.2.2 ≠ -1 -> g.2.1 <= r.length /\ (g.2.2 = 0 -> m <= g.2.1)
theorem FineY.and {m m2 : Nat} {r : List Tok} {g : GotX} {f : Exp -> Nat -> GotX} (h : FineY m r g) (hf : g.2.2 = 0 -> m <= g.2.1 -> g.2.1 <= r.length -> FineY m2 r (f g.1 g.2.1)) : FineY m2 r (andX g f) := by
 by_cases he : g.2.2 = 0
 ·rw [andX_ok he]
  have h1 := h (by rw [he]; decide)
  exact hf he (h1.2 he) h1.1
 ·rw [andX_bad he]; exact fun hn => ⟨(h hn).1, fun e => absurd e he⟩
theorem FineY.up {m n : Nat} {r : List Tok} {g : GotX} (h : FineY m (r.drop n) g) (hn : n <= r.length) : FineY (n + m) r (upX n g) := by
 intro h0; obtain ⟨h2, h3⟩ := h h0; rw [List.length_drop] at h2; exact ⟨by simp only [upX]; omega, fun e => by have := h3 e; simp only [upX]; omega⟩
theorem FineY.less {m m2 : Nat} {r : List Tok} {g : GotX} (h : FineY m r g) (hm : m2 <= m) : FineY m2 r g := fun h0 => ⟨(h h0).1, fun e => Nat.le_trans hm ((h h0).2 e)⟩
theorem FineY.ok {m n : Nat} {r : List Tok} {x : Exp} (h1 : n <= r.length) (h2 : m <= n) : FineY m r (x, n, 0) := fun _ => ⟨h1, fun _ => h2⟩
theorem FineY.bad {m : Nat} {r q : List Tok} {n : Nat} (hn : n <= r.length) : FineY m r (badX q n) := by
 unfold badX; split
 ·exact fun _ => ⟨hn, fun e => by cases e⟩
 ·exact fun _ => ⟨hn, fun e => by cases e⟩
theorem FineY.deep {m : Nat} {r : List Tok} {n : Nat} (hn : n <= r.length) : FineY m r (deepX n) := fun _ => ⟨hn, fun e => by cases e⟩
theorem parX_le : ∀ (n : Nat) (t : Nt) (r : List Tok) (d : Nat), t.okX r -> FineY t.least r (parX n t r d) := by
 intro n
 induction n with
 | zero =>
  intro t r d _ h; exact absurd rfl h
 | succ n ih =>
  intro t r d ht; have IH : ∀ (t : Nt) (r : List Tok) (d : Nat), t.okX r -> FineY t.least r (parX n t r d) := fun t r d h => ih t r d h; clear ih
  cases t with
  | choice =>
   rw [parX]; refine (IH (.term 1) r d (by simp only [Nt.okX]; omega)).and fun _ h1 h2 => ?_
   simp only [Nt.least] at h1 ⊢; split
   ·exact (.ok (h2) (h1))
   ·next hq =>
    have hq := len_drop1 (isS_none hq); split
    ·exact .deep h2
    ·refine ((IH .choice (r.drop _) (d + 1) (by simp only [Nt.okX]; try omega)).up hq).and fun _ h3 h4 => ?_
     simp only [Nt.least] at h3; split
     ·exact .bad h4
     ·next hc =>
      have hc := len_drop1 (isS_none hc); refine ((IH .choice (r.drop _) (d + 1) (by simp only [Nt.okX]; try omega)).up hc).and fun _ h5 h6 => ?_
      exact (.ok (h6) (by simp only [Nt.least] at *; omega))
  | term lv =>
   simp only [Nt.okX] at ht; rw [parX]; split
   ·exact IH .tight r d (by simp only [Nt.okX]; try omega)
   ·refine (IH (.term (lv + 1)) r d (by simp only [Nt.okX]; omega)).and fun _ h1 h2 => ?_
    simp only [Nt.least] at h1; exact ((IH (.tloop lv _) (r.drop _) d (by simp only [Nt.okX]; try omega)).up h2).less (by simp only [Nt.least]; omega)
  | tloop lv a =>
   rw [parX]; split
   ·exact (.ok (Nat.zero_le _) (Nat.zero_le _))
   ·next o ho =>
    have hl := isL_some ho; refine ((IH (.term (lv + 1)) (r.drop 1) d (by simp only [Nt.okX] at ht ⊢; omega)).up hl).and fun _ h1 h2 => ?_
    simp only [Nt.least] at h1; exact ((IH (.tloop lv _) (r.drop _) d ht).up h2).less (Nat.zero_le _)
  | tight =>
   rw [parX]; split
   ·exact IH .post r d (by simp only [Nt.okX]; try omega)
   ·next hs =>
    have hl : 1 <= r.length := by
     by_cases h1 : isS r sBang = false
     ·exact isS_none (w := sMinus) (fun h2 => hs ⟨h1, h2⟩)
     ·exact isS_none h1
    split
    ·exact .deep (Nat.zero_le _)
    ·refine ((IH .tight (r.drop 1) (d + 1) (by simp only [Nt.okX]; try omega)).up hl).and fun _ h1 h2 => ?_
     exact (.ok (h2) (by simp only [Nt.least] at *; omega))
  | post =>
   rw [parX]; refine (IH .prime r d (by simp only [Nt.okX]; try omega)).and fun _ h1 h2 => ?_
   simp only [Nt.least] at h1; exact ((IH (.ploop _) (r.drop _) d (by simp only [Nt.okX]; try omega)).up h2).less (by simp only [Nt.least]; omega)
  | ploop a =>
   rw [parX]; split
   ·next hs =>
    have hl := isS_some hs; split
    ·exact .bad hl
    ·next t q hq =>
     have hl2 : 2 <= r.length := by have := congrArg List.length hq; simp at this; omega
     split
     ·exact ((IH (.ploop _) (r.drop 2) d (by simp only [Nt.okX]; try omega)).up hl2).less (Nat.zero_le _)
     ·exact .bad hl
   ·split
    ·next hs =>
     have hl := isS_some hs; split
     ·exact .deep (Nat.zero_le _)
     ·refine ((IH .choice (r.drop 1) (d + 1) (by simp only [Nt.okX]; try omega)).up hl).and fun _ h1 h2 => ?_
      simp only [Nt.least] at h1; split
      ·exact .bad h2
      ·next hb =>
       have hb := len_drop1 (isS_none hb); exact ((IH (.ploop _) (r.drop _) d (by simp only [Nt.okX]; try omega)).up hb).less (Nat.zero_le _)
    ·exact (.ok (Nat.zero_le _) (Nat.zero_le _))
  | prime =>
   cases r with
   | nil => exact .bad (Nat.zero_le _)
   | cons t r' =>
    simp only [parX]; split
    ·split
     ·next hs =>
      have := ((IH (.many sRp) ((t :: r').drop 1) d (isS_some hs)).up (n := 1) (by simp))
      refine this.and fun _ h1 h2 => ?_; exact (.ok (h2) (by simp only [Nt.least] at *; omega))
     ·exact (.ok (by simp) (Nat.le_refl _))
    ·split
     ·exact (.ok (by simp) (Nat.le_refl _))
     ·split
      ·split
       ·exact fun _ => ⟨Nat.zero_le _, fun e => by cases e⟩
       ·exact (.ok (by simp) (Nat.le_refl _))
      ·split
       ·refine (IH (.many sRb) (t :: r') d (by simp [Nt.okX])).and fun _ h1 h2 => ?_
        exact (.ok (h2) (h1))
       ·split
        ·split
         ·exact .deep (Nat.zero_le _)
         ·refine ((IH .choice ((t :: r').drop 1) (d + 1) (by simp only [Nt.okX]; try omega)).up (n := 1) (by simp)).and fun _ h1 h2 => ?_
          simp only [Nt.least] at h1; split
          ·exact .bad h2
          ·next hb => exact (.ok (len_drop1 (isS_none hb)) (by simp only [Nt.least] at *; omega))
        ·exact .bad (Nat.zero_le _)
  | many s =>
   have hl : 1 <= r.length := ht; rw [parX]; split
   ·exact .deep (Nat.zero_le _)
   ·split
    ·next hs => exact (.ok (len_drop1 (isS_some hs)) (by simp only [Nt.least] at *; omega))
    ·exact ((IH (.mloop s []) (r.drop 1) d (by simp only [Nt.okX]; try omega)).up hl).less (by simp only [Nt.least]; omega)
  | mloop s l =>
   rw [parX]; refine (IH .choice r (d + 1) (by simp only [Nt.okX]; try omega)).and fun _ h1 h2 => ?_
   simp only [Nt.least] at h1; split
   ·next hs =>
    have hs := len_drop1 (isS_some hs); exact ((IH (.mloop s _) (r.drop _) d (by simp only [Nt.okX]; try omega)).up hs).less (by simp only [Nt.least]; omega)
   ·split
    ·next hs => exact (.ok (len_drop1 (isS_some hs)) (by simp only [Nt.least] at *; omega))
    ·exact .bad h2
end Go.Proofs.YthbhknfhmkhfgaaGreatDoor
namespace Go.Proofs.YthbhknfhmkhfgaaGreatDoor
set_option maxRecDepth 100000
set_option maxHeartbeats 20000000
def SubX (g G : GotX) : Prop := g.2.2 ≠ -1 -> G = g
theorem SubX.refl (g : GotX) : SubX g g := fun _ => rfl
theorem SubX.and {g G : GotX} {f F : Exp -> Nat -> GotX} (h : SubX g G) (hf : ∀ x k, SubX (f x k) (F x k)) : SubX (andX g f) (andX G F) := by
 intro h0
 by_cases he : g.2.2 = 0
 ·have hG := h (by rw [he]; decide)
  rw [andX_ok he] at h0 ⊢; rw [hG, andX_ok he]; exact hf _ _ h0
 ·rw [andX_bad he] at h0 ⊢
  rw [h h0, andX_bad he]
theorem SubX.up {g G : GotX} (n : Nat) (h : SubX g G) : SubX (upX n g) (upX n G) := fun h0 => by rw [h h0]
theorem parX_more : ∀ (n : Nat) (t : Nt) (r : List Tok) (d : Nat), SubX (parX n t r d) (parX (n + 1) t r d) := by
 intro n
 induction n with
 | zero => intro t r d h; exact absurd rfl h
 | succ n IH =>
  intro t r d
  cases t with
  | choice =>
   rw [parX, parX]; refine (IH (.term 1) r d).and fun a k => ?_; split
   ·exact .refl _
   split
   ·exact .refl _
   refine ((IH .choice _ _).up _).and fun b k2 => ?_; split
   ·exact .refl _
   exact ((IH .choice _ _).up _).and fun _ _ => .refl _
  | term lv =>
   rw [parX, parX]; split
   ·exact IH _ _ _
   exact (IH _ _ _).and fun a k => (IH _ _ _).up _
  | tloop lv a =>
   rw [parX, parX]; split
   ·exact .refl _
   exact ((IH _ _ _).up _).and fun b k => (IH _ _ _).up _
  | tight =>
   rw [parX, parX]; split
   ·exact IH _ _ _
   split
   ·exact .refl _
   exact ((IH _ _ _).up _).and fun _ _ => .refl _
  | post =>
   rw [parX, parX]; exact (IH _ _ _).and fun a k => (IH _ _ _).up _
  | ploop a =>
   rw [parX, parX]; split
   ·split
    ·exact .refl _
    ·split
     ·exact (IH _ _ _).up _
     ·exact .refl _
   split
   ·split
    ·exact .refl _
    refine ((IH _ _ _).up _).and fun b k => ?_; split
    ·exact .refl _
    exact (IH _ _ _).up _
   ·exact .refl _
  | prime =>
   cases r with
   | nil => exact .refl _
   | cons t r' =>
    simp only [parX]; split
    ·split
     ·exact ((IH _ _ _).up _).and fun _ _ => .refl _
     ·exact .refl _
    split
    ·exact .refl _
    split
    ·exact .refl _
    split
    ·exact (IH _ _ _).and fun _ _ => .refl _
    split
    ·split
     ·exact .refl _
     exact ((IH _ _ _).up _).and fun _ _ => .refl _
    ·exact .refl _
  | many s =>
   rw [parX, parX]; split
   ·exact .refl _
   split
   ·exact .refl _
   exact (IH _ _ _).up _
  | mloop s l =>
   rw [parX, parX]; refine (IH _ _ _).and fun a k => ?_; split
   ·exact (IH _ _ _).up _
   exact .refl _
theorem parX_fuel {n m : Nat} (h : n <= m) {t : Nt} {r : List Tok} {d : Nat} (hn : (parX n t r d).2.2 ≠ -1) : parX m t r d = parX n t r d := by
 induction h with
 | refl => rfl
 | step _ ih =>
  rw [parX_more _ t r d (by rw [ih]; exact hn), ih]
def R3 (r : List Tok) (g G1 G2 : GotX) : Prop := g.2.2 = 0 -> g.2.1 <= r.length /\ ((G1 = g /\ G2 = g) \/ (G1 = G2 /\ G1.2.2 = 5))
end Go.Proofs.YthbhknfhmkhfgaaGreatDoor
namespace Go.Proofs.YthbhknfhmkhfgaaGreatDoor
set_option maxRecDepth 100000
set_option maxHeartbeats 20000000
open Go.RowKit Go.Tab
def SameP (p : Prop) (w : World) (e : Ending) (w' : World) : Prop := (∃ b, e = .returned (.bool b) /\ (b = true ↔ p)) /\ Below w.heap.size w w'
theorem SameP.fix {p : Prop} {b : Bool} (hb : b = true ↔ p) {P : Program} {f : FuncId} {args : Array Value} {w : World} (h : Calls P f args w (SameP p w)) :
  Calls P f args w fun e w' => e = .returned (.bool b) /\ Below w.heap.size w w' :=
 h.mono fun e w' ⟨⟨c, he, hc⟩, hw⟩ => ⟨by rw [he, show c = b from by rw [Bool.eq_iff_iff, hc, hb]], hw⟩
theorem some_bool (p : Prop) : ∃ b : Bool, b = true ↔ p := by
 classical
 exact ⟨decide p, decide_eq_true_iff⟩
theorem list_inj {a b : ByteArray} (h : a.toList = b.toList) : a = b :=
 ByteArray.ext (Array.ext' (by rw [ByteArray.toList_eq, ByteArray.toList_eq] at h; exact h))
theorem str_ne {a b : ByteArray} (h : ¬ a = b) : (a.toList == b.toList) = false := by
 rw [beq_eq_false_iff_ne]; exact fun h1 => h (list_inj h1)
theorem rows_ne {α : Type} {a b : List α} {k : Nat} (h1 : k < a.length) (h2 : k < b.length) (h : a[k] ≠ b[k]) : a ≠ b := by
 rintro rfl; exact h rfl
theorem rows_eq {α : Type} {a b : List α} (hl : a.length = b.length) (h : ∀ j (h1 : j < a.length) (h2 : j < b.length), a[j] = b[j]) : a = b :=
 List.ext_getElem hl h
theorem take_snoc' {α : Type} (l : List α) (k : Nat) (h : k < l.length) : l.take (k + 1) = l.take k ++ [l[k]] := by
 rw [List.take_succ_eq_append_getElem h]
theorem two_new {w w2 : World} {c1 c2 : Array Value} {T : TypeId} (hb2 : Below ((w.alloc (.cells c1 T)).alloc (.cells c2 T)).heap.size ((w.alloc (.cells c1 T)).alloc (.cells c2 T)) w2) :
  Cells w2 w.heap.size c1 T /\ Cells w2 (w.heap.size + 1) c2 T /\ w.heap.size < w2.heap.size /\ w.heap.size + 1 < w2.heap.size := by
 have hs := hb2.size; simp only [World.size_alloc] at hs; refine ⟨((Cells.new w c1 T).alloc _).below hb2 (by simp; omega), ?_, by omega, by omega⟩
 have h := (Cells.new (w.alloc (.cells c1 T)) c2 T).below hb2 (by simp)
 simpa using h
theorem no_iff {p : Prop} (h : ¬ p) : (false = true ↔ p) := ⟨(fun h => by cases h), fun hp => absurd hp h⟩
theorem yes_iff {p : Prop} (h : p) : (true = true ↔ p) := ⟨fun _ => h, fun _ => rfl⟩
theorem cell_same {w w' : World} {b : Nat} (h : w'.heap[b]? = w.heap[b]?) (off : Nat) : w'.cell? ⟨b, off, none⟩ = w.cell? ⟨b, off, none⟩ := by
 simp only [World.cell?, h]
theorem frozen_same {w w' : World} {b : Nat} (h : w'.heap[b]? = w.heap[b]?) (off : Nat) : w'.frozen? ⟨b, off, none⟩ = w.frozen? ⟨b, off, none⟩ := by
 simp only [World.frozen?, h]
theorem cells_at {w : World} {base n : Nat} {a : Addr} {cs : List Value} (h : w.cells? base a n = some cs) : cs.length = n /\ ∀ j u, cs[j]? = some u -> w.cell? (a.add j) = some u := by
 unfold World.cells? at h; split at h
 ·have hl := mapM_some_length h
  simp at hl
  refine ⟨hl, fun j u hu => ?_⟩; have hj := (List.getElem?_eq_some_iff.1 hu).1; have := mapM_some_get h j j (List.getElem?_range (by omega))
  rw [hu] at this; exact this
 ·cases h
theorem len3 {α : Type} {l : List α} (h : l.length = 3) : ∃ a b c, l = [a, b, c] := by
 match l, h with
 | [a, b, c], _ => exact ⟨a, b, c, rfl⟩
section
variable {P : Program} {w : World} {ops : Array Oper} {rest : List Oper} {o : Oper} {a : Act} {Q : Exit -> Act -> World -> Prop}
end
def setAll (w : World) (B : Nat) : Nat -> List Value -> World
 | _, [] => w
 | o, v :: r => setAll (w.setCell ⟨B, o, none⟩ v) B (o + 1) r
def putAll : Array Value -> Nat -> List Value -> Array Value
 | arr, _, [] => arr
 | arr, o, v :: r => putAll (arr.setIfInBounds o v) (o + 1) r
theorem Cells.setI {w : World} {B : Nat} {arr : Array Value} {T : TypeId} (h : Cells w B arr T) (o : Nat) (v : Value) : Cells (w.setCell ⟨B, o, none⟩ v) B (arr.setIfInBounds o v) T := by
 obtain ⟨hlt, hk⟩ := Array.getElem?_eq_some_iff.1 h; show (w.heap.modify B _)[B]? = _; rw [Array.getElem?_eq_getElem (by rw [Array.size_modify]; exact hlt), Array.getElem_modify_self, hk]
 simp
theorem Cells.put {B : Nat} {T : TypeId} : ∀ (cs : List Value) (o : Nat) {w : World} {arr : Array Value}, Cells w B arr T -> Cells (setAll w B o cs) B (putAll arr o cs) T
 | [], _, _, _, h => h
 | v :: r, o, _, _, h => Cells.put r (o + 1) (h.setI o v)
theorem setAll_other (B : Nat) : ∀ (cs : List Value) (o : Nat) (w : World) (k : Nat), k ≠ B -> (setAll w B o cs).heap[k]? = w.heap[k]?
 | [], _, _, _, _ => rfl
 | v :: r, o, w, k, h => by
  rw [setAll, setAll_other B r _ _ _ h]; exact Below.heap_setCell _ _ _ _ h
theorem setAll_size (B : Nat) : ∀ (cs : List Value) (o : Nat) (w : World), (setAll w B o cs).heap.size = w.heap.size
 | [], _, _ => rfl
 | v :: r, o, w => by rw [setAll, setAll_size B r]; simp [World.setCell]
theorem setAll_below (B L : Nat) (hL : L <= B) : ∀ (cs : List Value) (o : Nat) (w w' : World), Below L w w' -> Below L w (setAll w' B o cs)
 | [], _, _, _, h => h
 | v :: r, o, w, w', h => setAll_below B L hL r _ _ _ (h.setCell (by exact hL) _)
theorem Cells.setAllOther {w : World} {B g o : Nat} {cs : Array Value} {T : TypeId} {l : List Value} (h : Cells w g cs T) (hne : g ≠ B) : Cells (setAll w B o l) g cs T := (setAll_other B l o w g hne).trans h
def Save (g : Nat) (w w' : World) : Prop := Below 0 w w' /\ ∀ k, k < w.heap.size -> k ≠ g -> w'.heap[k]? = w.heap[k]?
section
variable {g : Nat} {w w' w'' : World}
theorem Save.size (h : Save g w w') : w.heap.size <= w'.heap.size := h.1.size
theorem Save.refl (g : Nat) (w : World) : Save g w w := ⟨Below.refl _ _, fun _ _ _ => rfl⟩
theorem Save.trans (h : Save g w w') (h2 : Save g w' w'') : Save g w w'' :=
 ⟨h.1.trans h2.1, fun k hk hn => (h2.2 k (Nat.lt_of_lt_of_le hk h.size) hn).trans (h.2 k hk hn)⟩
theorem Save.of (h : Below w.heap.size w w') : Save g w w' := ⟨h.mono (Nat.zero_le _), fun k hk _ => h.block k hk⟩
theorem Save.drew (h : Save g w w') : Save g w w'.drew := ⟨h.1.drew, h.2⟩
theorem Save.drewN (h : Save g w w') (n : Nat) : Save g w (w'.drewN n) := ⟨below_drewN h.1 n, h.2⟩
theorem Save.alloc (h : Save g w w') (o : Obj) : Save g w (w'.alloc o) := h.trans (Save.of ((Below.refl _ _).alloc (Nat.le_refl _) _))
theorem Save.set (h : Save g w w') (j : Nat) (v : Value) : Save g w (w'.setCell ⟨g, j, none⟩ v) :=
 ⟨h.1.setCell (Nat.zero_le _) _, fun k hk hn => (Below.heap_setCell _ _ _ _ hn).trans (h.2 k hk hn)⟩
theorem Save.grown {row : Option Nat} (h : Save g w w') (hg : w'.grownBy w'' row) (hr : ∀ k, row = some k -> w.heap.size <= k) : Save g w w'' :=
 ⟨h.1.grown hg (Nat.zero_le _) (fun _ _ => Nat.zero_le _), fun k hk hn => (hg.block k (Nat.lt_of_lt_of_le hk h.size) (fun e => by have := hr k e.symm; omega)).trans (h.2 k hk hn)⟩
theorem Save.cells {k : Nat} {cs : Array Value} {t : TypeId} (h : Save g w w') (hc : Cells w k cs t) (hk : k ≠ g) : Cells w' k cs t := (h.2 k hc.lt hk).trans hc
theorem Save.cell {k off : Nat} {v : Value} (h : Save g w w') (hc : w.cell? ⟨k, off, none⟩ = some v) (hk : k ≠ g) : w'.cell? ⟨k, off, none⟩ = some v :=
 (cell_same (h.2 k (World.block_lt_of_cell? w _ hc) hk) off).trans hc
theorem Save.under {B : Nat} (h : Save g w w') (h1 : B <= g) (h2 : B <= w.heap.size) : Below B w w' := ⟨h.1.os, h.1.tape, h.1.output, h.size, fun k hk => h.2 k (by omega) (by omega)⟩
theorem Save.chain {w0 : World} (h : Save g w w') (hb : Below w0.heap.size w0 w) (h1 : w0.heap.size <= g) : Below w0.heap.size w0 w' := hb.trans (h.under h1 hb.size)
end
end Go.Proofs.YthbhknfhmkhfgaaGreatDoor
namespace Go.Proofs.YthbhknfhmkhfgaaGreatDoor
set_option maxRecDepth 100000
set_option maxHeartbeats 20000000
open Go.RowKit Go.Tab Go.ChangeShapes
mutual
def Exp.bulk : Exp -> Nat
 | .mk o t kids => 1 + o.size + t.size + bulkX kids
def bulkX : List Exp -> Nat
 | [] => 0
 | t :: r => t.bulk + bulkX r
end
abbrev expV (o t : ByteArray) (kv : Value) : List Value := [.string o, .string t, kv]
abbrev exV (o t : ByteArray) (kv : Value) : Value := .agg #[.string o, .string t, kv]
mutual
def ExpAt (w : World) : Exp -> List Value -> Prop
 | .mk op text kids, cs => ∃ a cap, cs = [.string op, .string text, .slice a kids.length cap] /\
   kids.length <= cap /\ cap <= maxLen /\ (a = none -> cap = 0) /\ ∀ x, a = some x -> kids ≠ [] -> x.spot = none /\ x.block < w.heap.size /\ ExpsAt w x.block x.off kids
def ExpsAt (w : World) (b off : Nat) : List Exp -> Prop
 | [] => True
 | t :: r => (∃ cs, (∀ j u, cs[j]? = some u -> w.cell? ⟨b, off + j, none⟩ = some u) /\ ExpAt w t cs) /\ ExpsAt w b (off + 3) r
end
mutual
theorem ExpAt.below {w w' : World} (hb : Below w.heap.size w w') : ∀ (t : Exp) (cs : List Value), ExpAt w t cs -> ExpAt w' t cs
 | .mk op text kids, cs, h => by
  simp only [ExpAt] at h ⊢; obtain ⟨a, cap, h1, h3, h4, h5, h6⟩ := h; refine ⟨a, cap, h1, h3, h4, h5, fun x hx hne => ?_⟩; obtain ⟨g1, g2, g3⟩ := h6 x hx hne; exact ⟨g1, Nat.lt_of_lt_of_le g2 hb.size, ExpsAt.below hb g2 kids x.off g3⟩
theorem ExpsAt.below {w w' : World} (hb : Below w.heap.size w w') {b : Nat} (hlt : b < w.heap.size) : ∀ (l : List Exp) (off : Nat), ExpsAt w b off l -> ExpsAt w' b off l
 | [], _, _ => by simp only [ExpsAt]
 | t :: r, off, h => by
  simp only [ExpsAt] at h ⊢; obtain ⟨⟨cs, h1, h2⟩, h3⟩ := h; exact ⟨⟨cs, fun j u hu => (hb.cell (p := ⟨b, off + j, none⟩) hlt).trans (h1 j u hu), ExpAt.below hb t cs h2⟩, ExpsAt.below hb hlt r _ h3⟩
end
theorem ExpAt.below_alloc {w : World} {t : Exp} {cs : List Value} (h : ExpAt w t cs) (o : Obj) : ExpAt (w.alloc o) t cs := ExpAt.below ((Below.refl _ w).alloc (Nat.le_refl _) o) t cs h
theorem ExpAt.under {w : World} {t : Exp} {cs : List Value} (h : ExpAt w t cs) (x : Under w) : ExpAt x.w t cs := ExpAt.below x.below t cs h
theorem ExpsAt.get {w : World} {b : Nat} : ∀ {l : List Exp} {off : Nat}, ExpsAt w b off l -> ∀ k (hk : k < l.length), ∃ cs, (∀ j u, cs[j]? = some u -> w.cell? ⟨b, off + k * 3 + j, none⟩ = some u) /\ ExpAt w l[k] cs
 | t :: r, off, h, 0, _ => by
  simp only [ExpsAt] at h
  simpa using h.1
 | t :: r, off, h, k + 1, hk => by
  simp only [ExpsAt] at h; obtain ⟨cs, h1, h2⟩ := ExpsAt.get h.2 k (by simpa using hk)
  refine ⟨cs, fun j u hu => ?_, by simpa using h2⟩
  rw [<- h1 j u hu]
  congr 2
  omega
theorem ExpAt.shape {w : World} {t : Exp} {cs : List Value} (h : ExpAt w t cs) : ∃ op text sa sn sc, cs = [.string op, .string text, .slice sa sn sc] := by
 cases t
 simp only [ExpAt] at h; obtain ⟨a, cap, rfl, -⟩ := h; exact ⟨_, _, _, _, _, rfl⟩
theorem exp_at {w : World} {t : Exp} {cs : List Value} {b o : Nat} (hv : ExpAt w t cs) (hc : ∀ j u, cs[j]? = some u -> w.cell? ⟨b, o + j, none⟩ = some u) :
  ∃ op text sa sn sc, cs = [.string op, .string text, .slice sa sn sc] /\ w.cell? ⟨b, o, none⟩ = some (.string op) /\ w.cell? ⟨b, o + 1, none⟩ = some (.string text) /\ w.cell? ⟨b, o + 2, none⟩ = some (.slice sa sn sc) := by
 obtain ⟨op, text, sa, sn, sc, rfl⟩ := hv.shape; exact ⟨op, text, sa, sn, sc, rfl, by simpa using hc 0 _ rfl, hc 1 _ rfl, hc 2 _ rfl⟩
theorem bulkX_kid : ∀ {l : List Exp} {k : Nat} (hk : k < l.length), l[k].bulk <= bulkX l
 | t :: r, 0, _ => by simp only [bulkX, List.getElem_cons_zero]; omega
 | t :: r, k + 1, hk => by
  have := bulkX_kid (l := r) (k := k) (by simpa using hk)
  simp only [bulkX, List.getElem_cons_succ]; omega
theorem bulkX_pos (t : Exp) : 1 <= t.bulk := by cases t; simp only [Exp.bulk]; omega
theorem len_bulkX : ∀ l : List Exp, l.length <= bulkX l
 | [] => by simp [bulkX]
 | t :: r => by have := len_bulkX r; have := bulkX_pos t; simp only [bulkX, List.length_cons]; omega
mutual
def FitX : Exp -> Prop
 | .mk o t kids => o.size <= 140737488351232 /\ t.size <= 140737488351232 /\ kids.length <= 140737488351232 /\ FitXs kids
def FitXs : List Exp -> Prop
 | [] => True
 | t :: r => FitX t /\ FitXs r
end
theorem FitX.kid : ∀ {l : List Exp} {k : Nat} (h : k < l.length), FitXs l -> FitX l[k]
 | t :: r, 0, _, h => by simp only [FitXs] at h; exact h.1
 | t :: r, k + 1, hk, h => by
  simp only [FitXs] at h; exact FitX.kid (l := r) (k := k) (by simpa using hk) h.2
section
variable {H : Type} {enc : TypeId × Value -> H} {W : World} {base : Nat} {spare : Nat -> Bool} {held : Bool}
theorem exps_of : ∀ (l : List (DataW H)) (b off : Nat) (h : ∀ i (hi : i < l.length), ∃ t cs, (∀ j u, cs[j]? = some u -> W.cell? ⟨b, off + i * 3 + j, none⟩ = some u) /\ ExpAt W t cs /\ ((∀ m ∈ l[i].weights Tryz.prog 24, m <= reachBytes) -> FitX t)),
  ∃ kids : List Exp, kids.length = l.length /\ ExpsAt W b off kids /\ ((∀ m ∈ DataW.weightsAll Tryz.prog 24 l, m <= reachBytes) -> FitXs kids)
 | [], _, _, _ => ⟨[], rfl, (by unfold ExpsAt; trivial), fun _ => by simp only [FitXs]⟩
 | d :: r, b, off, h => by
  obtain ⟨t, cs, h1, h2, h4⟩ := h 0 (by simp)
  obtain ⟨kids, g1, g2, g4⟩ := exps_of r b (off + 3) (fun i hi => by
   obtain ⟨t, cs, k1, k2, k4⟩ := h (i + 1) (by simp; omega)
   refine ⟨t, cs, fun j u hu => ?_, k2, by simpa using k4⟩
   rw [<- k1 j u hu]
   congr 2
   omega)
  refine ⟨t :: kids, by simp [g1], ?_, fun hw => ?_⟩
  ·simp only [ExpsAt]
   exact ⟨⟨cs, fun j u hu => by have := h1 j u hu; simpa using this, h2⟩, g2⟩
  ·simp only [FitXs]
   simp only [DataW.weightsAll, List.mem_append] at hw; exact ⟨h4 (fun m hm => hw m (.inl (by simpa using hm))), g4 (fun m hm => hw m (.inr hm))⟩
theorem Tryz.byExpr : Tryz.prog.bytesOf 24 = 56 := by kernel_rfl
theorem Tryz.uExpr : ∃ f0 f1 f2 : Field, Tryz.prog.underlying 24 = some (.struct #[f0, f1, f2]) /\ f0.type = 9 /\ f0.offset = 0 /\ f1.type = 9 /\ f1.offset = 1 /\ f2.type = 22 /\ f2.offset = 2 :=
 ⟨_, _, _, Tryz.underlying24, rfl, rfl, rfl, rfl, rfl, rfl⟩
theorem Tryz.cxStr : Tryz.prog.cellsOf 9 = 1 := by kernel_rfl
theorem Tryz.cxExprs : Tryz.prog.cellsOf 22 = 1 := by kernel_rfl
theorem Tryz.cxExpr : Tryz.prog.cellsOf 24 = 3 := by kernel_rfl
theorem exp_open : ∀ (n : Nat) (cs : List Value) (x : DataW H × List MemPlace), DataW.trod enc Tryz.prog W base spare held n 24 cs = some x -> ∃ t, ExpAt W t cs /\ ((∀ m ∈ x.1.weights Tryz.prog 24, m <= reachBytes) -> FitX t)
 | n, cs, x, h => by
  obtain ⟨f0, f1, f2, hu, t0, o0, t1, o1, t2, o2⟩ := Tryz.uExpr; obtain ⟨xs, n1, rfl, rfl, hlen, hxl, hf⟩ := DataW.trod_struct hu h; rw [Tryz.cxExpr] at hlen; obtain ⟨c0, c1, c2, rfl⟩ := len3 hlen; obtain ⟨y0, y1, y2, rfl⟩ := len3 (by simpa using hxl)
  have e0 := hf 0 f0 rfl; have e1 := hf 1 f1 rfl; have e2 := hf 2 f2 rfl; rw [t0, o0, Tryz.cxStr] at e0; rw [t1, o1, Tryz.cxStr] at e1; rw [t2, o2, Tryz.cxExprs] at e2; simp at e0 e1 e2
  obtain ⟨op, g0, rfl, hop⟩ := DataW.trod_string Tryz.underlying9 e0; obtain ⟨text, g1, rfl, htext⟩ := DataW.trod_string Tryz.underlying9 e1; simp at g0 g1
  subst g0 g1
  have hkids : ∃ (kids : List Exp) (a : Option Addr) (cap : Nat), c2 = .slice a kids.length cap /\ kids.length <= cap /\ cap <= maxLen /\ (a = none -> cap = 0) /\ (∀ x, a = some x -> kids ≠ [] -> x.spot = none /\ x.block < W.heap.size /\ ExpsAt W x.block x.off kids) /\ ((∀ m ∈ y2.1.weights Tryz.prog 22, m <= reachBytes) -> kids.length <= 140737488351232 /\ FitXs kids) := by
   rcases DataW.trod_slice Tryz.underlying22 e2 with ⟨h1, h2⟩ | ⟨a, ln, cp, elems, rest, n3, hn3, h1, hx, hb, hl, hm, hel, hcell, -, -⟩
   ·simp at h1
    subst h1; exact ⟨[], none, 0, rfl, Nat.le_refl _, by decide, fun _ => rfl, (fun x h => by cases h), fun _ => ⟨by simp, by simp only [FitXs]⟩⟩
   ·simp at h1
    subst h1
    have each : ∀ i, i < ln -> ∃ cs', W.cells? base (a.add (i * 3)) 3 = some cs' /\ DataW.trod enc Tryz.prog W base spare held n3 24 cs' = some (elems.getD i (.nil, [])) := fun i hi => by
     have := hcell i hi; rw [Tryz.cxExpr, List.getElem?_eq_getElem (by omega)] at this
     obtain ⟨cs', r1, r2⟩ := Option.bind_eq_some_iff.1 this; exact ⟨cs', r1, by rw [r2, List.getD_eq_getElem?_getD, List.getElem?_eq_getElem (by omega)]; rfl⟩
    by_cases h0 : ln = 0
    ·subst h0
     exact ⟨[], some a, cp, rfl, hl, hm, (fun h => by cases h), (fun x _ h => absurd rfl h), fun _ => ⟨by simp, by simp only [FitXs]⟩⟩
    ·have hsp : a.spot = none := by
      obtain ⟨cs', r1, r2⟩ := each 0 (by omega)
      obtain ⟨l1, l2⟩ := cells_at r1; obtain ⟨u0, u1, u2, rfl⟩ := len3 l1; have := World.cell?_spot (l2 0 u0 rfl)
      simpa [Addr.add] using this
     obtain ⟨bb, off, sp⟩ := a; simp only at hsp; subst hsp
     have hlt : bb < W.heap.size := by
      obtain ⟨cs', r1, r2⟩ := each 0 (by omega)
      obtain ⟨l1, l2⟩ := cells_at r1; obtain ⟨u0, u1, u2, rfl⟩ := len3 l1; have := World.block_lt_of_cell? W _ (l2 0 u0 rfl)
      simpa [Addr.add] using this
     obtain ⟨kids, r1, r2, r4⟩ := exps_of (H := H) (W := W) (elems.map (·.1)) bb off (fun i hi => by
      simp at hi
      obtain ⟨cs', r1, r2⟩ := each i (by omega)
      obtain ⟨l1, l2⟩ := cells_at r1; obtain ⟨t, v1, v3⟩ := exp_open n3 cs' _ r2; refine ⟨t, cs', fun j u hu => ?_, v1, ?_⟩
      ·have := l2 j u hu
       rw [Addr.add_lit, Addr.add_lit] at this; exact this
      ·rw [List.getD_eq_getElem?_getD, List.getElem?_eq_getElem hi] at v3
       simpa using v3)
     simp at r1
     refine ⟨kids, some ⟨bb, off, none⟩, cp, by rw [r1, hel], by omega, hm, (fun h => by cases h), (fun x hx _ => by cases hx; exact ⟨rfl, hlt, r2⟩), fun hw => ?_⟩
     rw [hx] at hw; simp only [DataW.weights, Tryz.underlying22, Tryz.byExpr, List.mem_cons, List.mem_append] at hw; refine ⟨?_, r4 (fun m hm => hw m (.inr (.inl hm)))⟩; have := hw _ (.inl rfl); simp only [List.length_map] at this; unfold reachBytes at this; omega
  obtain ⟨kids, a, cap, rfl, h1, h2, h3, h4, h6⟩ := hkids; refine ⟨.mk op text kids, ?_, fun hw => ?_⟩
  ·simp only [ExpAt]
   exact ⟨a, cap, rfl, h1, h2, h3, h4⟩
  ·have e1 : op.size = op.data.toList.length := rfl
   have e2 : text.size = text.data.toList.length := rfl; simp only [DataW.weights, hu, List.map_cons, List.map_nil, DataW.weightsEach, t0, t1, t2, List.mem_append, List.mem_cons, List.not_mem_nil, or_false, false_or] at hw; obtain ⟨k3, k4⟩ := h6 (fun m hm => hw m (by simp [hm]))
   have k5 := hw _ (.inl rfl); have k6 := hw _ (.inr (.inl rfl)); unfold reachBytes at k5 k6; simp only [FitX]; exact ⟨by omega, by omega, k3, k4⟩
 termination_by n => n
 decreasing_by all_goals omega
end
end Go.Proofs.YthbhknfhmkhfgaaGreatDoor
namespace Go.Proofs.YthbhknfhmkhfgaaGreatDoor
set_option maxRecDepth 100000
set_option maxHeartbeats 20000000
open Go.RowKit Go.Tab
mutual
def ExpIn (P : Nat -> Prop) (w : World) : Exp -> List Value -> Prop
 | .mk op text kids, cs => ∃ a cap, cs = [.string op, .string text, .slice a kids.length cap] /\
   kids.length <= cap /\ cap <= maxLen /\ (a = none -> cap = 0) /\ ∀ x, a = some x -> kids ≠ [] -> x.spot = none /\ (x.block < w.heap.size /\ P x.block /\ ∀ off, w.frozen? ⟨x.block, off, none⟩ = false) /\ ExpsIn P w x.block x.off kids
def ExpsIn (P : Nat -> Prop) (w : World) (b off : Nat) : List Exp -> Prop
 | [] => True
 | t :: r => (∃ cs, (∀ j u, cs[j]? = some u -> w.cell? ⟨b, off + j, none⟩ = some u) /\ ExpIn P w t cs) /\ ExpsIn P w b (off + 3) r
end
mutual
theorem ExpIn.at {P : Nat -> Prop} {w : World} : ∀ (t : Exp) (cs : List Value), ExpIn P w t cs -> ExpAt w t cs
 | .mk op text kids, cs, h => by
  simp only [ExpIn] at h; simp only [ExpAt]; obtain ⟨a, cap, h1, h3, h4, h5, h6⟩ := h; refine ⟨a, cap, h1, h3, h4, h5, fun x hx hne => ?_⟩; obtain ⟨g1, g2, g3⟩ := h6 x hx hne; exact ⟨g1, g2.1, ExpsIn.at kids x.off g3⟩
theorem ExpsIn.at {P : Nat -> Prop} {w : World} {b : Nat} : ∀ (l : List Exp) (off : Nat), ExpsIn P w b off l -> ExpsAt w b off l
 | [], _, _ => by simp only [ExpsAt]
 | t :: r, off, h => by
  simp only [ExpsIn] at h; simp only [ExpsAt]; obtain ⟨⟨cs, h1, h2⟩, h3⟩ := h; exact ⟨⟨cs, h1, ExpIn.at t cs h2⟩, ExpsIn.at r _ h3⟩
end
mutual
theorem ExpIn.move {P Q : Nat -> Prop} {w w' : World} (hs : w.heap.size <= w'.heap.size) (hb : ∀ k, P k -> k < w.heap.size -> w'.heap[k]? = w.heap[k]?) (hq : ∀ k, P k -> k < w.heap.size -> Q k) :
  ∀ (t : Exp) (cs : List Value), ExpIn P w t cs -> ExpIn Q w' t cs
 | .mk op text kids, cs, h => by
  simp only [ExpIn] at h ⊢; obtain ⟨a, cap, h1, h3, h4, h5, h6⟩ := h; refine ⟨a, cap, h1, h3, h4, h5, fun x hx hne => ?_⟩; obtain ⟨g1, g2, g3⟩ := h6 x hx hne; exact ⟨g1, ⟨Nat.lt_of_lt_of_le g2.1 hs, hq _ g2.2.1 g2.1, fun off => (frozen_same (hb _ g2.2.1 g2.1) off).trans (g2.2.2 off)⟩, ExpsIn.move hs hb hq ⟨g2.1, g2.2.1⟩ kids x.off g3⟩
theorem ExpsIn.move {P Q : Nat -> Prop} {w w' : World} (hs : w.heap.size <= w'.heap.size) (hb : ∀ k, P k -> k < w.heap.size -> w'.heap[k]? = w.heap[k]?) (hq : ∀ k, P k -> k < w.heap.size -> Q k) {b : Nat} (hP : b < w.heap.size /\ P b) :
  ∀ (l : List Exp) (off : Nat), ExpsIn P w b off l -> ExpsIn Q w' b off l
 | [], _, _ => by simp only [ExpsIn]
 | t :: r, off, h => by
  simp only [ExpsIn] at h ⊢; obtain ⟨⟨cs, h1, h2⟩, h3⟩ := h; exact ⟨⟨cs, fun j u hu => (cell_same (hb b hP.2 hP.1) _).trans (h1 j u hu), ExpIn.move hs hb hq t cs h2⟩, ExpsIn.move hs hb hq hP r _ h3⟩
end
theorem ExpsIn.make {P : Nat -> Prop} {w : World} {b : Nat} : ∀ (l : List Exp) (off : Nat), (∀ k (h : k < l.length), ∃ cs, (∀ j u, cs[j]? = some u -> w.cell? ⟨b, off + k * 3 + j, none⟩ = some u) /\ ExpIn P w l[k] cs) -> ExpsIn P w b off l
 | [], _, _ => by simp only [ExpsIn]
 | t :: r, off, h => by
  simp only [ExpsIn]; constructor
  ·obtain ⟨cs, h1, h2⟩ := h 0 (by simp)
   exact ⟨cs, fun j u hu => by have := h1 j u hu; simpa using this, by simpa using h2⟩
  ·refine ExpsIn.make r (off + 3) (fun k hk => ?_)
   obtain ⟨cs, h1, h2⟩ := h (k + 1) (by simp; omega)
   refine ⟨cs, fun j u hu => ?_, by simpa using h2⟩
   rw [<- h1 j u hu]
   congr 2
   omega
theorem ExpIn.below {P : Nat -> Prop} {w w' : World} (hb : Below w.heap.size w w') (t : Exp) (cs : List Value) (h : ExpIn P w t cs) : ExpIn P w' t cs :=
 ExpIn.move hb.size (fun k _ hk => hb.block k hk) (fun _ h _ => h) t cs h
theorem ExpIn.len3 {P : Nat -> Prop} {w : World} {t : Exp} {cs : List Value} (h : ExpIn P w t cs) : cs.length = 3 := by
 cases t
 simp only [ExpIn] at h; obtain ⟨a, cap, rfl, -⟩ := h; rfl
theorem ExpIn.leaf (P : Nat -> Prop) (w : World) (o t : ByteArray) : ExpIn P w (.mk o t []) [.string o, .string t, .slice none 0 0] := by
 simp only [ExpIn]; exact ⟨none, 0, rfl, Nat.le_refl _, Nat.zero_le _, fun _ => rfl, fun x hx => by cases hx⟩
theorem ExpIn.node {base : Nat} {w : World} {o t : ByteArray} {kids : List Exp} {b cap : Nat} (hb : base <= b) (hlt : b < w.heap.size) (hf : ∀ off, w.frozen? ⟨b, off, none⟩ = false) (hc : kids.length <= cap) (hm : cap <= maxLen)
  (h : ∀ k (h : k < kids.length), ∃ cs, (∀ j u, cs[j]? = some u -> w.cell? ⟨b, k * 3 + j, none⟩ = some u) /\ ExpIn (fun k => base <= k) w kids[k] cs) :
  ExpIn (fun k => base <= k) w (.mk o t kids) [.string o, .string t, .slice (some ⟨b, 0, none⟩) kids.length cap] := by
 simp only [ExpIn]; refine ⟨some ⟨b, 0, none⟩, cap, rfl, hc, hm, (fun h => by cases h), fun x hx _ => ?_⟩
 cases hx
 exact ⟨rfl, ⟨hlt, hb, hf⟩, ExpsIn.make kids 0 (fun k hk => by
  obtain ⟨cs, h1, h2⟩ := h k hk
  exact ⟨cs, fun j u hu => by rw [Nat.zero_add]; exact h1 j u hu, h2⟩)⟩
end Go.Proofs.YthbhknfhmkhfgaaGreatDoor
