/- Texts of this claim, one behind the other: LxP, TkA, ExP, ExQ, LkP, Gen, ExA, ExB, Bld, UtfA, UtfB. -/
import Derived.Test.YtbcdaaobbebooaaGreatDoorMga
import Derived.Lib.SlTrimSet
import Derived.Lib.IndexMore
import Derived.Test.YtbcdaaobbebooaaGreatDoorRows
import Derived.Deep.Slices
import Derived.SliceStrings
import Derived.ChangeArms
import Derived.Lib.Builder
import Derived.Lib.AppendStr
import Derived.Lib.UnsafeStr
import Derived.Laws.Externs
import Derived.Laws.BitsAllLaws
set_option linter.unusedSimpArgs false
set_option linter.unusedVariables false
namespace Go.Proofs.YtbcdaaobbebooaaGreatDoor
set_option maxRecDepth 100000
set_option maxHeartbeats 20000000
def npc (l : Bs) : Bool × Bs × Bs × Bs × Bs × Bs :=
 let a := l.drop (mnS l)
 let b := a.drop (intS a)
 let c := b.drop (fracS b)
 (decide (mnS l = 1), a.take (intS a), (b.take (fracS b)).drop 1, c.take 1, (c.drop 1).take (sgS (c.drop 1)), (c.drop 1).drop (sgS (c.drop 1)))
def decR (l : Bs) : (Bool × Bs × Int) × Int :=
 if scanN l = l.length /\ l ≠ [] then numVal (npc l).1 (npc l).2.1 (npc l).2.2.1 (powP (npc l).2.2.2.2.1 (npc l).2.2.2.2.2) else ((false, [], 0), 3)
def decE (l : Bs) : Int := (decR l).2
section
variable {l : Bs} {neg : Bool} {ip fr mk sg pw : Bs}
theorem NumTxt.sgEq (h : NumTxt l neg ip fr mk sg pw) (hp : pw ≠ []) : sgS (sg ++ pw) = sg.length := by
 rcases h.exp with ⟨rfl, rfl, rfl⟩ | ⟨hm, hs, -⟩
 ·exact absurd rfl hp
 ·rcases hs with rfl | rfl | rfl
  ·cases pw with
   | nil => exact absurd rfl hp
   | cons c p =>
    have hc := all_head h.dpw (c := c) rfl; rw [List.nil_append, sgS, if_neg]
    ·rfl
    ·intro e
     rcases e with rfl | rfl <;> revert hc <;> decide
  ·rfl
  ·rfl
theorem NumTxt.frac (h : NumTxt l neg ip fr mk sg pw) : fracS ((if fr = [] then [] else 46 :: fr) ++ (mk ++ (sg ++ pw))) = (if fr = [] then ([] : Bs) else 46 :: fr).length := by
 have hh := fun c => h.pow_head (c := c); generalize mk ++ (sg ++ pw) = r at hh ⊢
 by_cases hf : fr = []
 ·rw [if_pos hf, List.nil_append]
  cases r with
  | nil => rfl
  | cons c r => rw [fracS, if_neg]; (· rfl); intro e; exact (hh c rfl).2 e.1
 ·rw [if_neg hf, List.cons_append]
  have hd : digs (fr ++ r) = fr.length := by rw [digs_app _ _ h.dfr, digs_none r (fun c hc => (hh c hc).1)]; rfl
  rw [fracS, hd, if_pos ⟨rfl, len_pos hf⟩, List.length_cons]; omega
theorem NumTxt.npc (h : NumTxt l neg ip fr mk sg pw) : npc l = (neg, ip, fr, mk, sg, pw) := by
 have hm := h.mn; have hi := h.int; have hf := h.frac; have hs := h.sgEq; have he := h.exp; unfold Go.Proofs.YtbcdaaobbebooaaGreatDoor.npc; simp only; rw [hm.2, hi, List.drop_left, List.take_left, hf, List.drop_left, List.take_left, hm.1]; have h1 : decide ((if neg = true then 1 else 0 : Nat) = 1) = neg := by cases neg <;> rfl
 have h2 : (if fr = [] then ([] : Bs) else 46 :: fr).drop 1 = fr := by
  by_cases hfr : fr = []
  ·rw [if_pos hfr, hfr]; rfl
  ·rw [if_neg hfr]; rfl
 rw [h1, h2]; rcases he with ⟨rfl, rfl, rfl⟩ | ⟨hmk, -, hp⟩
 ·rfl
 ·have hmk1 : mk.length = 1 := by rcases hmk with rfl | rfl <;> rfl
  have e1 : (mk ++ (sg ++ pw)).take 1 = mk := by rw [<- hmk1, List.take_left]
  have e2 : (mk ++ (sg ++ pw)).drop 1 = sg ++ pw := by rw [<- hmk1, List.drop_left]
  rw [e1, e2, hs hp, List.take_left, List.drop_left]
theorem NumTxt.decR (h : NumTxt l neg ip fr mk sg pw) : decR l = numVal neg ip fr (powP sg pw) := by
 unfold Go.Proofs.YtbcdaaobbebooaaGreatDoor.decR; rw [if_pos h.scan, h.npc]
end
inductive LR where
 | tok (kind size : Nat) : LR
 | bad (off : Nat) (err : Int) : LR
def nb (l : Bs) : List Nat := l.map UInt8.toNat
theorem nb_byt (l : Bs) : Byt (nb l) := by
 intro x hx; obtain ⟨c, _, rfl⟩ := List.mem_map.1 hx; exact c.toNat_lt
theorem nb_len (l : Bs) : (nb l).length = l.length := List.length_map ..
def blanksB : Bs := [32, 9, 13]
def blankB (c : UInt8) : Bool := blanksB.contains c
def letB (c : UInt8) : Bool := decide (65 <= c.toNat /\ c.toNat <= 90) || (decide (97 <= c.toNat /\ c.toNat <= 122) || decide (c.toNat = 95))
def idB (c : UInt8) : Bool := letB c || dg c
def idN : Bs -> Nat
 | [] => 0
 | c :: l => if idB c then idN l + 1 else 0
def lineN : Bs -> Nat
 | [] => 0
 | c :: l => if c = 10 then 0 else lineN l + 1
def wth (l : Bs) : Option (Nat × Int) :=
 match (scan (nb l) 0).1.find? (fun x => decide (x.2 < 32) && x.2 != 9) with
 | some x => some (x.1, 3)
 | none => match (scan (nb l) 0).2 with
  | some a => some (a, 7)
  | none => none
def remT (l : Bs) (kind : Nat) : LR := match wth l with
 | some x => .bad x.1 x.2
 | none => .tok kind l.length
def remS (l : Bs) : Bs := Lib.trimRightS (l.take (lineN l)) blanksB
def endN : Bs -> Option Nat
 | [] => none
 | c :: l => if c = 42 /\ l.head? = some 47 then some 0 else (endN l).map (· + 1)
def aside1 (l : Bs) : LR := match endN (l.drop 2) with
 | none => .bad 0 2
 | some n => if (l.take (n + 2)).contains 10 then .bad 0 2 else remT (l.take (n + 4)) 7
def dbls : List Bs := [[61, 61], [33, 61], [60, 61], [62, 61], [38, 38], [124, 124]]
def sgls : Bs := [61, 60, 62, 43, 45, 42, 47, 37, 33, 63, 58, 44, 46, 40, 41, 91, 93, 123, 125]
def sgN (l : Bs) : Nat := if dbls.any (fun d => d.isPrefixOf l) then 2 else match l with
 | [] => 0
 | c :: _ => if sgls.contains c then 1 else 0
def num1 (l : Bs) : LR := if decE (l.take (scanN l)) = 0 then .tok 2 (scanN l) else .bad 0 (decE (l.take (scanN l)))
def quo1 (l : Bs) : LR := if (scanQ (nb l)).2.2 = 0 then .tok 3 (scanQ (nb l)).2.1 else .bad 0 ((scanQ (nb l)).2.2 : Nat)
def one1 : Bs -> LR
 | [] => .bad 0 3
 | c :: r =>
  if letB c then .tok 1 (1 + idN r)
  else if dg c then num1 (c :: r)
  else if c = 34 then quo1 (c :: r)
  else if c = 10 then .tok 5 1
  else if c = 35 \/ (c = 47 /\ r.head? = some 47) then remT (remS (c :: r)) 6
  else if c = 47 /\ r.head? = some 42 then aside1 (c :: r)
  else if sgN (c :: r) = 0 then .bad 0 3 else .tok 4 (sgN (c :: r))
theorem idN_le : ∀ l : Bs, idN l <= l.length
 | [] => Nat.le_refl _
 | c :: l => by have := idN_le l; simp only [idN, List.length_cons]; split <;> omega
theorem lineN_le : ∀ l : Bs, lineN l <= l.length
 | [] => Nat.le_refl _
 | c :: l => by have := lineN_le l; simp only [lineN, List.length_cons]; split <;> omega
theorem endN_le : ∀ (l : Bs) (n : Nat), endN l = some n -> n + 2 <= l.length
 | [], n, h => by simp [endN] at h
 | c :: l, n, h => by
  rw [endN] at h; split at h
  ·next hc =>
   cases h
   cases l with
   | nil => simp at hc
   | cons d l => simp
  ·obtain ⟨m, hm, rfl⟩ := Option.map_eq_some_iff.1 h
   have := endN_le l m hm; simp only [List.length_cons]; omega
theorem scanN_le (l : Bs) : scanN l <= l.length := by
 have hi : ∀ l : Bs, intS l <= l.length := by
  intro l
  cases l with
  | nil => exact Nat.le_refl _
  | cons c l => rw [intS]; split; (· simp); (· exact digs_le _)
 have hf : ∀ l : Bs, fracS l <= l.length := by
  intro l
  cases l with
  | nil => exact Nat.le_refl _
  | cons c l => rw [fracS]; have := digs_le l; split <;> simp; omega
 have hs : ∀ l : Bs, sgS l <= l.length := by
  intro l
  cases l with
  | nil => exact Nat.le_refl _
  | cons c l => rw [sgS]; split <;> simp
 have hp : ∀ l : Bs, powS l <= l.length := by
  intro l
  cases l with
  | nil => exact Nat.le_refl _
  | cons c l =>
   rw [powS]; have h1 := digs_le (l.drop (sgS l)); have h2 := hs l; rw [List.length_drop] at h1; split
   ·simp only [List.length_cons]; omega
   ·exact Nat.zero_le _
 have hm : mnS l <= l.length := by
  cases l with
  | nil => exact Nat.le_refl _
  | cons c l => rw [mnS]; split <;> simp
 rw [scanN]; split
 ·exact Nat.zero_le _
 ·have h1 := hi (l.drop (mnS l))
  have h2 := hf (l.drop (mnS l + intS (l.drop (mnS l)))); have h3 := hp ((l.drop (mnS l + intS (l.drop (mnS l)))).drop (fracS (l.drop (mnS l + intS (l.drop (mnS l)))))); rw [tailS]; simp only [List.length_drop] at h1 h2 h3; omega
theorem scanN_pos {c : UInt8} {r : Bs} (h : dg c = true) : 1 <= scanN (c :: r) := by
 have hm : mnS (c :: r) = 0 := by
  rw [mnS, if_neg]; rintro rfl
  revert h; decide
 have hi : intS (c :: r) ≠ 0 := by
  rw [intS]; split
  ·decide
  ·rw [digs, if_pos h]; omega
 rw [scanN, hm, List.drop_zero, if_neg hi]; omega
theorem bodyF_size : ∀ (k : Nat) (l : List Nat), Byt l -> (bodyF k l).2.2 = 0 -> 1 <= (bodyF k l).2.1 /\ (bodyF k l).2.1 <= l.length
 | 0, l, _, h => by simp [bodyF, errR] at h
 | k + 1, l, hl, h => by
  rw [bodyF] at h ⊢; split at h
  ·next hq =>
   rw [if_pos hq]
   cases l with
   | nil => simp at hq
   | cons c l => simp
  ·next hq =>
   rw [if_neg hq]; split at h
   ·next hp => exact absurd h hp
   ·next hp =>
    rw [if_neg hp]; have hp0 : (partQ l).2.2 = 0 := by simpa using hp
    obtain ⟨c, -, -, h3, h4⟩ := partQ_ok hl hp0; split at h
    ·next hr => exact absurd h hr
    ·next hr =>
     rw [if_neg hr]; have := bodyF_size k (l.drop (partQ l).2.1) (hl.drop _) (by simpa using hr)
     simp only [List.length_drop] at this; simp only; omega
theorem scanQ_size {l : List Nat} (hl : Byt l) (h : (scanQ l).2.2 = 0) : 2 <= (scanQ l).2.1 /\ (scanQ l).2.1 <= l.length := by
 cases l with
 | nil => simp [scanQ, errR] at h
 | cons c r =>
  rw [scanQ] at h ⊢; split at h
  ·simp [errR] at h
  ·next hc =>
   rw [if_neg hc]; unfold joinR at h ⊢; split at h
   ·next he => exact absurd h he
   ·next he =>
    rw [if_neg he]; have := bodyF_size _ r (hl.drop 1) (by simpa [bodyQ] using he)
    simp only [bodyQ, List.length_cons]; omega
theorem remS_len (l : Bs) : (remS l).length <= l.length := by
 unfold remS Lib.trimRightS; rw [List.length_reverse]; refine Nat.le_trans (List.dropWhile_sublist _).length_le ?_; rw [List.length_reverse, List.length_take]; omega
theorem remS_pos {c : UInt8} {r : Bs} (h1 : c ≠ 10) (h2 : blankB c = false) : 1 <= (remS (c :: r)).length := by
 unfold remS Lib.trimRightS; rw [List.length_reverse, lineN, if_neg h1, List.take_succ_cons, List.reverse_cons]; generalize (r.take (lineN r)).reverse = q
 induction q with
 | nil =>
  rw [List.nil_append, List.dropWhile_cons_of_neg (by rw [show blanksB.contains c = false from h2]; simp)]
  simp
 | cons a q ih =>
  rw [List.cons_append, List.dropWhile_cons]; split
  ·exact ih
  ·simp
theorem sgN_le (l : Bs) : sgN l <= l.length := by
 unfold sgN; split
 ·next h =>
  obtain ⟨d, hd, hp⟩ := List.any_eq_true.1 h
  have h2 : d.length = 2 := by
   simp only [dbls, List.mem_cons, List.not_mem_nil, or_false] at hd; rcases hd with rfl | rfl | rfl | rfl | rfl | rfl <;> rfl
  have := (List.isPrefixOf_iff_prefix.1 hp).length_le; omega
 ·split
  ·exact Nat.zero_le _
  ·split
   ·simp
   ·exact Nat.zero_le _
theorem one1_size {l : Bs} {k n : Nat} (h : one1 l = .tok k n) : 1 <= n /\ n <= l.length := by
 cases l with
 | nil => cases h
 | cons c r =>
  rw [one1] at h; split at h
  ·cases h
   have := idN_le r; simp only [List.length_cons]; omega
  split at h
  ·next hd =>
   unfold num1 at h; split at h
   ·cases h; exact ⟨scanN_pos hd, scanN_le _⟩
   ·cases h
  split at h
  ·unfold quo1 at h
   split at h
   ·next hq =>
    cases h
    have := scanQ_size (nb_byt (c :: r)) hq; rw [nb_len] at this; omega
   ·cases h
  split at h
  ·cases h; simp
  split at h
  ·next h10 hr =>
   unfold remT at h; split at h
   ·cases h
   ·cases h
    refine ⟨remS_pos h10 ?_, remS_len _⟩; rcases hr with rfl | ⟨rfl, -⟩ <;> rfl
  split at h
  ·unfold aside1 at h
   split at h
   ·cases h
   ·next n hn =>
    have := endN_le _ _ hn; split at h
    ·cases h
    ·unfold remT at h
     split at h
     ·cases h
     ·cases h
      simp only [List.length_take, List.length_drop, List.length_cons] at this ⊢; omega
  split at h
  ·cases h
  ·cases h
   exact ⟨by omega, sgN_le _⟩
structure Tok where
 kind : Int
 text : ByteArray
 pos : Int
def lexF : Nat -> Bs -> Nat -> List Tok × Int × Int
 | 0, _, _ => ([], -1, 0)
 | _ + 1, [], _ => ([], -1, 0)
 | n + 1, c :: r, p => if blankB c then lexF n r (p + 1) else match one1 (c :: r) with
  | .bad off e => ([], ((p + off : Nat) : Int), e)
  | .tok k sz => (⟨(k : Nat), strL ((c :: r).take sz), (p : Nat)⟩ :: (lexF n ((c :: r).drop sz) (p + sz)).1, (lexF n ((c :: r).drop sz) (p + sz)).2)
theorem lexF_same : ∀ (n m : Nat) (l : Bs) (p : Nat), l.length <= n -> l.length <= m -> lexF n l p = lexF m l p
 | 0, m, l, p, h, _ => by
  obtain rfl := List.eq_nil_of_length_eq_zero (Nat.le_zero.1 h); cases m <;> rfl
 | n + 1, 0, l, p, _, h => by
  obtain rfl := List.eq_nil_of_length_eq_zero (Nat.le_zero.1 h); rfl
 | n + 1, m + 1, [], p, _, _ => rfl
 | n + 1, m + 1, c :: r, p, hn, hm => by
  simp only [List.length_cons] at hn hm; rw [lexF, lexF]; split
  ·exact lexF_same n m r _ (by omega) (by omega)
  ·cases ho : one1 (c :: r) with
   | bad off e => rfl
   | tok k sz =>
    have hs := one1_size ho; simp only; rw [lexF_same n m _ _ (by rw [List.length_drop, List.length_cons]; omega) (by rw [List.length_drop, List.length_cons]; omega)]
def lexL (l : Bs) (p : Nat) : List Tok × Int × Int := lexF l.length l p
theorem lexL_nil (p : Nat) : lexL [] p = ([], -1, 0) := rfl
theorem lexL_blank {c : UInt8} {r : Bs} (h : blankB c = true) (p : Nat) : lexL (c :: r) p = lexL r (p + 1) := by
 unfold lexL; rw [List.length_cons, lexF, if_pos h]
theorem lexL_bad {c : UInt8} {r : Bs} (h : blankB c = false) {off : Nat} {e : Int} (ho : one1 (c :: r) = .bad off e) (p : Nat) : lexL (c :: r) p = ([], ((p + off : Nat) : Int), e) := by
 unfold lexL; rw [List.length_cons, lexF, if_neg (by rw [h]; simp), ho]
theorem lexL_tok {c : UInt8} {r : Bs} (h : blankB c = false) {k sz : Nat} (ho : one1 (c :: r) = .tok k sz) (p : Nat) :
  lexL (c :: r) p = (⟨(k : Nat), strL ((c :: r).take sz), (p : Nat)⟩ :: (lexL ((c :: r).drop sz) (p + sz)).1, (lexL ((c :: r).drop sz) (p + sz)).2) := by
 have hs := one1_size ho; unfold lexL; rw [List.length_cons, lexF, if_neg (by rw [h]; simp), ho]
 simp only; rw [lexF_same r.length ((c :: r).drop sz).length _ _ (by rw [List.length_drop, List.length_cons]; omega) (Nat.le_refl _)]
theorem lexL_len : ∀ (k : Nat) (l : Bs) (p : Nat), l.length <= k -> (lexL l p).1.length <= l.length
 | 0, l, p, h => by
  obtain rfl := List.eq_nil_of_length_eq_zero (Nat.le_zero.1 h); exact Nat.le_refl _
 | k + 1, [], p, _ => Nat.le_refl _
 | k + 1, c :: r, p, h => by
  simp only [List.length_cons] at h
  by_cases hb : blankB c = true
  ·rw [lexL_blank hb]
   have := lexL_len k r (p + 1) (by omega)
   simp only [List.length_cons]; omega
  ·have hb' : blankB c = false := by simpa using hb
   cases ho : one1 (c :: r) with
   | bad off e => rw [lexL_bad hb' ho]; simp
   | tok kd sz =>
    rw [lexL_tok hb' ho]; have hs := one1_size ho; have := lexL_len k ((c :: r).drop sz) (p + sz) (by rw [List.length_drop, List.length_cons]; omega)
    rw [List.length_drop] at this; simp only [List.length_cons] at this hs ⊢; omega
end Go.Proofs.YtbcdaaobbebooaaGreatDoor
namespace Go.Proofs.YtbcdaaobbebooaaGreatDoor
set_option maxRecDepth 100000
set_option maxHeartbeats 20000000
open Go.RowKit Go.Tab
def tokC (t : Tok) : List Value := [.int .i64 t.kind, .string t.text, .int .i64 t.pos]
abbrev tokV (t : Tok) : Value := .agg #[.int .i64 t.kind, .string t.text, .int .i64 t.pos]
def OwnT (base : Nat) (w : World) (v : Value) (l : List Tok) : Prop := w.ownsRow base 63 3 v l.length (l.flatMap tokC)
theorem OwnT.nil {base : Nat} {w : World} : OwnT base w (.slice none 0 0) [] := World.ownsRow_nil _ _ _ _
theorem OwnT.alloc {base : Nat} {w : World} {v : Value} {l : List Tok} (h : OwnT base w v l) (o : Obj) : OwnT base (w.alloc o) v l := World.ownsRow.alloc h o
theorem OwnT.moved {base : Nat} {w w' : World} {v : Value} {l : List Tok} (h : OwnT base w v l) (hc : ∀ k, v.ownBlock = some k -> w'.heap[k]? = w.heap[k]?) : OwnT base w' v l := by
 obtain ⟨h1, h2⟩ := h; refine ⟨h1, ?_⟩; rcases h2 with h2 | ⟨g, cap, cur, rfl, hg0, hg, r⟩
 ·exact .inl h2
 ·exact .inr ⟨g, cap, cur, rfl, hg0, by rw [hc g rfl]; exact hg, r⟩
theorem OwnT.below {base B : Nat} {w w' : World} {v : Value} {l : List Tok} (h : OwnT base w v l) (hb : Below B w w') (hB : w.heap.size <= B) : OwnT base w' v l :=
 h.moved fun k hk => hb.block k (Nat.lt_of_lt_of_le (World.ownsRow.lt h k hk).2 hB)
theorem OwnT.base_le {base base' : Nat} {w : World} {v : Value} {l : List Tok} (h : OwnT base w v l) (hb : base' <= base) : OwnT base' w v l := by
 obtain ⟨h1, h2⟩ := h; refine ⟨h1, ?_⟩; rcases h2 with h2 | ⟨g, cap, cur, hv, hg0, r⟩
 ·exact .inl h2
 ·exact .inr ⟨g, cap, cur, hv, by omega, r⟩
theorem OwnT.len {base : Nat} {w : World} {v : Value} {l : List Tok} (h : OwnT base w v l) : ∃ a cap, v = .slice a l.length cap := by
 obtain ⟨h1, h2⟩ := h; rcases h2 with ⟨rfl, h3⟩ | ⟨g, cap, cur, rfl, _⟩
 ·exact ⟨none, 0, by rw [h3]⟩
 ·exact ⟨_, cap, rfl⟩
theorem Tryz.infoTok : (Tryz.prog.info? 63).map (fun i => (i.zero, i.size, i.bytes)) = some (some (.agg #[.int .i64 0, .string ⟨#[]⟩, .int .i64 0]), 3, 32) := by kernel_rfl
theorem tokC_one (t : Tok) : ∀ u ∈ tokC t, u.oneCell' = true := by
 intro u hu; simp only [tokC, List.mem_cons, List.not_mem_nil, or_false] at hu; rcases hu with rfl | rfl | rfl <;> rfl
theorem flat_tok : ∀ (l : List Tok) (j : Nat) (h : j < l.length), (l.flatMap tokC)[j * 3]? = some (.int .i64 l[j].kind) /\ (l.flatMap tokC)[j * 3 + 1]? = some (.string l[j].text) /\ (l.flatMap tokC)[j * 3 + 2]? = some (.int .i64 l[j].pos)
 | p :: l, 0, _ => by simp [tokC]
 | p :: l, j + 1, h => by
  have ih := flat_tok l j (by simpa using h)
  have e1 : (j + 1) * 3 = j * 3 + 3 := by omega
  rw [e1]
  simpa [tokC] using ih
def ToksAt (w : World) (v : Value) (l : List Tok) : Prop :=
 ∃ a cap, v = .slice a l.length cap /\ l.length <= cap /\ cap <= maxLen /\ (a = none -> cap = 0) /\
  ∀ x, a = some x -> l ≠ [] -> x.spot = none /\ x.block < w.heap.size /\ ∀ j (h : j < l.length), w.cell? ⟨x.block, x.off + j * 3, none⟩ = some (.int .i64 l[j].kind) /\
   w.cell? ⟨x.block, x.off + j * 3 + 1, none⟩ = some (.string l[j].text) /\ w.cell? ⟨x.block, x.off + j * 3 + 2, none⟩ = some (.int .i64 l[j].pos)
theorem ToksAt.nil {w : World} : ToksAt w (.slice none 0 0) [] := ⟨none, 0, rfl, Nat.le_refl _, Nat.zero_le _, fun _ => rfl, fun x hx => by cases hx⟩
theorem OwnT.toks {base : Nat} {w : World} {v : Value} {l : List Tok} (h : OwnT base w v l) : ToksAt w v l := by
 have hlt := World.ownsRow.lt h; obtain ⟨h1, h2⟩ := h; rcases h2 with ⟨rfl, h3⟩ | ⟨g, cap, cur, rfl, hb, hg, h3, h4, h5, h6⟩
 ·have : l = [] := List.eq_nil_of_length_eq_zero h3
  subst this; exact ToksAt.nil
 ·refine ⟨_, cap, rfl, h3, h4, (fun h => by cases h), fun x hx _ => ?_⟩
  cases hx
  refine ⟨rfl, (hlt g rfl).2, fun j hj => ?_⟩; obtain ⟨f1, f2, f3⟩ := flat_tok l j hj; rw [<- h6, List.getElem?_take, if_pos (by omega)] at f1 f2 f3
  refine ⟨?_, ?_, ?_⟩
  ·rw [cell_of_row w g _ cur 63 (0, 0) hg]
   simpa using f1
  ·rw [cell_of_row w g _ cur 63 (0, 0) hg]
   simpa using f2
  ·rw [cell_of_row w g _ cur 63 (0, 0) hg]
   simpa using f3
theorem ToksAt.moved {w w' : World} {v : Value} {l : List Tok} (h : ToksAt w v l) (hs : w.heap.size <= w'.heap.size) (hc : ∀ b off, b < w.heap.size -> v.ownBlock = some b -> w'.cell? ⟨b, off, none⟩ = w.cell? ⟨b, off, none⟩) : ToksAt w' v l := by
 obtain ⟨a, cap, rfl, h1, h2, h3, h4⟩ := h; refine ⟨a, cap, rfl, h1, h2, h3, fun x hx hl => ?_⟩; obtain ⟨g1, g2, g3⟩ := h4 x hx hl; subst hx; refine ⟨g1, Nat.lt_of_lt_of_le g2 hs, fun j hj => ?_⟩; rw [hc _ _ g2 rfl, hc _ _ g2 rfl, hc _ _ g2 rfl]; exact g3 j hj
theorem ToksAt.below {w w' : World} {B : Nat} {v : Value} {l : List Tok} (h : ToksAt w v l) (hb : Below B w w') (hB : w.heap.size <= B) : ToksAt w' v l :=
 h.moved hb.size fun b off hx _ => hb.cell (Nat.lt_of_lt_of_le hx hB)
theorem ToksAt.get {w : World} {a : Option Addr} {n cap : Nat} {l : List Tok} (h : ToksAt w (.slice a n cap) l) {j : Nat} (hj : j < l.length) :
  ∃ b off, a = some ⟨b, off, none⟩ /\ b < w.heap.size /\ w.cell? ⟨b, off + j * 3, none⟩ = some (.int .i64 l[j].kind) /\ w.cell? ⟨b, off + j * 3 + 1, none⟩ = some (.string l[j].text) /\ w.cell? ⟨b, off + j * 3 + 2, none⟩ = some (.int .i64 l[j].pos) := by
 obtain ⟨a', cap', he, h1, h2, h3, h4⟩ := h; cases he
 cases a with
 | none => have := h3 rfl; omega
 | some x =>
  obtain ⟨b, off, sp⟩ := x; obtain ⟨rfl, g2, g3⟩ := h4 _ rfl (by intro h0; subst h0; simp at hj)
  exact ⟨b, off, rfl, g2, g3 j hj⟩
theorem ToksAt.len {w : World} {v : Value} {l : List Tok} (h : ToksAt w v l) : ∃ a cap, v = .slice a l.length cap /\ l.length <= cap /\ cap <= maxLen /\ (a = none -> cap = 0) := by
 obtain ⟨a, cap, h1, h2, h3, h4, -⟩ := h; exact ⟨a, cap, h1, h2, h3, h4⟩
section
variable {w : World} {ops : Array Oper} {rest : List Oper} {o : Oper} {a : Act} {Q : Exit -> Act -> World -> Prop}
theorem wpList_append_tok (hgd : Region.wanted o (yielded ops a.tmps) = true) (s x : Operand)
  (ho : o.op = .call { callee := .builtin .append, args := #[s, x], argTypes := #[22, 22] })
  (base : Nat) (l : List Tok) (t : Tok) (hown : OwnT base w (a.eval s) l) (g : Nat) (hx : a.eval x = .slice (some ⟨g, 0, none⟩) 1 1)
  (hc0 : w.cell? ⟨g, 0, none⟩ = some (.int .i64 t.kind)) (hc1 : w.cell? ⟨g, 1, none⟩ = some (.string t.text)) (hc2 : w.cell? ⟨g, 2, none⟩ = some (.int .i64 t.pos))
  (hm : l.length <= 1048576) (hbase : base <= w.heap.size) (w0 : World) (hb : Below base w0 w)
  (hK : ∀ v' w', OwnT base w' v' (l ++ [t]) -> Below base w0 w' -> w.grownBy w' (a.eval s).ownBlock -> wpList Tryz.prog ops Q rest (a.put o.dst v') w') : wpList Tryz.prog ops Q (o :: rest) a w := by
 refine wpList_want hgd fun K hK' => ?_; obtain ⟨i, hi1, hi2, hi3, hi4⟩ := info_parts Tryz.infoTok; refine wp_append_own w s x 22 ho base 63 i _ 3 32 Tryz.underlying22 hi1 hi2 hi3 hi4 rfl (by decide) (a.eval s) l.length (l.flatMap tokC) rfl hown ⟨g, 0, none⟩ 1 1 (tokC t) hx rfl ?_ (tokC_one t) (by unfold maxLen; omega) (by omega) hbase ?_
 ·intro j u hu
  rw [Addr.add_lit]
  match j with
  | 0 => simp [tokC] at hu; subst hu; simpa using hc0
  | 1 => simp [tokC] at hu; subst hu; simpa using hc1
  | 2 => simp [tokC] at hu; subst hu; simpa using hc2
  | j + 3 => simp [tokC] at hu
 ·intro v' w' hown' hg _
  refine hK' _ _ (hK v' w' ?_ (hb.trans (grown_below hg hbase (fun k hk => (World.ownsRow.lt hown k hk).1))) hg); unfold OwnT
  simpa using hown'
end
end Go.Proofs.YtbcdaaobbebooaaGreatDoor
namespace Go.Proofs.YtbcdaaobbebooaaGreatDoor
set_option maxRecDepth 100000
set_option maxHeartbeats 20000000
inductive Exp where
 | mk (op text : ByteArray) (kids : List Exp) : Exp
def Exp.kids : Exp -> List Exp
 | .mk _ _ k => k
def zeroX : Exp := .mk ⟨#[]⟩ ⟨#[]⟩ []
def lvTab : List (Bs × Int) := [([63], 0), ([124, 124], 1), ([38, 38], 2), ([61, 61], 3), ([33, 61], 3), ([60], 4), ([62], 4), ([60, 61], 4), ([62, 61], 4), ([43], 5), ([45], 5), ([42], 6), ([47], 6), ([37], 6), ([33], 7), ([110, 101, 103], 7),
 ([103, 101, 116], 8), ([97, 116], 8), ([110, 97, 109, 101], 8), ([99, 97, 108, 108], 8), ([110, 117, 109], 8), ([116, 101, 120, 116], 8), ([108, 105, 115, 116], 8)]
def lvN (s : ByteArray) : Int := match lvTab.find? (fun x => x.1 == s.data.toList) with
 | some x => x.2
 | none => -1
def isS (r : List Tok) (w : ByteArray) : Bool := match r with
 | [] => false
 | t :: _ => decide (t.kind = 4) && decide (t.text = w)
def isL (r : List Tok) (lv : Nat) : Option ByteArray := match r with
 | [] => none
 | t :: _ => if t.kind = 4 /\ lvN t.text = lv then some t.text else none
abbrev GotX := Exp × Nat × Int
def badX (r : List Tok) (n : Nat) : GotX := if r = [] then (zeroX, n, 2) else (zeroX, n, 3)
def upX (n : Nat) (g : GotX) : GotX := (g.1, n + g.2.1, g.2.2)
def quoX (s : ByteArray) : Option ByteArray :=
 if (scanQ (nb s.data.toList)).2.2 = 0 /\ (scanQ (nb s.data.toList)).2.1 = s.size then some (strL ((scanQ (nb s.data.toList)).1.map UInt8.ofNat)) else none
inductive Nt where
 | choice : Nt
 | term (lv : Nat) : Nt
 | tloop (lv : Nat) (a : Exp) : Nt
 | tight : Nt
 | post : Nt
 | ploop (a : Exp) : Nt
 | prime : Nt
 | many (shut : ByteArray) : Nt
 | mloop (shut : ByteArray) (l : List Exp) : Nt
abbrev sQ : ByteArray := ⟨#[63]⟩
abbrev sCo : ByteArray := ⟨#[58]⟩
abbrev sBang : ByteArray := ⟨#[33]⟩
abbrev sMinus : ByteArray := ⟨#[45]⟩
abbrev sDot : ByteArray := ⟨#[46]⟩
abbrev sComma : ByteArray := ⟨#[44]⟩
abbrev sLp : ByteArray := ⟨#[40]⟩
abbrev sRp : ByteArray := ⟨#[41]⟩
abbrev sLb : ByteArray := ⟨#[91]⟩
abbrev sRb : ByteArray := ⟨#[93]⟩
abbrev oNeg : ByteArray := ⟨#[110, 101, 103]⟩
abbrev oGet : ByteArray := ⟨#[103, 101, 116]⟩
abbrev oAt : ByteArray := ⟨#[97, 116]⟩
abbrev oName : ByteArray := ⟨#[110, 97, 109, 101]⟩
abbrev oCall : ByteArray := ⟨#[99, 97, 108, 108]⟩
abbrev oNum : ByteArray := ⟨#[110, 117, 109]⟩
abbrev oText : ByteArray := ⟨#[116, 101, 120, 116]⟩
abbrev oList : ByteArray := ⟨#[108, 105, 115, 116]⟩
abbrev oNo : ByteArray := ⟨#[]⟩
def deepX (n : Nat) : GotX := (zeroX, n, 5)
def andX (g : GotX) (f : Exp -> Nat -> GotX) : GotX := if g.2.2 = 0 then f g.1 g.2.1 else (zeroX, g.2)
def parX : Nat -> Nt -> List Tok -> Nat -> GotX
 | 0, _, _, _ => (zeroX, 0, -1)
 | n + 1, .choice, r, d => andX (parX n (.term 1) r d) fun a k =>
   if isS (r.drop k) sQ = false then (a, k, 0) else if 64 <= d then deepX k else
   andX (upX (k + 1) (parX n .choice (r.drop (k + 1)) (d + 1))) fun b k2 =>
   if isS (r.drop k2) sCo = false then badX (r.drop k2) k2 else
   andX (upX (k2 + 1) (parX n .choice (r.drop (k2 + 1)) (d + 1))) fun c k3 => (.mk sQ oNo [a, b, c], k3, 0)
 | n + 1, .term lv, r, d => if 7 <= lv then parX n .tight r d else
   andX (parX n (.term (lv + 1)) r d) fun a k => upX k (parX n (.tloop lv a) (r.drop k) d)
 | n + 1, .tloop lv a, r, d => match isL r lv with
   | none => (a, 0, 0)
   | some o => andX (upX 1 (parX n (.term (lv + 1)) (r.drop 1) d)) fun b k => upX k (parX n (.tloop lv (.mk o oNo [a, b])) (r.drop k) d)
 | n + 1, .tight, r, d => if isS r sBang = false /\ isS r sMinus = false then parX n .post r d else if 64 <= d then deepX 0 else
   andX (upX 1 (parX n .tight (r.drop 1) (d + 1))) fun a k => (.mk (if isS r sBang then sBang else oNeg) oNo [a], k, 0)
 | n + 1, .post, r, d => andX (parX n .prime r d) fun a k => upX k (parX n (.ploop a) (r.drop k) d)
 | n + 1, .ploop a, r, d =>
   if isS r sDot then match r.drop 1 with
    | [] => badX [] 1
    | t :: _ => if t.kind = 1 then upX 2 (parX n (.ploop (.mk oGet t.text [a])) (r.drop 2) d) else badX (r.drop 1) 1
   else if isS r sLb then (if 64 <= d then deepX 0 else
    andX (upX 1 (parX n .choice (r.drop 1) (d + 1))) fun b k => if isS (r.drop k) sRb = false then badX (r.drop k) k else upX (k + 1) (parX n (.ploop (.mk oAt oNo [a, b])) (r.drop (k + 1)) d))
   else (a, 0, 0)
 | n + 1, .prime, r, d => match r with
   | [] => badX [] 0
   | t :: r' =>
    if t.kind = 1 then (if isS r' sLp then andX (upX 1 (parX n (.many sRp) r' d)) fun x k => (.mk oCall t.text x.kids, k, 0) else (.mk oName t.text [], 1, 0))
    else if t.kind = 2 then (.mk oNum t.text [], 1, 0)
    else if t.kind = 3 then (match quoX t.text with | none => (zeroX, 0, 3) | some s => (.mk oText s [], 1, 0))
    else if isS r sLb then andX (parX n (.many sRb) r d) fun x k => (.mk oList oNo x.kids, k, 0)
    else if isS r sLp then (if 64 <= d then deepX 0 else andX (upX 1 (parX n .choice r' (d + 1))) fun a k => if isS (r.drop k) sRp = false then badX (r.drop k) k else (a, k + 1, 0))
    else badX r 0
 | n + 1, .many s, r, d => if 64 <= d then deepX 0 else if isS (r.drop 1) s then (.mk oNo oNo [], 2, 0) else upX 1 (parX n (.mloop s []) (r.drop 1) d)
 | n + 1, .mloop s l, r, d => andX (parX n .choice r (d + 1)) fun a k =>
   if isS (r.drop k) sComma then upX (k + 1) (parX n (.mloop s (l ++ [a])) (r.drop (k + 1)) d) else if isS (r.drop k) s then (.mk oNo oNo (l ++ [a]), k + 1, 0) else badX (r.drop k) k
def Nt.rank : Nt -> Nat
 | .choice => 14
 | .term lv => 13 - lv
 | .tloop _ _ => 2
 | .tight => 5
 | .post => 4
 | .ploop _ => 2
 | .prime => 3
 | .many _ => 2
 | .mloop _ _ => 15
def fuelX (t : Nt) (r : List Tok) : Nat := r.length * 16 + t.rank
theorem andX_ok {g : GotX} {f : Exp -> Nat -> GotX} (h : g.2.2 = 0) : andX g f = f g.1 g.2.1 := by rw [andX, if_pos h]
theorem andX_bad {g : GotX} {f : Exp -> Nat -> GotX} (h : g.2.2 ≠ 0) : andX g f = (zeroX, g.2) := by rw [andX, if_neg h]
def FineX (m : Nat) (r : List Tok) (g : GotX) : Prop := g.2.2 ≠ -1 /\ g.2.1 <= r.length /\ (g.2.2 = 0 -> m <= g.2.1)
theorem FineX.and {m m2 : Nat} {r : List Tok} {g : GotX} {f : Exp -> Nat -> GotX} (h : FineX m r g) (hf : g.2.2 = 0 -> m <= g.2.1 -> g.2.1 <= r.length -> FineX m2 r (f g.1 g.2.1)) : FineX m2 r (andX g f) := by
 by_cases he : g.2.2 = 0
 ·rw [andX_ok he]; exact hf he (h.2.2 he) h.2.1
 ·rw [andX_bad he]; exact ⟨h.1, h.2.1, fun e => absurd e he⟩
theorem FineX.up {m n : Nat} {r : List Tok} {g : GotX} (h : FineX m (r.drop n) g) (hn : n <= r.length) : FineX (n + m) r (upX n g) := by
 obtain ⟨h1, h2, h3⟩ := h; rw [List.length_drop] at h2; exact ⟨h1, by simp only [upX]; omega, fun e => by have := h3 e; simp only [upX]; omega⟩
theorem FineX.less {m m2 : Nat} {r : List Tok} {g : GotX} (h : FineX m r g) (hm : m2 <= m) : FineX m2 r g := ⟨h.1, h.2.1, fun e => Nat.le_trans hm (h.2.2 e)⟩
theorem FineX.ok {m n : Nat} {r : List Tok} {x : Exp} (h1 : n <= r.length) (h2 : m <= n) : FineX m r (x, n, 0) := ⟨(by decide : (0 : Int) ≠ -1), h1, fun _ => h2⟩
theorem FineX.bad {m : Nat} {r q : List Tok} {n : Nat} (hn : n <= r.length) : FineX m r (badX q n) := by
 unfold badX; split
 ·exact ⟨(by decide : (2 : Int) ≠ -1), hn, fun e => by cases e⟩
 ·exact ⟨(by decide : (3 : Int) ≠ -1), hn, fun e => by cases e⟩
theorem FineX.deep {m : Nat} {r : List Tok} {n : Nat} (hn : n <= r.length) : FineX m r (deepX n) := ⟨(by decide : (5 : Int) ≠ -1), hn, fun e => by cases e⟩
theorem isS_some {r : List Tok} {w : ByteArray} (h : isS r w = true) : 1 <= r.length := by cases r with | nil => cases h | cons t r => simp
theorem isS_none {r : List Tok} {w : ByteArray} (h : ¬ isS r w = false) : 1 <= r.length := isS_some (by simpa using h)
theorem isL_some {r : List Tok} {lv : Nat} {o : ByteArray} (h : isL r lv = some o) : 1 <= r.length := by cases r with | nil => cases h | cons t r => simp
theorem len_drop1 {r : List Tok} {k : Nat} (h : 1 <= (r.drop k).length) : k + 1 <= r.length := by rw [List.length_drop] at h; omega
def Nt.okX : Nt -> List Tok -> Prop
 | .term lv, _ => lv <= 7
 | .tloop lv _, _ => lv <= 6
 | .many _, r => 1 <= r.length
 | _, _ => True
def Nt.least : Nt -> Nat
 | .tloop _ _ => 0
 | .ploop _ => 0
 | _ => 1
theorem parX_fine : ∀ (n : Nat) (t : Nt) (r : List Tok) (d : Nat), fuelX t r <= n -> t.okX r -> FineX t.least r (parX n t r d) := by
 intro n
 induction n with
 | zero =>
  intro t r d h ht; exfalso
  unfold fuelX at h
  cases t with
  | term lv => simp only [Nt.rank] at h; simp only [Nt.okX] at ht; omega
  | _ => simp only [Nt.rank] at h; omega
 | succ n ih =>
  intro t r d h ht; unfold fuelX at h; have IH : ∀ (t : Nt) (r : List Tok) (d : Nat), r.length * 16 + t.rank <= n -> t.okX r -> FineX t.least r (parX n t r d) := fun t r d h => ih t r d h; clear ih
  cases t with
  | choice =>
   simp only [Nt.rank] at h; rw [parX]; refine (IH (.term 1) r d (by simp only [Nt.rank]; omega) (by simp only [Nt.okX]; omega)).and fun _ h1 h2 => ?_
   simp only [Nt.least] at h1 ⊢; split
   ·exact (.ok (h2) (h1))
   ·next hq =>
    have hq := len_drop1 (isS_none hq); split
    ·exact .deep h2
    ·refine ((IH .choice (r.drop _) (d + 1) (by simp only [Nt.rank, List.length_drop]; omega) (by simp only [Nt.okX]; try omega)).up hq).and fun _ h3 h4 => ?_
     simp only [Nt.least] at h3; split
     ·exact .bad h4
     ·next hc =>
      have hc := len_drop1 (isS_none hc); refine ((IH .choice (r.drop _) (d + 1) (by simp only [Nt.rank, List.length_drop]; omega) (by simp only [Nt.okX]; try omega)).up hc).and fun _ h5 h6 => ?_
      exact (.ok (h6) (by simp only [Nt.least] at *; omega))
  | term lv =>
   simp only [Nt.rank] at h; simp only [Nt.okX] at ht; rw [parX]; split
   ·exact IH .tight r d (by simp only [Nt.rank]; omega) (by simp only [Nt.okX]; try omega)
   ·refine (IH (.term (lv + 1)) r d (by simp only [Nt.rank]; omega) (by simp only [Nt.okX]; omega)).and fun _ h1 h2 => ?_
    simp only [Nt.least] at h1; exact ((IH (.tloop lv _) (r.drop _) d (by simp only [Nt.rank, List.length_drop]; omega) (by simp only [Nt.okX]; try omega)).up h2).less (by simp only [Nt.least]; omega)
  | tloop lv a =>
   simp only [Nt.rank] at h; rw [parX]; split
   ·exact (.ok (Nat.zero_le _) (Nat.zero_le _))
   ·next o ho =>
    have hl := isL_some ho; refine ((IH (.term (lv + 1)) (r.drop 1) d (by simp only [Nt.rank, List.length_drop]; omega) (by simp only [Nt.okX] at ht ⊢; omega)).up hl).and fun _ h1 h2 => ?_
    simp only [Nt.least] at h1; exact ((IH (.tloop lv _) (r.drop _) d (by simp only [Nt.rank, List.length_drop]; omega) ht).up h2).less (Nat.zero_le _)
  | tight =>
   simp only [Nt.rank] at h; rw [parX]; split
   ·exact IH .post r d (by simp only [Nt.rank]; omega) (by simp only [Nt.okX]; try omega)
   ·next hs =>
    have hl : 1 <= r.length := by
     by_cases h1 : isS r sBang = false
     ·exact isS_none (w := sMinus) (fun h2 => hs ⟨h1, h2⟩)
     ·exact isS_none h1
    split
    ·exact .deep (Nat.zero_le _)
    ·refine ((IH .tight (r.drop 1) (d + 1) (by simp only [Nt.rank, List.length_drop]; omega) (by simp only [Nt.okX]; try omega)).up hl).and fun _ h1 h2 => ?_
     exact (.ok (h2) (by simp only [Nt.least] at *; omega))
  | post =>
   simp only [Nt.rank] at h; rw [parX]; refine (IH .prime r d (by simp only [Nt.rank]; omega) (by simp only [Nt.okX]; try omega)).and fun _ h1 h2 => ?_
   simp only [Nt.least] at h1; exact ((IH (.ploop _) (r.drop _) d (by simp only [Nt.rank, List.length_drop]; omega) (by simp only [Nt.okX]; try omega)).up h2).less (by simp only [Nt.least]; omega)
  | ploop a =>
   simp only [Nt.rank] at h; rw [parX]; split
   ·next hs =>
    have hl := isS_some hs; split
    ·exact .bad hl
    ·next t q hq =>
     have hl2 : 2 <= r.length := by have := congrArg List.length hq; simp at this; omega
     split
     ·exact ((IH (.ploop _) (r.drop 2) d (by simp only [Nt.rank, List.length_drop]; omega) (by simp only [Nt.okX]; try omega)).up hl2).less (Nat.zero_le _)
     ·exact .bad hl
   ·split
    ·next hs =>
     have hl := isS_some hs; split
     ·exact .deep (Nat.zero_le _)
     ·refine ((IH .choice (r.drop 1) (d + 1) (by simp only [Nt.rank, List.length_drop]; omega) (by simp only [Nt.okX]; try omega)).up hl).and fun _ h1 h2 => ?_
      simp only [Nt.least] at h1; split
      ·exact .bad h2
      ·next hb =>
       have hb := len_drop1 (isS_none hb); exact ((IH (.ploop _) (r.drop _) d (by simp only [Nt.rank, List.length_drop]; omega) (by simp only [Nt.okX]; try omega)).up hb).less (Nat.zero_le _)
    ·exact (.ok (Nat.zero_le _) (Nat.zero_le _))
  | prime =>
   simp only [Nt.rank] at h
   cases r with
   | nil => exact .bad (Nat.zero_le _)
   | cons t r' =>
    simp only [parX]; simp only [List.length_cons] at h; split
    ·split
     ·next hs =>
      have := ((IH (.many sRp) ((t :: r').drop 1) d (by simp only [Nt.rank, List.length_drop, List.length_cons]; omega) (isS_some hs)).up (n := 1) (by simp))
      refine this.and fun _ h1 h2 => ?_; exact (.ok (h2) (by simp only [Nt.least] at *; omega))
     ·exact (.ok (by simp) (Nat.le_refl _))
    ·split
     ·exact (.ok (by simp) (Nat.le_refl _))
     ·split
      ·split
       ·exact ⟨(by decide : (3 : Int) ≠ -1), Nat.zero_le _, fun e => by cases e⟩
       ·exact (.ok (by simp) (Nat.le_refl _))
      ·split
       ·refine (IH (.many sRb) (t :: r') d (by simp only [Nt.rank, List.length_cons]; omega) (by simp [Nt.okX])).and fun _ h1 h2 => ?_
        exact (.ok (h2) (h1))
       ·split
        ·split
         ·exact .deep (Nat.zero_le _)
         ·refine ((IH .choice ((t :: r').drop 1) (d + 1) (by simp only [Nt.rank, List.length_drop, List.length_cons]; omega) (by simp only [Nt.okX]; try omega)).up (n := 1) (by simp)).and fun _ h1 h2 => ?_
          simp only [Nt.least] at h1; split
          ·exact .bad h2
          ·next hb => exact (.ok (len_drop1 (isS_none hb)) (by simp only [Nt.least] at *; omega))
        ·exact .bad (Nat.zero_le _)
  | many s =>
   simp only [Nt.rank] at h; have hl : 1 <= r.length := ht; rw [parX]; split
   ·exact .deep (Nat.zero_le _)
   ·split
    ·next hs => exact (.ok (len_drop1 (isS_some hs)) (by simp only [Nt.least] at *; omega))
    ·exact ((IH (.mloop s []) (r.drop 1) d (by simp only [Nt.rank, List.length_drop]; omega) (by simp only [Nt.okX]; try omega)).up hl).less (by simp only [Nt.least]; omega)
  | mloop s l =>
   simp only [Nt.rank] at h; rw [parX]; refine (IH .choice r (d + 1) (by simp only [Nt.rank]; omega) (by simp only [Nt.okX]; try omega)).and fun _ h1 h2 => ?_
   simp only [Nt.least] at h1; split
   ·next hs =>
    have hs := len_drop1 (isS_some hs); exact ((IH (.mloop s _) (r.drop _) d (by simp only [Nt.rank, List.length_drop]; omega) (by simp only [Nt.okX]; try omega)).up hs).less (by simp only [Nt.least]; omega)
   ·split
    ·next hs => exact (.ok (len_drop1 (isS_some hs)) (by simp only [Nt.least] at *; omega))
    ·exact .bad h2
end Go.Proofs.YtbcdaaobbebooaaGreatDoor
namespace Go.Proofs.YtbcdaaobbebooaaGreatDoor
set_option maxRecDepth 100000
set_option maxHeartbeats 20000000
def FineY (m : Nat) (r : List Tok) (g : GotX) : Prop := g.2.2 ≠ -1 -> g.2.1 <= r.length /\ (g.2.2 = 0 -> m <= g.2.1)
theorem FineY.and {m m2 : Nat} {r : List Tok} {g : GotX} {f : Exp -> Nat -> GotX} (h : FineY m r g) (hf : g.2.2 = 0 -> m <= g.2.1 -> g.2.1 <= r.length -> FineY m2 r (f g.1 g.2.1)) : FineY m2 r (andX g f) := by
 by_cases he : g.2.2 = 0
 ·rw [andX_ok he]
  have h1 := h (by rw [he]; decide)
  exact hf he (h1.2 he) h1.1
 ·rw [andX_bad he]; exact fun hn => ⟨(h hn).1, fun e => absurd e he⟩
theorem FineY.up {m n : Nat} {r : List Tok} {g : GotX} (h : FineY m (r.drop n) g) (hn : n <= r.length) : FineY (n + m) r (upX n g) := by
 intro h0; obtain ⟨h2, h3⟩ := h h0; rw [List.length_drop] at h2; exact ⟨by simp only [upX]; omega, fun e => by have := h3 e; simp only [upX]; omega⟩
theorem FineY.less {m m2 : Nat} {r : List Tok} {g : GotX} (h : FineY m r g) (hm : m2 <= m) : FineY m2 r g := fun h0 => ⟨(h h0).1, fun e => Nat.le_trans hm ((h h0).2 e)⟩
theorem FineY.ok {m n : Nat} {r : List Tok} {x : Exp} (h1 : n <= r.length) (h2 : m <= n) : FineY m r (x, n, 0) := fun _ => ⟨h1, fun _ => h2⟩
theorem FineY.bad {m : Nat} {r q : List Tok} {n : Nat} (hn : n <= r.length) : FineY m r (badX q n) := by
 unfold badX; split
 ·exact fun _ => ⟨hn, fun e => by cases e⟩
 ·exact fun _ => ⟨hn, fun e => by cases e⟩
theorem FineY.deep {m : Nat} {r : List Tok} {n : Nat} (hn : n <= r.length) : FineY m r (deepX n) := fun _ => ⟨hn, fun e => by cases e⟩
theorem parX_le : ∀ (n : Nat) (t : Nt) (r : List Tok) (d : Nat), t.okX r -> FineY t.least r (parX n t r d) := by
 intro n
 induction n with
 | zero =>
  intro t r d _ h; exact absurd rfl h
 | succ n ih =>
  intro t r d ht; have IH : ∀ (t : Nt) (r : List Tok) (d : Nat), t.okX r -> FineY t.least r (parX n t r d) := fun t r d h => ih t r d h; clear ih
  cases t with
  | choice =>
   rw [parX]; refine (IH (.term 1) r d (by simp only [Nt.okX]; omega)).and fun _ h1 h2 => ?_
   simp only [Nt.least] at h1 ⊢; split
   ·exact (.ok (h2) (h1))
   ·next hq =>
    have hq := len_drop1 (isS_none hq); split
    ·exact .deep h2
    ·refine ((IH .choice (r.drop _) (d + 1) (by simp only [Nt.okX]; try omega)).up hq).and fun _ h3 h4 => ?_
     simp only [Nt.least] at h3; split
     ·exact .bad h4
     ·next hc =>
      have hc := len_drop1 (isS_none hc); refine ((IH .choice (r.drop _) (d + 1) (by simp only [Nt.okX]; try omega)).up hc).and fun _ h5 h6 => ?_
      exact (.ok (h6) (by simp only [Nt.least] at *; omega))
  | term lv =>
   simp only [Nt.okX] at ht; rw [parX]; split
   ·exact IH .tight r d (by simp only [Nt.okX]; try omega)
   ·refine (IH (.term (lv + 1)) r d (by simp only [Nt.okX]; omega)).and fun _ h1 h2 => ?_
    simp only [Nt.least] at h1; exact ((IH (.tloop lv _) (r.drop _) d (by simp only [Nt.okX]; try omega)).up h2).less (by simp only [Nt.least]; omega)
  | tloop lv a =>
   rw [parX]; split
   ·exact (.ok (Nat.zero_le _) (Nat.zero_le _))
   ·next o ho =>
    have hl := isL_some ho; refine ((IH (.term (lv + 1)) (r.drop 1) d (by simp only [Nt.okX] at ht ⊢; omega)).up hl).and fun _ h1 h2 => ?_
    simp only [Nt.least] at h1; exact ((IH (.tloop lv _) (r.drop _) d ht).up h2).less (Nat.zero_le _)
  | tight =>
   rw [parX]; split
   ·exact IH .post r d (by simp only [Nt.okX]; try omega)
   ·next hs =>
    have hl : 1 <= r.length := by
     by_cases h1 : isS r sBang = false
     ·exact isS_none (w := sMinus) (fun h2 => hs ⟨h1, h2⟩)
     ·exact isS_none h1
    split
    ·exact .deep (Nat.zero_le _)
    ·refine ((IH .tight (r.drop 1) (d + 1) (by simp only [Nt.okX]; try omega)).up hl).and fun _ h1 h2 => ?_
     exact (.ok (h2) (by simp only [Nt.least] at *; omega))
  | post =>
   rw [parX]; refine (IH .prime r d (by simp only [Nt.okX]; try omega)).and fun _ h1 h2 => ?_
   simp only [Nt.least] at h1; exact ((IH (.ploop _) (r.drop _) d (by simp only [Nt.okX]; try omega)).up h2).less (by simp only [Nt.least]; omega)
  | ploop a =>
   rw [parX]; split
   ·next hs =>
    have hl := isS_some hs; split
    ·exact .bad hl
    ·next t q hq =>
     have hl2 : 2 <= r.length := by have := congrArg List.length hq; simp at this; omega
     split
     ·exact ((IH (.ploop _) (r.drop 2) d (by simp only [Nt.okX]; try omega)).up hl2).less (Nat.zero_le _)
     ·exact .bad hl
   ·split
    ·next hs =>
     have hl := isS_some hs; split
     ·exact .deep (Nat.zero_le _)
     ·refine ((IH .choice (r.drop 1) (d + 1) (by simp only [Nt.okX]; try omega)).up hl).and fun _ h1 h2 => ?_
      simp only [Nt.least] at h1; split
      ·exact .bad h2
      ·next hb =>
       have hb := len_drop1 (isS_none hb); exact ((IH (.ploop _) (r.drop _) d (by simp only [Nt.okX]; try omega)).up hb).less (Nat.zero_le _)
    ·exact (.ok (Nat.zero_le _) (Nat.zero_le _))
  | prime =>
   cases r with
   | nil => exact .bad (Nat.zero_le _)
   | cons t r' =>
    simp only [parX]; split
    ·split
     ·next hs =>
      have := ((IH (.many sRp) ((t :: r').drop 1) d (isS_some hs)).up (n := 1) (by simp))
      refine this.and fun _ h1 h2 => ?_; exact (.ok (h2) (by simp only [Nt.least] at *; omega))
     ·exact (.ok (by simp) (Nat.le_refl _))
    ·split
     ·exact (.ok (by simp) (Nat.le_refl _))
     ·split
      ·split
       ·exact fun _ => ⟨Nat.zero_le _, fun e => by cases e⟩
       ·exact (.ok (by simp) (Nat.le_refl _))
      ·split
       ·refine (IH (.many sRb) (t :: r') d (by simp [Nt.okX])).and fun _ h1 h2 => ?_
        exact (.ok (h2) (h1))
       ·split
        ·split
         ·exact .deep (Nat.zero_le _)
         ·refine ((IH .choice ((t :: r').drop 1) (d + 1) (by simp only [Nt.okX]; try omega)).up (n := 1) (by simp)).and fun _ h1 h2 => ?_
          simp only [Nt.least] at h1; split
          ·exact .bad h2
          ·next hb => exact (.ok (len_drop1 (isS_none hb)) (by simp only [Nt.least] at *; omega))
        ·exact .bad (Nat.zero_le _)
  | many s =>
   have hl : 1 <= r.length := ht; rw [parX]; split
   ·exact .deep (Nat.zero_le _)
   ·split
    ·next hs => exact (.ok (len_drop1 (isS_some hs)) (by simp only [Nt.least] at *; omega))
    ·exact ((IH (.mloop s []) (r.drop 1) d (by simp only [Nt.okX]; try omega)).up hl).less (by simp only [Nt.least]; omega)
  | mloop s l =>
   rw [parX]; refine (IH .choice r (d + 1) (by simp only [Nt.okX]; try omega)).and fun _ h1 h2 => ?_
   simp only [Nt.least] at h1; split
   ·next hs =>
    have hs := len_drop1 (isS_some hs); exact ((IH (.mloop s _) (r.drop _) d (by simp only [Nt.okX]; try omega)).up hs).less (by simp only [Nt.least]; omega)
   ·split
    ·next hs => exact (.ok (len_drop1 (isS_some hs)) (by simp only [Nt.least] at *; omega))
    ·exact .bad h2
end Go.Proofs.YtbcdaaobbebooaaGreatDoor
namespace Go.Proofs.YtbcdaaobbebooaaGreatDoor
set_option maxRecDepth 100000
set_option maxHeartbeats 20000000
def amongB (t : Tok) (all : List UInt8) : Bool := decide (t.kind = 4) && (match t.text.data.toList with | [c] => all.contains c | _ => false)
def comB (t : Tok) : Bool := decide (t.kind = 6) || decide (t.kind = 7)
def wordB (t : Tok) : Bool := decide (t.kind = 1) || (decide (t.kind = 2) || decide (t.kind = 3))
def behL : List Tok -> Bool
 | [] => false
 | t :: r => if comB t then behL r else decide (t.kind = 4) && !amongB t [41, 93]
def behB (row : List Tok) (i : Nat) : Bool := behL (row.take i).reverse
def gapT (a b : Tok) (m : Bool) : Nat :=
 if comB a || comB b then 1
 else if amongB a [40, 91, 46] || amongB b [41, 93, 44, 46] then 0
 else if amongB b [40] && decide (a.kind = 1) then 0
 else if amongB b [91] && (wordB a || amongB a [41, 93]) then 0
 else if amongB a [33] || (amongB a [45] && m) then 0
 else if amongB a [123] && amongB b [125] then 0
 else 1
def gapN (row : List Tok) : Nat -> Nat
 | 0 => 0
 | i + 1 => match row[i]?, row[i + 1]? with
  | some a, some b => gapT a b (behB row i)
  | _, _ => 0
def isB (t : Tok) (w : ByteArray) : Bool := decide (t.kind = 4) && decide (t.text = w)
theorem among_one (t : Tok) (c : UInt8) : amongB t [c] = isB t (strL [c]) := by
 unfold amongB isB
 congr 1
 by_cases h : t.text = strL [c]
 ·rw [decide_eq_true h, h]
  simp [strL]
 ·rw [decide_eq_false h]
  split
  ·next x hx =>
   simp only [List.contains_cons, List.contains_nil, Bool.or_false]
   by_cases e : x = c
   ·exact absurd (str_ext (by rw [hx, e]; rfl)) h
   ·simpa using e
  ·rfl
theorem among_cons (t : Tok) (c : UInt8) (r : List UInt8) : amongB t (c :: r) = (isB t (strL [c]) || amongB t r) := by
 rw [<- among_one]; unfold amongB; cases decide (t.kind = 4)
 ·rfl
 ·simp only [Bool.true_and]
  split
  ·simp
  ·rfl
theorem among_nil (t : Tok) : amongB t [] = false := by
 unfold amongB; split <;> simp
end Go.Proofs.YtbcdaaobbebooaaGreatDoor
namespace Go.Proofs.YtbcdaaobbebooaaGreatDoor
set_option maxRecDepth 100000
set_option maxHeartbeats 20000000
open Go.RowKit Go.Tab
theorem list_inj {a b : ByteArray} (h : a.toList = b.toList) : a = b :=
 ByteArray.ext (Array.ext' (by rw [ByteArray.toList_eq, ByteArray.toList_eq] at h; exact h))
theorem str_ne {a b : ByteArray} (h : ¬ a = b) : (a.toList == b.toList) = false := by
 rw [beq_eq_false_iff_ne]; exact fun h1 => h (list_inj h1)
theorem cell_same {w w' : World} {b : Nat} (h : w'.heap[b]? = w.heap[b]?) (off : Nat) : w'.cell? ⟨b, off, none⟩ = w.cell? ⟨b, off, none⟩ := by
 simp only [World.cell?, h]
theorem frozen_same {w w' : World} {b : Nat} (h : w'.heap[b]? = w.heap[b]?) (off : Nat) : w'.frozen? ⟨b, off, none⟩ = w.frozen? ⟨b, off, none⟩ := by
 simp only [World.frozen?, h]
theorem len3 {α : Type} {l : List α} (h : l.length = 3) : ∃ a b c, l = [a, b, c] := by
 match l, h with
 | [a, b, c], _ => exact ⟨a, b, c, rfl⟩
section
variable {P : Program} {w : World} {ops : Array Oper} {rest : List Oper} {o : Oper} {a : Act} {Q : Exit -> Act -> World -> Prop}
theorem wpList_make_all (hgd : Region.wanted o (yielded ops a.tmps) = true) (l c : Operand) (t : TypeId) (hop : o.op = .makeSlice t l c)
  (e : TypeId) (bytes size : Nat) (z : Value) (ht : P.underlying t = some (.slice e)) (hi : (P.info? e).map (fun i => (i.zero, i.size, i.bytes)) = some (some z, size, bytes))
  (kl kc : IntKind) (n : Nat) (hl : a.eval l = .int kl (n : Int)) (hc : a.eval c = .int kc (n : Int)) (hby : bytes * n <= 281474976710656) (hm : n <= maxLen)
  (hK : ∀ (M : Array Value) (w' : World), M.size = n * size -> w' = w.alloc (.cells M e) -> wpList P ops Q rest (a.put o.dst (.slice (some ⟨w.heap.size, 0, none⟩) n n)) w') : wpList P ops Q (o :: rest) a w := by
 obtain ⟨i, hi1, hi2⟩ := Option.map_eq_some_iff.1 hi; simp only [Prod.mk.injEq] at hi2; obtain ⟨hz, hs, hb⟩ := hi2; refine wpList_want hgd fun K hK' => ?_
 have hb' : (i.bytes : Int) * (n : Int) <= 281474976710656 := by
  have h : ((i.bytes * n : Nat) : Int) <= 281474976710656 := by rw [hb]; omega
  rwa [Int.natCast_mul] at h
 have hr := run_make (P := P) w t e i z ht hi1 hz kl kc n n (by omega) (Int.le_refl _) hb' (by simp [maxLen] at hm; omega)
 simp only [Int.toNat_natCast, hs] at hr; unfold Oper.wp; simp [execOp, hop, hl, hc, hr, Result.andThen]
 exact hK' _ _ (hK _ _ (size_madeCells _ _) rfl)
end
def setAll (w : World) (B : Nat) : Nat -> List Value -> World
 | _, [] => w
 | o, v :: r => setAll (w.setCell ⟨B, o, none⟩ v) B (o + 1) r
def putAll : Array Value -> Nat -> List Value -> Array Value
 | arr, _, [] => arr
 | arr, o, v :: r => putAll (arr.setIfInBounds o v) (o + 1) r
theorem Cells.setI {w : World} {B : Nat} {arr : Array Value} {T : TypeId} (h : Cells w B arr T) (o : Nat) (v : Value) : Cells (w.setCell ⟨B, o, none⟩ v) B (arr.setIfInBounds o v) T := by
 obtain ⟨hlt, hk⟩ := Array.getElem?_eq_some_iff.1 h; show (w.heap.modify B _)[B]? = _; rw [Array.getElem?_eq_getElem (by rw [Array.size_modify]; exact hlt), Array.getElem_modify_self, hk]
 simp
theorem Cells.put {B : Nat} {T : TypeId} : ∀ (cs : List Value) (o : Nat) {w : World} {arr : Array Value}, Cells w B arr T -> Cells (setAll w B o cs) B (putAll arr o cs) T
 | [], _, _, _, h => h
 | v :: r, o, _, _, h => Cells.put r (o + 1) (h.setI o v)
theorem setAll_other (B : Nat) : ∀ (cs : List Value) (o : Nat) (w : World) (k : Nat), k ≠ B -> (setAll w B o cs).heap[k]? = w.heap[k]?
 | [], _, _, _, _ => rfl
 | v :: r, o, w, k, h => by
  rw [setAll, setAll_other B r _ _ _ h]; exact Below.heap_setCell _ _ _ _ h
theorem setAll_size (B : Nat) : ∀ (cs : List Value) (o : Nat) (w : World), (setAll w B o cs).heap.size = w.heap.size
 | [], _, _ => rfl
 | v :: r, o, w => by rw [setAll, setAll_size B r]; simp [World.setCell]
theorem setAll_below (B L : Nat) (hL : L <= B) : ∀ (cs : List Value) (o : Nat) (w w' : World), Below L w w' -> Below L w (setAll w' B o cs)
 | [], _, _, _, h => h
 | v :: r, o, w, w', h => setAll_below B L hL r _ _ _ (h.setCell (by exact hL) _)
theorem Cells.setAllOther {w : World} {B g o : Nat} {cs : Array Value} {T : TypeId} {l : List Value} (h : Cells w g cs T) (hne : g ≠ B) : Cells (setAll w B o l) g cs T := (setAll_other B l o w g hne).trans h
def Save (g : Nat) (w w' : World) : Prop := Below 0 w w' /\ ∀ k, k < w.heap.size -> k ≠ g -> w'.heap[k]? = w.heap[k]?
section
variable {g : Nat} {w w' w'' : World}
theorem Save.size (h : Save g w w') : w.heap.size <= w'.heap.size := h.1.size
theorem Save.refl (g : Nat) (w : World) : Save g w w := ⟨Below.refl _ _, fun _ _ _ => rfl⟩
theorem Save.trans (h : Save g w w') (h2 : Save g w' w'') : Save g w w'' :=
 ⟨h.1.trans h2.1, fun k hk hn => (h2.2 k (Nat.lt_of_lt_of_le hk h.size) hn).trans (h.2 k hk hn)⟩
theorem Save.of (h : Below w.heap.size w w') : Save g w w' := ⟨h.mono (Nat.zero_le _), fun k hk _ => h.block k hk⟩
theorem Save.drew (h : Save g w w') : Save g w w'.drew := ⟨h.1.drew, h.2⟩
theorem Save.drewN (h : Save g w w') (n : Nat) : Save g w (w'.drewN n) := ⟨below_drewN h.1 n, h.2⟩
theorem Save.alloc (h : Save g w w') (o : Obj) : Save g w (w'.alloc o) := h.trans (Save.of ((Below.refl _ _).alloc (Nat.le_refl _) _))
theorem Save.set (h : Save g w w') (j : Nat) (v : Value) : Save g w (w'.setCell ⟨g, j, none⟩ v) :=
 ⟨h.1.setCell (Nat.zero_le _) _, fun k hk hn => (Below.heap_setCell _ _ _ _ hn).trans (h.2 k hk hn)⟩
theorem Save.grown {row : Option Nat} (h : Save g w w') (hg : w'.grownBy w'' row) (hr : ∀ k, row = some k -> w.heap.size <= k) : Save g w w'' :=
 ⟨h.1.grown hg (Nat.zero_le _) (fun _ _ => Nat.zero_le _), fun k hk hn => (hg.block k (Nat.lt_of_lt_of_le hk h.size) (fun e => by have := hr k e.symm; omega)).trans (h.2 k hk hn)⟩
theorem Save.cells {k : Nat} {cs : Array Value} {t : TypeId} (h : Save g w w') (hc : Cells w k cs t) (hk : k ≠ g) : Cells w' k cs t := (h.2 k hc.lt hk).trans hc
theorem Save.cell {k off : Nat} {v : Value} (h : Save g w w') (hc : w.cell? ⟨k, off, none⟩ = some v) (hk : k ≠ g) : w'.cell? ⟨k, off, none⟩ = some v :=
 (cell_same (h.2 k (World.block_lt_of_cell? w _ hc) hk) off).trans hc
theorem Save.under {B : Nat} (h : Save g w w') (h1 : B <= g) (h2 : B <= w.heap.size) : Below B w w' := ⟨h.1.os, h.1.tape, h.1.output, h.size, fun k hk => h.2 k (by omega) (by omega)⟩
theorem Save.chain {w0 : World} (h : Save g w w') (hb : Below w0.heap.size w0 w) (h1 : w0.heap.size <= g) : Below w0.heap.size w0 w' := hb.trans (h.under h1 hb.size)
end
end Go.Proofs.YtbcdaaobbebooaaGreatDoor
namespace Go.Proofs.YtbcdaaobbebooaaGreatDoor
set_option maxRecDepth 100000
set_option maxHeartbeats 20000000
open Go.RowKit Go.Tab Go.ChangeShapes
abbrev expV (o t : ByteArray) (kv : Value) : List Value := [.string o, .string t, kv]
abbrev exV (o t : ByteArray) (kv : Value) : Value := .agg #[.string o, .string t, kv]
mutual
def ExpAt (w : World) : Exp -> List Value -> Prop
 | .mk op text kids, cs => ∃ a cap, cs = [.string op, .string text, .slice a kids.length cap] /\
   kids.length <= cap /\ cap <= maxLen /\ (a = none -> cap = 0) /\ ∀ x, a = some x -> kids ≠ [] -> x.spot = none /\ x.block < w.heap.size /\ ExpsAt w x.block x.off kids
def ExpsAt (w : World) (b off : Nat) : List Exp -> Prop
 | [] => True
 | t :: r => (∃ cs, (∀ j u, cs[j]? = some u -> w.cell? ⟨b, off + j, none⟩ = some u) /\ ExpAt w t cs) /\ ExpsAt w b (off + 3) r
end
theorem ExpAt.shape {w : World} {t : Exp} {cs : List Value} (h : ExpAt w t cs) : ∃ op text sa sn sc, cs = [.string op, .string text, .slice sa sn sc] := by
 cases t
 simp only [ExpAt] at h; obtain ⟨a, cap, rfl, -⟩ := h; exact ⟨_, _, _, _, _, rfl⟩
section
variable {H : Type} {enc : TypeId × Value -> H} {W : World} {base : Nat} {spare : Nat -> Bool} {held : Bool}
end
end Go.Proofs.YtbcdaaobbebooaaGreatDoor
namespace Go.Proofs.YtbcdaaobbebooaaGreatDoor
set_option maxRecDepth 100000
set_option maxHeartbeats 20000000
open Go.RowKit Go.Tab
mutual
def ExpIn (P : Nat -> Prop) (w : World) : Exp -> List Value -> Prop
 | .mk op text kids, cs => ∃ a cap, cs = [.string op, .string text, .slice a kids.length cap] /\
   kids.length <= cap /\ cap <= maxLen /\ (a = none -> cap = 0) /\ ∀ x, a = some x -> kids ≠ [] -> x.spot = none /\ (x.block < w.heap.size /\ P x.block /\ ∀ off, w.frozen? ⟨x.block, off, none⟩ = false) /\ ExpsIn P w x.block x.off kids
def ExpsIn (P : Nat -> Prop) (w : World) (b off : Nat) : List Exp -> Prop
 | [] => True
 | t :: r => (∃ cs, (∀ j u, cs[j]? = some u -> w.cell? ⟨b, off + j, none⟩ = some u) /\ ExpIn P w t cs) /\ ExpsIn P w b (off + 3) r
end
mutual
theorem ExpIn.at {P : Nat -> Prop} {w : World} : ∀ (t : Exp) (cs : List Value), ExpIn P w t cs -> ExpAt w t cs
 | .mk op text kids, cs, h => by
  simp only [ExpIn] at h; simp only [ExpAt]; obtain ⟨a, cap, h1, h3, h4, h5, h6⟩ := h; refine ⟨a, cap, h1, h3, h4, h5, fun x hx hne => ?_⟩; obtain ⟨g1, g2, g3⟩ := h6 x hx hne; exact ⟨g1, g2.1, ExpsIn.at kids x.off g3⟩
theorem ExpsIn.at {P : Nat -> Prop} {w : World} {b : Nat} : ∀ (l : List Exp) (off : Nat), ExpsIn P w b off l -> ExpsAt w b off l
 | [], _, _ => by simp only [ExpsAt]
 | t :: r, off, h => by
  simp only [ExpsIn] at h; simp only [ExpsAt]; obtain ⟨⟨cs, h1, h2⟩, h3⟩ := h; exact ⟨⟨cs, h1, ExpIn.at t cs h2⟩, ExpsIn.at r _ h3⟩
end
mutual
theorem ExpIn.move {P Q : Nat -> Prop} {w w' : World} (hs : w.heap.size <= w'.heap.size) (hb : ∀ k, P k -> k < w.heap.size -> w'.heap[k]? = w.heap[k]?) (hq : ∀ k, P k -> k < w.heap.size -> Q k) :
  ∀ (t : Exp) (cs : List Value), ExpIn P w t cs -> ExpIn Q w' t cs
 | .mk op text kids, cs, h => by
  simp only [ExpIn] at h ⊢; obtain ⟨a, cap, h1, h3, h4, h5, h6⟩ := h; refine ⟨a, cap, h1, h3, h4, h5, fun x hx hne => ?_⟩; obtain ⟨g1, g2, g3⟩ := h6 x hx hne; exact ⟨g1, ⟨Nat.lt_of_lt_of_le g2.1 hs, hq _ g2.2.1 g2.1, fun off => (frozen_same (hb _ g2.2.1 g2.1) off).trans (g2.2.2 off)⟩, ExpsIn.move hs hb hq ⟨g2.1, g2.2.1⟩ kids x.off g3⟩
theorem ExpsIn.move {P Q : Nat -> Prop} {w w' : World} (hs : w.heap.size <= w'.heap.size) (hb : ∀ k, P k -> k < w.heap.size -> w'.heap[k]? = w.heap[k]?) (hq : ∀ k, P k -> k < w.heap.size -> Q k) {b : Nat} (hP : b < w.heap.size /\ P b) :
  ∀ (l : List Exp) (off : Nat), ExpsIn P w b off l -> ExpsIn Q w' b off l
 | [], _, _ => by simp only [ExpsIn]
 | t :: r, off, h => by
  simp only [ExpsIn] at h ⊢; obtain ⟨⟨cs, h1, h2⟩, h3⟩ := h; exact ⟨⟨cs, fun j u hu => (cell_same (hb b hP.2 hP.1) _).trans (h1 j u hu), ExpIn.move hs hb hq t cs h2⟩, ExpsIn.move hs hb hq hP r _ h3⟩
end
theorem ExpsIn.make {P : Nat -> Prop} {w : World} {b : Nat} : ∀ (l : List Exp) (off : Nat), (∀ k (h : k < l.length), ∃ cs, (∀ j u, cs[j]? = some u -> w.cell? ⟨b, off + k * 3 + j, none⟩ = some u) /\ ExpIn P w l[k] cs) -> ExpsIn P w b off l
 | [], _, _ => by simp only [ExpsIn]
 | t :: r, off, h => by
  simp only [ExpsIn]; constructor
  ·obtain ⟨cs, h1, h2⟩ := h 0 (by simp)
   exact ⟨cs, fun j u hu => by have := h1 j u hu; simpa using this, by simpa using h2⟩
  ·refine ExpsIn.make r (off + 3) (fun k hk => ?_)
   obtain ⟨cs, h1, h2⟩ := h (k + 1) (by simp; omega)
   refine ⟨cs, fun j u hu => ?_, by simpa using h2⟩
   rw [<- h1 j u hu]
   congr 2
   omega
theorem ExpIn.below {P : Nat -> Prop} {w w' : World} (hb : Below w.heap.size w w') (t : Exp) (cs : List Value) (h : ExpIn P w t cs) : ExpIn P w' t cs :=
 ExpIn.move hb.size (fun k _ hk => hb.block k hk) (fun _ h _ => h) t cs h
theorem ExpIn.len3 {P : Nat -> Prop} {w : World} {t : Exp} {cs : List Value} (h : ExpIn P w t cs) : cs.length = 3 := by
 cases t
 simp only [ExpIn] at h; obtain ⟨a, cap, rfl, -⟩ := h; rfl
theorem ExpIn.shape {P : Nat -> Prop} {w : World} {t : Exp} {cs : List Value} (h : ExpIn P w t cs) : ∃ op text sa sn sc, cs = [.string op, .string text, .slice sa sn sc] := (ExpIn.at _ _ h).shape
theorem ExpIn.leaf (P : Nat -> Prop) (w : World) (o t : ByteArray) : ExpIn P w (.mk o t []) [.string o, .string t, .slice none 0 0] := by
 simp only [ExpIn]; exact ⟨none, 0, rfl, Nat.le_refl _, Nat.zero_le _, fun _ => rfl, fun x hx => by cases hx⟩
theorem ExpIn.node {base : Nat} {w : World} {o t : ByteArray} {kids : List Exp} {b cap : Nat} (hb : base <= b) (hlt : b < w.heap.size) (hf : ∀ off, w.frozen? ⟨b, off, none⟩ = false) (hc : kids.length <= cap) (hm : cap <= maxLen)
  (h : ∀ k (h : k < kids.length), ∃ cs, (∀ j u, cs[j]? = some u -> w.cell? ⟨b, k * 3 + j, none⟩ = some u) /\ ExpIn (fun k => base <= k) w kids[k] cs) :
  ExpIn (fun k => base <= k) w (.mk o t kids) [.string o, .string t, .slice (some ⟨b, 0, none⟩) kids.length cap] := by
 simp only [ExpIn]; refine ⟨some ⟨b, 0, none⟩, cap, rfl, hc, hm, (fun h => by cases h), fun x hx _ => ?_⟩
 cases hx
 exact ⟨rfl, ⟨hlt, hb, hf⟩, ExpsIn.make kids 0 (fun k hk => by
  obtain ⟨cs, h1, h2⟩ := h k hk
  exact ⟨cs, fun j u hu => by rw [Nat.zero_add]; exact h1 j u hu, h2⟩)⟩
abbrev OwnU := OwnOf byteV 5
theorem Tryz.uPB : Tryz.prog.underlying 66 = some (.pointer 69) := by kernel_rfl
theorem Tryz.uUP : Tryz.prog.underlying 200 = some .unsafePointer := by kernel_rfl
theorem Tryz.uBytes : Tryz.prog.underlying 67 = some (.slice 5) := by kernel_rfl
theorem Tryz.uStr : Tryz.prog.underlying 9 = some .string := by kernel_rfl
theorem Tryz.infoU8 : (Tryz.prog.info? 5).map (fun i => (i.zero, i.size, i.bytes)) = some (some (.int .u8 0), 1, 1) := by kernel_rfl
theorem Tryz.sizeBld : (Tryz.prog.info? 69).map (·.size) = some 2 := by kernel_rfl
theorem Tryz.cellsU8 : Tryz.prog.cellsOf 5 = 1 := by kernel_rfl
theorem oneU (x : UInt8) : (byteV x).oneCell' = true := rfl
theorem lit_one (w : World) (c : UInt8) (n : Int) (hn : n = (c.toNat : Int)) (t : TypeId) : RowOf byteV (w.alloc (.cells #[.int .u8 n] t)) (.slice (some ⟨w.heap.size, 0, none⟩) 1 1) [c] := by
 refine ⟨_, 1, rfl, Nat.le_refl _, by decide, (fun h => by cases h), fun x hx _ => ?_⟩
 cases hx
 subst hn; refine ⟨rfl, by simp, fun j hj => ?_⟩
 obtain rfl : j = 0 := by simpa using hj
 rw [World.cell?_alloc_new]; rfl
structure Bld (T : TypeId) (base : Nat) (w : World) (g o : Nat) (cs : Array Value) (l : List UInt8) : Prop where
 cells : Cells w g cs T
 addr : cs[o]? = some (.pointer none) \/ cs[o]? = some (.pointer (some ⟨g, o, none⟩))
 buf : ∃ v, cs[o + 1]? = some v /\ OwnU base w v l
structure BldIn (T : TypeId) (n o : Nat) : Prop where
 ne : T ≠ 5
 lies : liesAt Tryz.prog Tryz.prog.depth T (n / Tryz.prog.cellsOf T) o 69 1 = true
 lt : o + 1 < n
def Used (g o : Nat) (cs cs' : Array Value) : Prop := cs'.size = cs.size /\ (∀ j, j ≠ o -> j ≠ o + 1 -> cs'[j]? = cs[j]?) /\ cs'[o]? = some (.pointer (some ⟨g, o, none⟩))
theorem copyCheck_any {T : TypeId} {base g o : Nat} {cs : Array Value} {l : List UInt8} (w : World) (h : Bld T base w g o cs l) (hI : BldIn T cs.size o) (hg : base <= g) :
  Calls Tryz.prog 147 #[.pointer (some ⟨g, o, none⟩)] w fun e w' => e = .returned (.tuple #[]) /\ ∃ cs', Bld T base w' g o cs' l /\ Used g o cs cs' /\ (∀ v, cs[o + 1]? = some v -> cs'[o + 1]? = some v) /\ w.grownBy w' (some g) := by
 obtain ⟨hc, ha, v, hv, hown⟩ := h; obtain ⟨j, hj, hjs⟩ := Option.map_eq_some_iff.1 Tryz.sizeBld; rcases ha with ha | ha
 ·have h0 := hc.cell o _ ha
  have hf := hc.frozen o; have hsh := hc.shape; have hlt := hI.lt; have hu1 := Lib.run_to_unsafe w ⟨g, o, none⟩ Tryz.uPB Tryz.uUP hj (by rw [hjs]; decide) hsh (by show o < cs.size; omega)
  have hu2 := Lib.run_from_unsafe w ⟨g, o, none⟩ Tryz.uUP Tryz.uPB hj hsh hI.lies; go_enter Tryz.func147, Tryz.ntmps147; go_wp2; rw [run_callFunc_extern Tryz.func173 (by kernel_rfl) (by kernel_rfl) (by kernel_rfl) (e := Extern.AbiNoEscape.same) (by kernel_rfl)]
  rw [Lib.run_noEscape]; simp only [Result.andThen]; rw [Oper.upon_value]; go_wp2; go_end0
  have hgs := grownBy_setAt w g o (.pointer (some ⟨g, o, none⟩)); refine ⟨rfl, _, ⟨hc.set o (by omega) _, .inr (by simp), v, by rw [Array.getElem?_set_ne (by omega) (by omega)]; exact hv, hown.kept hgs (.inr (own_ne_box hown hc hI.ne))⟩, ⟨by simp, fun k h1 _ => by rw [Array.getElem?_set_ne (by omega) (fun e => h1 e.symm)], by simp⟩, fun u hu => by rw [Array.getElem?_set_ne (by omega) (by omega)]; exact hu, hgs⟩
 ·have h0 := hc.cell o _ ha
  have hnq := Lib.run_neq_ptr_same w ⟨g, o, none⟩ Tryz.uPB hj; go_enter Tryz.func147, Tryz.ntmps147; go_wp2; go_end0
  exact ⟨rfl, cs, ⟨hc, .inr ha, v, hv, hown⟩, ⟨rfl, fun _ _ _ => rfl, ha⟩, fun _ h => h, World.grownBy.refl _ _⟩
theorem Used.trans {g o : Nat} {a b c : Array Value} (h : Used g o a b) (h2 : Used g o b c) : Used g o a c :=
 ⟨h2.1.trans h.1, fun j h3 h4 => (h2.2.1 j h3 h4).trans (h.2.1 j h3 h4), h2.2.2⟩
theorem Bld.put {T : TypeId} {base g o : Nat} {cs : Array Value} {l' : List UInt8} {w : World} {v' : Value} (h : Cells w g cs T) (hI : BldIn T cs.size o) (ha : cs[o]? = some (.pointer (some ⟨g, o, none⟩))) (hown : OwnU base w v' l') :
  ∃ cs', Bld T base (w.setCell ⟨g, o + 1, none⟩ v') g o cs' l' /\ Used g o cs cs' := by
 have hlt := hI.lt; refine ⟨_, ⟨h.set (o + 1) hlt v', .inr (by rw [Array.getElem?_set_ne hlt (by omega)]; exact ha), v', by simp, hown.setOther _ _ (fun e => own_ne_box hown h hI.ne e)⟩, by simp, fun j h1 h2 => by rw [Array.getElem?_set_ne hlt (fun e => h2 e.symm)], by rw [Array.getElem?_set_ne hlt (by omega)]; exact ha⟩
theorem WriteByte_any {T : TypeId} {base g o : Nat} {cs : Array Value} {l : List UInt8} (w : World) (c : UInt8) (n : Int) (hn : n = (c.toNat : Int)) (h : Bld T base w g o cs l) (hI : BldIn T cs.size o) (hg : base <= g) (hlen : l.length <= 1000000000) :
  Calls Tryz.prog 183 #[.pointer (some ⟨g, o, none⟩), .int .u8 n] w fun e w' => e = .returned .nilIface /\ ∃ cs', Bld T base w' g o cs' (l ++ [c]) /\ Used g o cs cs' /\ Below base w w' /\ Beside 5 g w w' := by
 have hb0 : base <= w.heap.size := by have := h.cells.lt; omega
 subst hn; go_enter Tryz.func183, Tryz.ntmps183; go_wp2_with fail; refine (copyCheck_any w h hI hg).mono ?_; rintro e w1 ⟨rfl, cs1, h1, hU, hbuf, hg1⟩; have hb1 : Below base w w1 := grown_below hg1 hb0 (fun k hk => by cases hk; exact hg)
 have hz1 := hg1.size; obtain ⟨hc1, ha1, v, hv, hown⟩ := h1; have hk1 := hc1.cell (o + 1) _ hv; go_wp2_with (with_reducible first | refine stop_append ?_ | refine stop_make ?_ | refine stop_slice ?_ | refine stop_copy ?_); refine Stop.out ?_
 refine wpList_append_row (f := byteV) rfl _ _ 67 rfl base 5 1 _ Tryz.uBytes Tryz.infoU8 rfl oneU l [c] (by exact hown.alloc _) (by exact lit_one w1 c _ rfl _) (by unfold maxLen; simp; omega) (by simp; omega) (by simp; omega) w (by exact hb1.alloc (by omega) _) ?_
 intro v2 w2 ho2 hb2 hg2; obtain ⟨a2, n2, c2, rfl, -⟩ := ho2.row.shape; have hc2 := (hc1.alloc (.cells #[.int .u8 (c.toNat : Int)] 5)).kept hg2 (fun e => (own_ne_box hown hc1 (by exact hI.ne)) e.symm)
 have hB2 : Beside 5 g w w2 := (((Beside.refl.grown hg1 (fun k hk => .inl (by cases hk; rfl))).alloc (.cells #[.int .u8 (c.toNat : Int)] 5)).grown hg2 (fun k hk => .inr (own_is_row (hown.alloc (.cells #[.int .u8 (c.toNat : Int)] 5)) k hk)))
 have hf2 := hc2.frozen (o + 1); have hd2 := hc2.cell (o + 1) _ hv; have hsz : cs1.size = cs.size := hU.1; obtain ⟨cs3, h3, hU3⟩ := Bld.put hc2 (by rw [hsz]; exact hI) hU.2.2 ho2
 have hb3 := hb2.setCell (p := ⟨g, o + 1, none⟩) hg (.slice a2 n2 c2); have hB3 := hB2.setCell (o + 1) (.slice a2 n2 c2); clear hB2; go_wp2; go_ret; exact ⟨rfl, cs3, h3, hU.trans hU3, hb3, hB3⟩
theorem wpList_append_str {P : Program} {w : World} {ops : Array Oper} {rest : List Oper} {o : Oper} {a : Act} {Q : Exit -> Act -> World -> Prop} (hgd : o.guard = none) (sl x : Operand) (t u : TypeId)
  (ho : o.op = .call { callee := .builtin .append, args := #[sl, x], argTypes := #[t, u] }) (base : Nat) (e : TypeId) (ht : P.underlying t = some (.slice e)) (hu : P.underlying u = some .string)
  (hi : (P.info? e).map (fun i => (i.zero, i.size, i.bytes)) = some (some (.int .u8 0), 1, 1)) (l : List UInt8) (hown : OwnOf byteV e base w (a.eval sl) l) (s : ByteArray) (hx : a.eval x = .string s)
  (hlen : l.length + s.size <= 2000000000) (hbase : base <= w.heap.size) (w0 : World) (hb : Below base w0 w)
  (hK : ∀ v' w', OwnOf byteV e base w' v' (l ++ s.data.toList) -> Below base w0 w' -> w.grownBy w' (a.eval sl).ownBlock -> wpList P ops Q rest (a.put o.dst v') w') : wpList P ops Q (o :: rest) a w := by
 obtain ⟨i, hi1, hi2, hi3, hi4⟩ := info_parts hi; refine Lib.wpList_append_own_string w hgd sl x t u ho base e i ht hu hi1 hi2 hi3 hi4 (a.eval sl) l.length (l.map byteV) rfl hown s hx (by unfold maxLen; omega) (by omega) hbase ?_
 intro v' w' hown' hg _; refine hK v' w' ?_ (hb.trans (grown_below hg hbase (fun k hk => (World.ownsRow.lt hown k hk).1))) hg; unfold OwnOf; rw [show (l ++ s.data.toList).length = l.length + s.size by rw [List.length_append]; rfl, List.map_append]
 exact hown'
theorem WriteString_any {T : TypeId} {base g o : Nat} {cs : Array Value} {l : List UInt8} (w : World) (s : ByteArray) (h : Bld T base w g o cs l) (hI : BldIn T cs.size o) (hg : base <= g) (hlen : l.length + s.size <= 1000000000) :
  Calls Tryz.prog 113 #[.pointer (some ⟨g, o, none⟩), .string s] w fun e w' => e = .returned (.tuple #[.int .i64 s.size, .nilIface]) /\ ∃ cs', Bld T base w' g o cs' (l ++ s.data.toList) /\ Used g o cs cs' /\ Below base w w' /\ Beside 5 g w w' := by
 have hb0 : base <= w.heap.size := by have := h.cells.lt; omega
 go_enter Tryz.func113, Tryz.ntmps113; go_wp2_with fail; refine (copyCheck_any w h hI hg).mono ?_; rintro e w1 ⟨rfl, cs1, h1, hU, hbuf, hg1⟩; have hb1 : Below base w w1 := grown_below hg1 hb0 (fun k hk => by cases hk; exact hg)
 have hz1 := hg1.size; obtain ⟨hc1, ha1, v, hv, hown⟩ := h1; have hk1 := hc1.cell (o + 1) _ hv; go_wp2_with (with_reducible first | refine stop_append ?_ | refine stop_make ?_ | refine stop_slice ?_ | refine stop_copy ?_); refine Stop.out ?_
 refine wpList_append_str rfl _ _ 67 9 rfl base 5 Tryz.uBytes Tryz.uStr Tryz.infoU8 l (by exact hown) s rfl (by omega) (by omega) w (by exact hb1) ?_
 intro v2 w2 ho2 hb2 hg2; obtain ⟨a2, n2, c2, rfl, -⟩ := ho2.row.shape; have hc2 := hc1.kept hg2 (fun e => (own_ne_box hown hc1 (by exact hI.ne)) e.symm)
 have hB2 : Beside 5 g w w2 := ((Beside.refl.grown hg1 (fun k hk => .inl (by cases hk; rfl))).grown hg2 (fun k hk => .inr (own_is_row hown k hk)))
 have hf2 := hc2.frozen (o + 1); have hd2 := hc2.cell (o + 1) _ hv; have hsz : cs1.size = cs.size := hU.1; obtain ⟨cs3, h3, hU3⟩ := Bld.put hc2 (by rw [hsz]; exact hI) hU.2.2 ho2
 have hb3 := hb2.setCell (p := ⟨g, o + 1, none⟩) hg (.slice a2 n2 c2); have hB3 := hB2.setCell (o + 1) (.slice a2 n2 c2); clear hB2; go_wp2; go_ret2
 exact ⟨rfl, cs3, h3, hU.trans hU3, hb3, hB3⟩
theorem Tryz.uPU8 : Tryz.prog.underlying 111 = some (.pointer 5) := by kernel_rfl
theorem freeze_other (w : World) (p : Addr) (n k : Nat) (hk : k ≠ p.block) : (w.freeze p n).heap[k]? = w.heap[k]? := by
 unfold World.freeze; split
 ·rfl
 ·simp only [Array.getElem?_modify]
  rw [if_neg (fun e => hk e.symm)]
theorem String_any {T : TypeId} {base g o : Nat} {cs : Array Value} {l : List UInt8} (w : World) (h : Bld T base w g o cs l) (hg : base <= w.heap.size) (hlen : l.length <= 1000000000) :
  Calls Tryz.prog 43 #[.pointer (some ⟨g, o, none⟩)] w fun e w' => e = .returned (.string ⟨l.toArray⟩) /\ Below base w w' /\ ∀ k o', k < w.heap.size -> w.heap[k]? = some o' -> (∀ cs fr, o' ≠ .cells cs 5 fr) -> w'.heap[k]? = some o' := by
 obtain ⟨hc, ha, v, hv, hown⟩ := h; have hUS : ∀ (W : World) (q : Option Addr), (Builtin.unsafeString_ #[111, 3] 9 #[.pointer q, .int .i64 0]).run Tryz.prog W = .ok (.string .empty) W := fun W q => Lib.run_unsafeString_none W _ _ _ q; have c1 := hc.drew.cell (o + 1) _ hv; rcases hown.2 with ⟨rfl, hl⟩ | ⟨b, cap, cur, rfl, hbb, hb, hnc, hcm, hcs, htake⟩
 ·have hl0 : l = [] := List.eq_nil_of_length_eq_zero hl
  subst hl0; have hSD : (Builtin.unsafeSliceData_ #[67] 111 #[.slice none 0 0]).run Tryz.prog w.drew = .ok (.pointer none) w.drew := rfl; go_enter Tryz.func43, Tryz.ntmps43; go_wp2; go_region
  all_goals (go_wp2; go_ret; exact ⟨rfl, Below.drew (Below.refl base w), fun k o' _ h _ => h⟩)
 ·by_cases hl0 : l = []
  ·subst hl0
   clear hown htake
   by_cases hcap : cap = 0
   ·subst hcap
    have hSD : (Builtin.unsafeSliceData_ #[67] 111 #[.slice (some ⟨b, 0, none⟩) 0 0]).run Tryz.prog w.drew = .ok (.pointer (some ⟨w.drew.heap.size, 0, none⟩)) (w.drew.alloc (.view ⟨b, 0, none⟩ 5)) :=
     Lib.run_unsafeSliceData_zero w.drew _ _ 5 Tryz.uPU8 ⟨b, 0, none⟩ 0 (5, cur.size) (by have hg' : w.drew.heap[b]? = some (.cells cur 5 (0, 0)) := hb; simp [World.shape?, hg'])
    have c2 := (hc.drew.alloc (.view ⟨b, 0, none⟩ 5)).cell (o + 1) _ hv; have c3 : (w.alloc (.view ⟨b, 0, none⟩ 5)).drew.cell? ⟨g, o + 1, none⟩ = some (.slice (some ⟨b, 0, none⟩) 0 0) := c2; have c4 := hc.cell (o + 1) _ hv; simp only [List.length_nil] at c1 c2 c3 c4; go_enter Tryz.func43, Tryz.ntmps43; go_wp2; go_region
    all_goals
     go_wp2; go_ret; exact ⟨rfl, (Below.drew (Below.refl base w)).alloc hg _, fun k o' hk h _ => ((World.grownBy_alloc w.drew (.view ⟨b, 0, none⟩ 5) none).block k hk (by simp)).trans h⟩
   ·have hSD : (Builtin.unsafeSliceData_ #[67] 111 #[.slice (some ⟨b, 0, none⟩) 0 cap]).run Tryz.prog w.drew = .ok (.pointer (some ⟨b, 0, none⟩)) w.drew := Lib.run_unsafeSliceData_row _ _ _ _ _ _ hcap
    simp only [List.length_nil] at c1; clear hcap; go_enter Tryz.func43, Tryz.ntmps43; go_wp2; go_region
    all_goals (go_wp2; go_ret; exact ⟨rfl, Below.drew (Below.refl base w), fun k o' _ h _ => h⟩)
  ·have hl1 : l.length ≠ 0 := by simpa using hl0
   have hSD : (Builtin.unsafeSliceData_ #[67] 111 #[.slice (some ⟨b, 0, none⟩) l.length cap]).run Tryz.prog w.drew = .ok (.pointer (some ⟨b, 0, none⟩)) w.drew := Lib.run_unsafeSliceData_row _ _ _ _ _ _ (by omega)
   have hUS2 : (Builtin.unsafeString_ #[111, 3] 9 #[.pointer (some ⟨b, 0, none⟩), .int .i64 l.length]).run Tryz.prog w.drew = .ok (.string ⟨l.toArray⟩) (w.drew.freeze ⟨b, 0, none⟩ l.length) := by
    refine Lib.run_unsafeString_row w.drew 111 3 9 5 Tryz.uPU8 Tryz.cellsU8 b cur.size (by have hg' : w.drew.heap[b]? = some (.cells cur 5 (0, 0)) := hb; simp [World.shape?, hg']) l hl0 (by omega) (by omega) ?_
    intro j x hx; obtain ⟨hj, rfl⟩ := List.getElem?_eq_some_iff.1 hx; have := hown.cellAt j hj; rw [Addr.add_lit, Nat.zero_add]; exact this
   clear hown htake hl0 hl1; go_enter Tryz.func43, Tryz.ntmps43; go_wp2; go_region
   all_goals
    go_wp2; go_ret; refine ⟨rfl, Lib.below_freeze (Below.drew (Below.refl base w)) (p := ⟨b, 0, none⟩) hbb _, fun k o' _ h hn => ?_⟩; rw [freeze_other _ _ _ _ (by rintro rfl; rw [hb] at h; cases h; exact hn _ _ rfl)]
    exact h
def Tab (w : World) : Prop := ∀ j : Nat, j < 32 -> w.cell? ⟨1, j, none⟩ = some (.int .i64 (sizeOf8 (8 * j) : Nat))
theorem Tab.below {w w' : World} {B : Nat} (h : Tab w) (hb : Below B w w') (hB : 1 < B) : Tab w' := fun j hj => (hb.cell hB).trans (h j hj)
theorem Tab.pos {w : World} (h : Tab w) : 1 < w.heap.size := World.block_lt_of_cell? w _ (h 0 (by decide))
theorem size_same (a : Nat) : sizeOf8 (8 * (a / 8)) = sizeOf8 a := by
 unfold sizeOf8; have h1 : 8 * (a / 8) < 128 ↔ a < 128 := by omega
 have h2 : 8 * (a / 8) < 192 ↔ a < 192 := by omega
 have h3 : 8 * (a / 8) < 224 ↔ a < 224 := by omega
 have h4 : 8 * (a / 8) < 240 ↔ a < 240 := by omega
 have h5 : 8 * (a / 8) < 248 ↔ a < 248 := by omega
 simp only [h1, h2, h3, h4, h5]
theorem i64_and_nat (a b : Nat) (ha : a < 4611686018427387904) (hb : b < 4611686018427387904) : bits .and .i64 (a : Int) (b : Int) = ((a &&& b : Nat) : Int) := by
 have hx : a &&& b < 2 ^ 62 := Nat.and_lt_two_pow _ (by omega)
 have e1 : (BitVec.ofInt 64 (a : Int)).toNat = a := by rw [BitVec.ofInt_natCast, BitVec.toNat_ofNat]; exact Nat.mod_eq_of_lt (by omega)
 have e2 : (BitVec.ofInt 64 (b : Int)).toNat = b := by rw [BitVec.ofInt_natCast, BitVec.toNat_ofNat]; exact Nat.mod_eq_of_lt (by omega)
 show IntKind.i64.wrap ((BitVec.ofInt 64 (a : Int) &&& BitVec.ofInt 64 (b : Int)).toNat : Int) = _; rw [BitVec.toNat_and, e1, e2, IntKind.wrap_i64]; omega
theorem i64_or_nat (a b : Nat) (ha : a < 4611686018427387904) (hb : b < 4611686018427387904) : bits .or .i64 (a : Int) (b : Int) = ((a ||| b : Nat) : Int) := by
 have hx : a ||| b < 2 ^ 62 := Nat.or_lt_two_pow (by omega) (by omega)
 have e1 : (BitVec.ofInt 64 (a : Int)).toNat = a := by rw [BitVec.ofInt_natCast, BitVec.toNat_ofNat]; exact Nat.mod_eq_of_lt (by omega)
 have e2 : (BitVec.ofInt 64 (b : Int)).toNat = b := by rw [BitVec.ofInt_natCast, BitVec.toNat_ofNat]; exact Nat.mod_eq_of_lt (by omega)
 show IntKind.i64.wrap ((BitVec.ofInt 64 (a : Int) ||| BitVec.ofInt 64 (b : Int)).toNat : Int) = _
 rw [BitVec.toNat_or, e1, e2, IntKind.wrap_i64]; omega
theorem and_mask (a k : Nat) : a &&& (2 ^ k - 1) = a % 2 ^ k := Nat.and_two_pow_sub_one_eq_mod a k
theorem and31 (a : Nat) (h : a < 256) : bits .and .i64 (a : Int) 31 = ((a % 32 : Nat) : Int) := by
 have := i64_and_nat a 31 (by omega) (by omega); rw [show 31 = 2 ^ 5 - 1 by rfl, and_mask] at this; simpa using this
theorem and15 (a : Nat) (h : a < 256) : bits .and .i64 (a : Int) 15 = ((a % 16 : Nat) : Int) := by
 have := i64_and_nat a 15 (by omega) (by omega); rw [show 15 = 2 ^ 4 - 1 by rfl, and_mask] at this; simpa using this
theorem and7 (a : Nat) (h : a < 256) : bits .and .i64 (a : Int) 7 = ((a % 8 : Nat) : Int) := by
 have := i64_and_nat a 7 (by omega) (by omega); rw [show 7 = 2 ^ 3 - 1 by rfl, and_mask] at this; simpa using this
theorem and63 (a : Nat) (h : a < 4611686018427387904) : bits .and .i64 (a : Int) 63 = ((a % 64 : Nat) : Int) := by
 have := i64_and_nat a 63 h (by omega); rw [show 63 = 2 ^ 6 - 1 by rfl, and_mask] at this; simpa using this
theorem and192 (a : Nat) (h : a < 256) : bits .and .i64 (a : Int) 192 = ((a / 64 * 64 : Nat) : Int) := by
 have := i64_and_nat a 192 (by omega) (by omega)
 have h2 : ∀ a : Fin 256, a.val &&& 192 = a.val / 64 * 64 := by decide +kernel
 rw [show a &&& 192 = a / 64 * 64 from h2 ⟨a, h⟩] at this
 simpa using this
theorem or64 (a b : Nat) (h : a < 16777216) (hb : b < 64) : bits .or .i64 ((a : Int) * 64) (b : Int) = ((a * 64 + b : Nat) : Int) := by
 have := i64_or_nat (a * 64) b (by omega) (by omega)
 have h7 := Nat.two_pow_add_eq_or_of_lt (i := 6) (b := b) (by omega) a
 rw [show 2 ^ 6 * a = a * 64 by omega] at h7
 rw [<- h7] at this
 simpa using this
def isScI (c : Int) : Bool := decide (0 <= c) && decide (c <= 1114111) && (decide (c < 55296) || decide (57343 < c))
theorem isScI_nat (c : Nat) : isScI (c : Int) = isSc c := by
 unfold isScI isSc; have e1 : decide (0 <= (c : Int)) = true := by simp
 have e2 : decide ((c : Int) <= 1114111) = decide (c <= 1114111) := by simp only [decide_eq_decide]; omega
 have e3 : decide ((c : Int) < 55296) = decide (c < 55296) := by simp only [decide_eq_decide]; omega
 have e4 : decide (57343 < (c : Int)) = decide (57343 < c) := by simp only [decide_eq_decide]; omega
 rw [e1, e2, e3, e4]; simp
theorem isScalar_any (c : Int) (w : World) : Calls Tryz.prog 168 #[.int .i64 c] w fun e w' => e = .returned (.bool (isScI c)) /\ w = w' := by
 unfold isScI
 by_cases h0 : 0 <= c
 ·by_cases h1 : c <= 1114111
  ·by_cases h2 : c < 55296
   ·go_enter Tryz.func168, Tryz.ntmps168
    go_wp2; go_ret; exact ⟨ret_bool (by simp [h0, h1, h2]), rfl⟩
   ·have h3 : decide (c < 55296) = false := by simp; omega
    go_enter Tryz.func168, Tryz.ntmps168; go_wp2; go_ret; exact ⟨ret_bool (by simp [h0, h1, h2]), rfl⟩
  ·have h3 : decide (c <= 1114111) = false := by simp; omega
   go_enter Tryz.func168, Tryz.ntmps168; go_wp2; go_ret; exact ⟨ret_bool (by simp [h0, h1]), rfl⟩
 ·have h3 : decide (0 <= c) = false := by simp; omega
  go_enter Tryz.func168, Tryz.ntmps168; go_wp2; go_ret; exact ⟨ret_bool (by simp [h0]), rfl⟩
theorem width_any (c : Nat) (w : World) : Calls Tryz.prog 169 #[.int .i64 c] w fun e w' => e = .returned (.int .i64 (wid c : Nat)) /\ w = w' := by
 unfold wid
 by_cases h1 : c < 128
 ·rw [if_pos h1]
  go_enter Tryz.func169, Tryz.ntmps169; go_wp2; go_ret; exact ⟨rfl, rfl⟩
 ·rw [if_neg h1]
  by_cases h2 : c < 2048
  ·rw [if_pos h2]
   have d1 : decide ((c : Int) < 128) = false := by simp; omega
   have d2 : decide ((c : Int) < 2048) = true := by simp; omega
   clear h1 h2; go_enter Tryz.func169, Tryz.ntmps169; go_wp2; go_ret; exact ⟨rfl, rfl⟩
  ·rw [if_neg h2]
   by_cases h3 : c < 65536
   ·rw [if_pos h3]
    have d1 : decide ((c : Int) < 128) = false := by simp; omega
    have d2 : decide ((c : Int) < 2048) = false := by simp; omega
    have d3 : decide ((c : Int) < 65536) = true := by simp; omega
    clear h1 h2 h3; go_enter Tryz.func169, Tryz.ntmps169; go_wp2; go_ret; exact ⟨rfl, rfl⟩
   ·rw [if_neg h3]
    have d1 : decide ((c : Int) < 128) = false := by simp; omega
    have d2 : decide ((c : Int) < 2048) = false := by simp; omega
    have d3 : decide ((c : Int) < 65536) = false := by simp; omega
    clear h1 h2 h3; go_enter Tryz.func169, Tryz.ntmps169; go_wp2; go_ret; exact ⟨rfl, rfl⟩
abbrev firstPost (l : List Nat) (w : World) : Ending -> World -> Prop := fun e w' => e = .returned (.tuple #[.int .i64 (oneN l).1, .int .i64 (oneN l).2]) /\ w = w'
theorem ret_first {a b : Int} {l : List Nat} {c n : Nat} (h : oneN l = (c, n)) (h1 : a = c) (h2 : b = n) : Ending.returned (.tuple #[.int .i64 a, .int .i64 b]) = .returned (.tuple #[.int .i64 (oneN l).1, .int .i64 (oneN l).2]) := by
 rw [h, h1, h2]
theorem first_one (s : ByteArray) (i : Nat) (a : Nat) (r : List Nat) (w : World) (hT : Tab w) (hl : (bs s).drop i = a :: r) (hs : s.size <= 1048576) (h1 : a < 128) :
  Calls Tryz.prog 143 #[.string s, .int .i64 i] w (firstPost (a :: r) w) := by
 obtain ⟨h0, e0⟩ := bs_at hl (j := 0) (by simp)
 simp only [Nat.add_zero, List.getElem_cons_zero] at h0 e0; have ho : oneN (a :: r) = (a, 1) := by simp [oneN, h1]
 have HO := Lib.hid ho; have hc := hT (a / 8) (by omega)
 rw [size_same, show sizeOf8 a = 1 by simp [sizeOf8, h1]] at hc
 clear ho hl; unfold firstPost; go_enter Tryz.func143, Tryz.ntmps143; go_wp2; go_ret2
 exact ⟨ret_first HO.out rfl rfl, rfl⟩
theorem or64' (c b : Nat) (h : c < 131072) (hb : b < 256) : bits .or .i64 ((c : Int) * 64) ((b : Int) % 64) = ((c * 64 + b % 64 : Nat) : Int) := by
 have := or64 c (b % 64) (by omega) (by omega)
 simpa using this
theorem first_many (s : ByteArray) (i : Nat) (a n : Nat) (r : List Nat) (w : World) (hT : Tab w) (hl : (bs s).drop i = a :: r) (hs : s.size <= 1048576) (hsz : sizeOf8 a = n) (hn : n = 2 \/ n = 3 \/ n = 4) :
  Calls Tryz.prog 143 #[.string s, .int .i64 i] w (firstPost (a :: r) w) := by
 have hlt : ∀ x ∈ a :: r, x < 256 := by rw [<- hl]; exact fun x hx => bs_lt x (List.mem_of_mem_drop hx)
 have ha := hlt a (by simp)
 have hi := Lib.hid (fun (j : Nat) (hj : j < (a :: r).length) => bs_at hl hj); have hlen : (a :: r).length = s.size - i := by rw [<- hl]; simp [bs_length]
 simp only [List.length_cons] at hlen; obtain ⟨h0, e0⟩ := hi.out 0 (by simp)
 simp only [Nat.add_zero, List.getElem_cons_zero] at h0 e0; have ho := oneN_many hlt hsz (by omega)
 have hc := hT (a / 8) (by omega)
 rw [size_same, hsz] at hc; clear hl; unfold firstPost
 by_cases hsh : r.length < n - 1
 ·rw [if_pos hsh] at ho
  have HO := Lib.hid ho; have hd : (s.size : Int) - i < n := by omega
  clear ho hsh hlen hsz; rcases hn with rfl | rfl | rfl
  all_goals
   go_enter Tryz.func143, Tryz.ntmps143; go_wp2; go_ret2
   exact ⟨ret_first HO.out rfl rfl, rfl⟩
 ·rw [if_neg hsh] at ho
  have HO := Lib.hid ho; have hd : (n : Int) <= (s.size : Int) - i := by omega
  have m1 := and31 a ha; have m2 := and15 a ha; have m3 := and7 a ha; have hin : initOf a n < 32 := by unfold initOf; split <;> (try split) <;> omega
  have hrl : n - 1 <= r.length := by omega
  have HLT := Lib.hid hlt; have hn1 : ((n : Int) == 1) = false := by rw [beq_eq_false_iff_ne]; omega
  have hn0 : ((n : Int) == 0) = false := by rw [beq_eq_false_iff_ne]; omega
  have hn4 : n <= 4 := by omega
  have hn2 : 2 <= n := by omega
  have hz : (n = 2 /\ ((n : Int) == 2) = true /\ initOf a n = a % 32) \/ (n = 3 /\ ((n : Int) == 2) = false /\ ((n : Int) == 3) = true /\ initOf a n = a % 16) \/ (n = 4 /\ ((n : Int) == 2) = false /\ ((n : Int) == 3) = false /\ initOf a n = a % 8) := by
   rcases hn with rfl | rfl | rfl
   ·exact .inl ⟨rfl, rfl, rfl⟩
   ·exact .inr (.inl ⟨rfl, rfl, rfl, rfl⟩)
   ·exact .inr (.inr ⟨rfl, rfl, rfl, rfl⟩)
  clear ho hsh hlen hsz hlt hn; have key : ∀ A : Nat, A = initOf a n -> A < 32 := fun A h => by omega
  rcases hz with ⟨-, f2, hz⟩ | ⟨-, f2, f3, hz⟩ | ⟨-, f2, f3, hz⟩
  all_goals
   have HZ := Lib.hid hz; clear hz; go_enter Tryz.func143, Tryz.ntmps143; go_wp2_with fail; go_loop [4, 5, 7] (fun c z k => ∃ C K : Nat, c = .int .i64 C /\ z = .int .i64 n /\ k = .int .i64 K /\ 1 <= K /\ K <= n /\ cont (initOf a n) (r.take (n - 1)) = cont C ((r.take (n - 1)).drop (K - 1)) /\ Hid ((K = 1 -> C < 32) /\ (K = 2 -> C < 2048) /\ (K = 3 -> C < 131072) /\ C < 8388608)) (fun _ _ k => n - (intOf k).toNat)
   case atStart =>
    refine ⟨initOf a n, 1, by rw [HZ.out]; simp, rfl, rfl, by omega, by omega, by simp, ?_⟩
    have := hin; exact Lib.hid (by omega)
   case round =>
    obtain ⟨C, K, rfl, rfl, rfl, hK1, hK2, hcont, hC⟩ := hrel
    by_cases hKn : K < n
    ·have hKr : K < (a :: r).length := by simp; omega
     obtain ⟨h5, e5⟩ := hi.out K hKr
     have hel : (r.take (n - 1)).drop (K - 1) = (a :: r)[K] :: (r.take (n - 1)).drop K := by
      have h6 : K - 1 < (r.take (n - 1)).length := by simp; omega
      rw [List.drop_eq_getElem_cons h6]; obtain ⟨j, rfl⟩ : ∃ j, K = j + 1 := ⟨K - 1, by omega⟩
      simp
     have hb := HLT.out _ (List.getElem_mem hKr); rw [hel] at hcont; clear hel; generalize (a :: r)[K] = b at e5 hb hcont; have h5i : 0 <= (i : Int) + (K : Int) /\ (i : Int) + (K : Int) < (s.size : Int) := by omega
     have m4 := and192 b hb; have m5 := and63 b (by omega)
     by_cases hb2 : b / 64 = 2
     ·have hCs : C < 131072 := by have := hC.out; omega
      have m6 := or64' C b hCs hb; have m7 : ((b / 64 * 64 : Nat) : Int) = 128 := by omega
      rw [m7] at m4; simp only [cont, hb2, if_true] at hcont; have HC := Lib.hid hcont; have HB : Hid ((K + 1 = 1 -> C * 64 + b % 64 < 32) /\ (K + 1 = 2 -> C * 64 + b % 64 < 2048) /\ (K + 1 = 3 -> C * 64 + b % 64 < 131072) /\ C * 64 + b % 64 < 8388608) := Lib.hid (by have := hC.out; omega)
      have hCw : C * 64 <= 8388607 := by omega
      clear hcont m7 hCs; go_wp2; go_round
      case rel => exact ⟨C * 64 + b % 64, K + 1, by go_num, rfl, by go_num, by omega, by omega, HC.out, HB⟩
      case measure => simp [intOf]; omega
     ·have m7 : (((b / 64 * 64 : Nat) : Int) != 128) = true := by rw [bne_iff_ne]; omega
      simp only [cont, hb2, if_false] at hcont; have HC := Lib.hid hcont; have H5 := HO.out; rw [HC.out] at H5; have H6 := Lib.hid H5; rw [<- m4] at m7; clear hcont H5; go_wp2; go_ret2
      exact ⟨ret_first H6.out rfl rfl, rfl⟩
    ·obtain rfl : K = n := by omega
     have hd0 : (r.take (K - 1)).drop (K - 1) = [] := List.drop_of_length_le (by simp; omega)
     rw [hd0] at hcont; simp only [cont] at hcont; have H5 := HO.out; rw [hcont] at H5; simp only at H5; clear hcont hd0
     by_cases hsc : isSc C = true
     ·by_cases hw : wid C = K
      ·rw [if_pos ⟨hsc, hw⟩] at H5
       have H6 := Lib.hid H5; have hb1 : ((wid C : Nat) : Int) = (K : Int) := by rw [hw]
       have HB1 := Lib.hid hb1; clear H5 hw hb1; go_wp2_with fail; refine (isScalar_any (C : Int) w).mono ?_; rintro e1 w1 ⟨rfl, rfl⟩; rw [isScI_nat, hsc]; go_wp2_with fail; refine (width_any C w).mono ?_; rintro e1 w1 ⟨rfl, rfl⟩; rw [HB1.out]; go_wp2; go_ret2
       exact ⟨ret_first H6.out rfl rfl, rfl⟩
      ·rw [if_neg (fun h => hw h.2)] at H5
       have H6 := Lib.hid H5; have hb1 : (((wid C : Nat) : Int) != (K : Int)) = true := by rw [bne_iff_ne]; omega
       clear H5 hw; go_wp2_with fail; refine (isScalar_any (C : Int) w).mono ?_; rintro e1 w1 ⟨rfl, rfl⟩; rw [isScI_nat, hsc]; go_wp2_with fail; refine (width_any C w).mono ?_; rintro e1 w1 ⟨rfl, rfl⟩; go_wp2; go_ret2
       exact ⟨ret_first H6.out rfl rfl, rfl⟩
     ·rw [if_neg (fun h => hsc h.1)] at H5
      have H6 := Lib.hid H5; have hsf : isSc C = false := by simpa using hsc
      clear H5 hsc; go_wp2_with fail; refine (isScalar_any (C : Int) w).mono ?_; rintro e1 w1 ⟨rfl, rfl⟩; rw [isScI_nat, hsf]; go_wp2; go_ret2
      exact ⟨ret_first H6.out rfl rfl, rfl⟩
theorem first_any (s : ByteArray) (i : Nat) (w : World) (hT : Tab w) (hs : s.size <= 1048576) :
  Calls Tryz.prog 143 #[.string s, .int .i64 i] w (firstPost ((bs s).drop i) w) := by
 obtain ⟨l, hl⟩ : ∃ l, (bs s).drop i = l := ⟨_, rfl⟩; rw [hl]
 match l with
 | [] =>
  have h1 : s.size <= i := by have := congrArg List.length hl; simp [bs_length] at this; omega
  unfold firstPost; go_enter Tryz.func143, Tryz.ntmps143; go_wp2; go_ret2
  exact ⟨rfl, rfl⟩
 | a :: r =>
  rcases sizeOf8_cases a with h | h | h
  ·obtain ⟨h0, e0⟩ := bs_at hl (j := 0) (by simp)
   simp only [Nat.add_zero, List.getElem_cons_zero] at h0 e0; have ha := bs_lt a (List.mem_of_mem_drop (i := i) (by rw [hl]; simp))
   have HO := Lib.hid (oneN_none (r := r) h); have hc := hT (a / 8) (by omega)
   rw [size_same, h] at hc; clear hl h; unfold firstPost; go_enter Tryz.func143, Tryz.ntmps143; go_wp2; go_ret2
   exact ⟨ret_first HO.out rfl rfl, rfl⟩
  ·exact first_one s i a r w hT hl hs (sizeOf8_one h)
  ·exact first_many s i a _ r w hT hl hs rfl (by omega)
end Go.Proofs.YtbcdaaobbebooaaGreatDoor
