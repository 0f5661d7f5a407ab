/- Texts of this claim, one behind the other: BoQ, BoB, LkA, LkB, QuX, LxK, LxM, RwP, TdP, TdF, LkD, TdA, TdB, RuP, RuA, BoI, LkE, LkF. -/
import Derived.Test.YtbcdaaobbebooaaGreatDoorLga
import Derived.Test.YtbcdaaobbebooaaGreatDoorLgb
import Derived.Test.YtbcdaaobbebooaaGreatDoorLgd
import Derived.Deep.AppendLies
set_option linter.unusedSimpArgs false
set_option linter.unusedVariables false
namespace Go.Proofs.YtbcdaaobbebooaaGreatDoor
set_option maxRecDepth 100000
set_option maxHeartbeats 20000000
def AtX (r : List Tok) (g : GotX) : Prop := g.2.2 = 0 \/ g.2.2 = 2 \/ g.2.2 = -1 \/ g.2.1 < r.length
theorem AtX.and {r : List Tok} {g : GotX} {f : Exp -> Nat -> GotX} (h : AtX r g) (hf : AtX r (f g.1 g.2.1)) : AtX r (andX g f) := by
 by_cases he : g.2.2 = 0
 ·rw [andX_ok he]; exact hf
 ·rw [andX_bad he]; exact h
theorem AtX.up {r : List Tok} {g : GotX} {n : Nat} (h : AtX (r.drop n) g) : AtX r (upX n g) := by
 rcases h with h | h | h | h
 ·exact .inl h
 ·exact .inr (.inl h)
 ·exact .inr (.inr (.inl h))
 ·refine .inr (.inr (.inr ?_))
  rw [List.length_drop] at h; simp only [upX]; omega
theorem AtX.ok {r : List Tok} {x : Exp} {n : Nat} : AtX r (x, n, 0) := .inl rfl
theorem AtX.bad {r : List Tok} {n : Nat} : AtX r (badX (r.drop n) n) := by
 unfold badX; split
 ·exact .inr (.inl rfl)
 ·next h =>
  refine .inr (.inr (.inr ?_)); refine Nat.lt_of_not_le fun hle => h ?_; exact List.drop_eq_nil_of_le hle
theorem AtX.bad0 {r : List Tok} : AtX r (badX r 0) := by simpa using AtX.bad (r := r) (n := 0)
theorem AtX.deep {r : List Tok} {n : Nat} (h : n < r.length) : AtX r (deepX n) := .inr (.inr (.inr h))
theorem isS_lt {r : List Tok} {k : Nat} {w : ByteArray} (h : isS (r.drop k) w = true) : k < r.length := by
 have := isS_some h; rw [List.length_drop] at this; omega
theorem isS_ltN {r : List Tok} {k : Nat} {w : ByteArray} (h : ¬ isS (r.drop k) w = false) : k < r.length := isS_lt (by simpa using h)
theorem par_at : ∀ (n : Nat) (t : Nt) (r : List Tok) (d : Nat), t.okX r -> AtX r (parX n t r d) := by
 intro n
 induction n with
 | zero => intro t r d _; exact .inr (.inr (.inl rfl))
 | succ n IH =>
  intro t r d ht
  cases t with
  | choice =>
   rw [parX]; refine (IH (.term 1) r d (by simp only [Nt.okX]; omega)).and ?_; split
   ·exact .ok
   ·next hq =>
    split
    ·exact .deep (isS_ltN hq)
    ·refine (IH .choice _ _ trivial).up.and ?_
     split
     ·exact .bad
     ·exact (IH .choice _ _ trivial).up.and .ok
  | term lv =>
   simp only [Nt.okX] at ht; rw [parX]; split
   ·exact IH _ _ _ trivial
   ·exact (IH (.term (lv + 1)) r d (by simp only [Nt.okX]; omega)).and (IH (.tloop lv _) _ _ (by simp only [Nt.okX]; omega)).up
  | tloop lv a =>
   simp only [Nt.okX] at ht; rw [parX]; split
   ·exact .ok
   ·exact (IH (.term (lv + 1)) _ d (by simp only [Nt.okX]; omega)).up.and (IH (.tloop lv _) _ _ (by simp only [Nt.okX]; omega)).up
  | tight =>
   rw [parX]; split
   ·exact IH _ _ _ trivial
   ·next hs =>
    split
    ·refine .deep ?_
     refine List.length_pos_iff.2 fun h => hs ?_; rw [h]; exact ⟨rfl, rfl⟩
    ·exact (IH .tight _ _ trivial).up.and .ok
  | post =>
   rw [parX]; exact (IH .prime _ _ trivial).and (IH (.ploop _) _ _ trivial).up
  | ploop a =>
   rw [parX]; split
   ·next hdot =>
    have hl := isS_some hdot; split
    ·next hq =>
     have := AtX.bad (r := r) (n := 1); rw [hq] at this; exact this
    ·next t q hq =>
     split
     ·exact (IH (.ploop _) _ _ trivial).up
     ·exact .bad
   ·split
    ·next hlb =>
     split
     ·exact .deep (isS_some hlb)
     ·refine (IH .choice _ _ trivial).up.and ?_
      split
      ·exact .bad
      ·exact (IH (.ploop _) _ _ trivial).up
    ·exact .ok
  | prime =>
   cases r with
   | nil => simp only [parX]; exact .bad0
   | cons t r' =>
    simp only [parX]; split
    ·split
     ·next hs => exact (AtX.up (r := t :: r') (n := 1) (IH (.many sRp) r' d (isS_some hs))).and .ok
     ·exact .ok
    ·split
     ·exact .ok
     ·split
      ·split
       ·exact .inr (.inr (.inr (by simp)))
       ·exact .ok
      ·split
       ·exact (IH (.many sRb) (t :: r') d (by simp [Nt.okX])).and .ok
       ·split
        ·split
         ·exact .deep (by simp)
         ·refine (AtX.up (r := t :: r') (n := 1) (IH .choice r' (d + 1) trivial)).and ?_
          split
          ·exact .bad
          ·exact .ok
        ·exact .bad0
  | many s =>
   have hl : 1 <= r.length := ht; rw [parX]; split
   ·exact .deep hl
   ·split
    ·exact .ok
    ·exact (IH (.mloop s []) _ _ trivial).up
  | mloop s l =>
   rw [parX]; refine (IH .choice r (d + 1) trivial).and ?_; split
   ·exact (IH (.mloop s _) _ _ trivial).up
   ·split
    ·exact .ok
    ·exact .bad
theorem parE_at (l : List Tok) (h0 : (parE l).2.2 ≠ 0) (h2 : (parE l).2.2 ≠ 2) : (parE l).2.1 < l.length := by
 unfold parE at h0 h2 ⊢
 by_cases hb : 1000 < l.length
 ·rw [if_pos hb]; exact hb
 ·rw [if_neg hb] at h0 h2 ⊢
  by_cases h : (parX (fuelX .choice l) .choice l 0).2.2 = 0
  ·rw [if_pos h] at h0; exact absurd h h0
  ·rw [if_neg h] at h0 h2 ⊢
   have hf := parX_fine (fuelX .choice l) .choice l 0 (Nat.le_refl _) trivial; rcases par_at (fuelX .choice l) .choice l 0 trivial with q | q | q | q
   ·exact absurd q h
   ·exact absurd q h2
   ·exact absurd q hf.1
   ·exact q
theorem parE_le2 (l : List Tok) : (parE l).2.1 <= l.length := by
 unfold parE; have hf := parX_fine (fuelX .choice l) .choice l 0 (Nat.le_refl _) trivial; split
 ·next h => show 1000 <= _; omega
 ·split
  ·exact hf.2.1
  ·exact hf.2.1
end Go.Proofs.YtbcdaaobbebooaaGreatDoor
namespace Go.Proofs.YtbcdaaobbebooaaGreatDoor
set_option maxRecDepth 100000
set_option maxHeartbeats 20000000
open Go.RowKit Go.Tab
abbrev lineV (v : Value) (stop : Int) (last : Bool) : Value := .agg #[v, .int .i64 stop, .bool last]
abbrev lineC (v : Value) (stop : Int) (last : Bool) : Array Value := #[v, .int .i64 stop, .bool last]
abbrev PBox (w : World) (g : Nat) (v : Value) (a e : Int) : Prop := Cells w g #[v, .int .i64 a, .int .i64 e] 83
def lnE : LnR -> Int × Int
 | .wrong a e => (a, e)
 | _ => (0, 0)
def lnK : LnR -> Int
 | .wrong _ _ => 0
 | .empty => 1
 | .attr _ => 2
 | .begins _ => 3
 | .bare _ => 4
 | .fin => 5
def lnX : LnR -> Itm
 | .attr x => x
 | .begins x => x
 | .bare x => x
 | _ => zeroI
def signT (t : Tok) (s : ByteArray) : Bool := decide (t.kind = 4) && decide (t.text = s)
theorem isS_cons (t : Tok) (r : List Tok) (s : ByteArray) : isS (t :: r) s = signT t s := rfl
theorem text_dec (a b : ByteArray) : (a.toList == b.toList) = decide (a = b) := by
 by_cases h : a = b
 ·subst h; simp
 ·rw [decide_eq_false h]; exact str_ne h
theorem sign_tok (t : Tok) (s : ByteArray) (w : World) : Calls Tryz.prog 131 #[tokV t, .string s] w fun e w' => e = .returned (.bool (signT t s)) /\ Below w.heap.size w w' := by
 obtain ⟨k, tx, p⟩ := t; have hb1 : Below w.heap.size w (w.alloc (.cells #[.int .i64 k, .string tx, .int .i64 p] 63)) := (Below.refl _ w).alloc (Nat.le_refl _) _
 have ek : (k == 4) = decide (k = 4) := by
  by_cases h : k = 4
  ·subst h; simp
  ·rw [decide_eq_false h]; simpa using h
 have et := text_dec tx s; unfold signT; simp only [tokV]; generalize decide (k = 4) = bk at *; generalize decide (tx = s) = bt at *; go_enter Tryz.func131, Tryz.ntmps131; cases bk <;> cases bt
 all_goals
  go_wp2; go_ret; exact ⟨rfl, hb1⟩
theorem bfail_any (g : Nat) (v : Value) (a0 e0 a e : Int) (w : World) (h : PBox w g v a0 e0) : Calls Tryz.prog 50 #[.pointer (some ⟨g, 0, none⟩), .int .i64 a, .int .i64 e] w fun r w' => r = .returned (.tuple #[]) /\ PBox w' g v a e /\ w' = (w.setCell ⟨g, 1, none⟩ (.int .i64 a)).setCell ⟨g, 2, none⟩ (.int .i64 e) := by
 have hl := h.lt; have HH := Lib.hid h; have hc0 := h.cell 0 _ rfl; have hf0 := h.frozen 0; have hc1 := h.cell 1 _ rfl; have hf1 := h.frozen 1; have hc2 := h.cell 2 _ rfl; have hf2 := h.frozen 2; clear h; go_enter Tryz.func50, Tryz.ntmps50; go_wp2; refine bodyPost_end (v := .tuple #[]) (by simp [results, Tryz.results50, go_sem]) rfl ?_; exact ⟨rfl, by simpa using (HH.out.setI 1 (.int .i64 a)).setI 2 (.int .i64 e), rfl⟩
def LackP (g : Nat) (v : Value) (r : LnR) (w : World) (e : Ending) (w' : World) : Prop := e = .returned (.tuple #[]) /\ Save g w w' /\ PBox w' g v (lnE r).1 (lnE r).2
theorem lacks_any (g : Nat) (v : Value) (row : List Tok) (lv : Value) (stop : Int) (last : Bool) (i : Nat) (w : World) (h : PBox w g v 0 0) (hr : ToksAt w lv row) (hn : row.length <= 1000000) :
  Calls Tryz.prog 132 #[.pointer (some ⟨g, 0, none⟩), lineV lv stop last, .int .i64 (i : Nat)] w (LackP g v (lackR row stop last i) w) := by
 obtain ⟨ra, rc, rfl, hl1, hl2, -⟩ := hr.len; unfold maxLen at hl2; have hb1 : Below w.heap.size w (w.alloc (.cells (lineC (.slice ra row.length rc) stop last) 86)) := (Below.refl _ w).alloc (Nat.le_refl _) _; have hP := h.below hb1 h.lt; have hr1 := hr.below hb1 (Nat.le_refl _); have hF := fun a e => bfail_any g v 0 0 a e _ hP; have hS1 : Save g w (w.alloc (.cells (lineC (.slice ra row.length rc) stop last) 86)) := Save.of hb1; have HS := Lib.hid hS1; clear hb1 hS1 h hr; unfold lackR LackP; simp only [lineV]
 by_cases hi : i < row.length
 ·obtain ⟨b, off, rfl, hlt, c0, c1, c2⟩ := hr1.get hi
  rw [List.getElem?_eq_getElem hi]; simp only [lnE]; generalize row[i] = t at *; clear hr1; go_enter Tryz.func132, Tryz.ntmps132; go_wp2_with fail; refine (hF _ _).mono ?_; rintro _ w2 ⟨rfl, hp2, rfl⟩; go_wp2; refine bodyPost_end (v := .tuple #[]) (by simp [results, Tryz.results132, go_sem]) rfl ?_; exact ⟨rfl, (HS.out.set _ _).set _ _, hp2⟩
 ·rw [List.getElem?_eq_none (by omega)]
  simp only; clear hr1
  cases last with
  | true =>
   simp only [if_true, lnE]; go_enter Tryz.func132, Tryz.ntmps132; go_wp2_with fail; refine (hF _ _).mono ?_; rintro _ w2 ⟨rfl, hp2, rfl⟩; go_wp2; refine bodyPost_end (v := .tuple #[]) (by simp [results, Tryz.results132, go_sem]) rfl ?_; exact ⟨rfl, (HS.out.set _ _).set _ _, hp2⟩
  | false =>
   simp only [Bool.false_eq_true, if_false, lnE]; go_enter Tryz.func132, Tryz.ntmps132; go_wp2_with fail; refine (hF _ _).mono ?_; rintro _ w2 ⟨rfl, hp2, rfl⟩; go_wp2; refine bodyPost_end (v := .tuple #[]) (by simp [results, Tryz.results132, go_sem]) rfl ?_; exact ⟨rfl, (HS.out.set _ _).set _ _, hp2⟩
abbrev tokB (t : Tok) : Obj := .cells #[.int .i64 t.kind, .string t.text, .int .i64 t.pos] 63
theorem int_dec (a b : Int) : (a == b) = decide (a = b) := rfl
theorem lkCom_any (t : Tok) (w : World) : Calls Tryz.prog 32 #[tokV t] w fun e w' => e = .returned (.bool (comB t)) /\ w' = w.alloc (tokB t) := by
 obtain ⟨k, tx, p⟩ := t; have e6 := int_dec k 6; have e7 := int_dec k 7; unfold comB; simp only [tokV]; generalize decide (k = 6) = b6 at *; generalize decide (k = 7) = b7 at *; go_enter Tryz.func32, Tryz.ntmps32; cases b6 <;> cases b7
 all_goals
  go_wp2; go_ret; exact ⟨rfl, rfl⟩
theorem rfCom_any (t : Tok) (w : World) : Calls Tryz.prog 36 #[tokV t] w fun e w' => e = .returned (.bool (comB t)) /\ w' = w.alloc (tokB t) := by
 obtain ⟨k, tx, p⟩ := t; have e6 := int_dec k 6; have e7 := int_dec k 7; unfold comB; simp only [tokV]; generalize decide (k = 6) = b6 at *; generalize decide (k = 7) = b7 at *; go_enter Tryz.func36, Tryz.ntmps36; cases b6 <;> cases b7
 all_goals
  go_wp2; go_ret; exact ⟨rfl, rfl⟩
theorem r15Is_any (t : Tok) (s : ByteArray) (w : World) : Calls Tryz.prog 37 #[tokV t, .string s] w fun e w' => e = .returned (.bool (isB t s)) /\ w' = w.alloc (tokB t) := by
 obtain ⟨k, tx, p⟩ := t; have ek := int_dec k 4; have et := text_dec tx s; unfold isB; simp only [tokV]; generalize decide (k = 4) = bk at *; generalize decide (tx = s) = bt at *; go_enter Tryz.func37, Tryz.ntmps37; cases bk <;> cases bt
 all_goals
  go_wp2; go_ret; exact ⟨rfl, rfl⟩
theorem worded_tok (t : Tok) (w : World) : Calls Tryz.prog 34 #[tokV t] w fun e w' => e = .returned (.bool (wordB t)) /\ w' = w.alloc (tokB t) := by
 obtain ⟨k, tx, p⟩ := t; have e1 := int_dec k 1; have e2 := int_dec k 2; have e3 := int_dec k 3; unfold wordB; simp only [tokV]; generalize decide (k = 1) = b1 at *; generalize decide (k = 2) = b2 at *; generalize decide (k = 3) = b3 at *; go_enter Tryz.func34, Tryz.ntmps34; cases b1 <;> cases b2 <;> cases b3
 all_goals
  go_wp2; go_ret; exact ⟨rfl, rfl⟩
theorem among_no {t : Tok} {L : Bs} (h : t.kind ≠ 4 \/ t.text.size ≠ 1) : amongB t L = false := by
 unfold amongB
 by_cases hk : t.kind = 4
 ·rcases h with h | h
  ·exact absurd hk h
  ·have : t.text.data.toList.length ≠ 1 := h
   split
   ·next c hc => rw [hc] at this; exact absurd rfl this
   ·rw [Bool.and_false]
 ·rw [decide_eq_false hk]; rfl
theorem among_c {k : Int} {c : UInt8} {p : Int} (L : Bs) (hk : k = 4) : amongB ⟨k, ⟨#[c]⟩, p⟩ L = L.contains c := by
 unfold amongB; rw [decide_eq_true hk]; rfl
theorem one_of {s : ByteArray} (h : s.size = 1) : ∃ c, s = ⟨#[c]⟩ := by
 obtain ⟨⟨l⟩⟩ := s
 match l, h with
 | [c], _ => exact ⟨c, rfl⟩
theorem take_has {L : Bs} {c : UInt8} {k : Nat} (hk : k < L.length) : (L.take (k + 1)).contains c = ((L.take k).contains c || (c == L[k])) := by
 rw [List.take_succ_eq_append_getElem hk, List.contains_append, List.contains_cons, List.contains_nil, Bool.or_false]
theorem among_tok (t : Tok) (all : ByteArray) (w : World) (hL : all.size <= 1000) : Calls Tryz.prog 33 #[tokV t, .string all] w fun e w' => e = .returned (.bool (amongB t all.data.toList)) /\ Below w.heap.size w w' := by
 by_cases hq : t.kind = 4 /\ t.text.size = 1
 ·obtain ⟨k, tx, p⟩ := t
  simp only at hq; obtain ⟨hk, h1⟩ := hq; obtain ⟨c, rfl⟩ := one_of h1; rw [among_c _ hk]; subst hk; clear h1; simp only [tokV]; have hln : all.data.toList.length = all.size := size_list2 all; have hs1 : (⟨#[c]⟩ : ByteArray).size = 1 := rfl; have hc0 : ((⟨#[c]⟩ : ByteArray)[0]'(by rw [hs1]; decide)).toNat = c.toNat := rfl; go_enter Tryz.func33, Tryz.ntmps33; go_wp2_with fail; go_loopw [17] (fun i wr => ∃ k : Nat, k <= all.size /\ i = .int .i64 (k : Int) /\ Hid ((all.data.toList.take k).contains c = false) /\ ∃ n : Nat, wr = (w.alloc (.cells #[.int .i64 4, .string ⟨#[c]⟩, .int .i64 p] 63)).drewN n) (fun i _ => all.size - (intOf i).toNat)
  case atStart => exact ⟨0, Nat.zero_le _, rfl, Lib.hid rfl, 0, rfl⟩
  case round =>
   obtain ⟨k, hk, rfl, HA, n, rfl⟩ := hrel; have hb1 : ∀ m, Below w.heap.size w (((w.alloc (.cells #[.int .i64 4, .string ⟨#[c]⟩, .int .i64 p] 63)).drewN n).drewN m) := fun m => below_drewN (below_drewN ((Below.refl _ w).alloc (Nat.le_refl _) _) n) m; have HB := Lib.hid hb1; have hd1 : ((w.alloc (.cells #[.int .i64 4, .string ⟨#[c]⟩, .int .i64 p] 63)).drewN n).cell? ⟨w.heap.size, 1, none⟩ = some (.string ⟨#[c]⟩) := (Cells.new w #[.int .i64 4, .string ⟨#[c]⟩, .int .i64 p] 63).cell 1 _ rfl; clear hb1
   by_cases hkl : k < all.size
   ·have hT := take_has (L := all.data.toList) (c := c) (k := k) (by omega)
    have hg : (all[k]'hkl).toNat = (all.data.toList[k]'(by omega)).toNat := rfl; generalize all.data.toList[k]'(by omega) = d at *
    by_cases hd : c = d
    ·subst hd
     have e : ((c.toNat : Int) == (c.toNat : Int)) = true := by simp
     have HC : Hid (all.data.toList.contains c = true) := Lib.hid (by
      rw [List.contains_eq_mem, decide_eq_true_eq]; have h2 : ((all.data.toList.take (k + 1)).contains c) = true := by rw [hT]; simp
      rw [List.contains_eq_mem, decide_eq_true_eq] at h2
      exact List.mem_of_mem_take h2)
     clear hT; go_wp2_with fail; go_quiet (fail)
     go_wp2_with fail; go_ret; rw [HC.out]; exact ⟨rfl, HB.out _⟩
    ·have e : ((d.toNat : Int) == (c.toNat : Int)) = false := by
      rw [beq_eq_false_iff_ne]; intro e; exact hd (UInt8.toNat_inj.1 (by omega))
     have HC : Hid ((all.data.toList.take (k + 1)).contains c = false) := Lib.hid (by rw [hT, HA.out]; simpa using hd); clear hT hd; go_wp2_with fail; go_quiet (fail)
     go_wp2_with fail; go_roundw
     case rel => exact ⟨k + 1, hkl, by go_num, HC, n + nq, rfl⟩
     case measure => simp [intOf]; omega
   ·obtain rfl : k = all.size := by omega
    rw [List.take_of_length_le (by omega)] at HA; go_wp2_with fail; go_ret; rw [HA.out]; exact ⟨rfl, HB.out 0⟩
 ·rw [among_no (by by_cases h : t.kind = 4; (· exact .inr (fun h2 => hq ⟨h, h2⟩)); exact .inl h)]
  obtain ⟨k, tx, p⟩ := t; simp only at hq; simp only [tokV]; have hk := int_dec k 4
  by_cases h4 : k = 4
  ·subst h4
   have h1 : ((tx.size : Int) != 1) = true := by simp; omega
   go_enter Tryz.func33, Tryz.ntmps33; go_wp2; go_ret; exact ⟨rfl, (Below.refl _ w).alloc (Nat.le_refl _) _⟩
  ·have h1 : (k != 4) = true := by simpa using h4
   go_enter Tryz.func33, Tryz.ntmps33; go_wp2; go_ret; exact ⟨rfl, (Below.refl _ w).alloc (Nat.le_refl _) _⟩
theorem two_tok (w : World) (a b : Array Value) (T : TypeId) : Cells (((w.alloc (.cells a T)).alloc (.cells b T)).drew) w.heap.size a T /\ Cells (((w.alloc (.cells a T)).alloc (.cells b T)).drew) (w.heap.size + 1) b T /\ Below w.heap.size w (((w.alloc (.cells a T)).alloc (.cells b T)).drew) := by
 refine ⟨((Cells.new w a T).alloc _).drew, ?_, ((((Below.refl _ _).alloc (Nat.le_refl _) _).alloc (by simp) _)).drew⟩; have h := Cells.new (w.alloc (.cells a T)) b T; simp only [World.size_alloc] at h; exact h.drew
theorem Stop.into {p : Prop} (h : Stop p) : p := h
theorem behB_zero (l : List Tok) : behB l 0 = false := rfl
theorem behB_succ {l : List Tok} {k : Nat} (h : k < l.length) : behB l (k + 1) = if comB l[k] then behB l k else decide (l[k].kind = 4) && !amongB l[k] [41, 93] := by
 unfold behB; rw [List.take_succ_eq_append_getElem h, List.reverse_append]; rfl
theorem below_more {w w1 w2 : World} (h : Below w.heap.size w w1) (h2 : Below w1.heap.size w1 w2) : Below w.heap.size w w2 := h.trans (h2.mono h.size)
theorem tokB_below (w : World) (t : Tok) : Below w.heap.size w (w.alloc (tokB t)) := (Below.refl _ w).alloc (Nat.le_refl _) _
theorem behind_any (w : World) (lv : Value) (l : List Tok) (h : ToksAt w lv l) (i : Nat) (hi : i <= l.length) (hl : l.length <= 1000000) :
  Calls Tryz.prog 35 #[lv, .int .i64 (i : Nat)] w fun e w' => e = .returned (.bool (behB l i)) /\ Below w.heap.size w w' := by
 obtain ⟨a, c, rfl, h1, h2, -⟩ := h.len; unfold maxLen at h2; have HT := Lib.hid h; clear h; go_enter Tryz.func35, Tryz.ntmps35; go_wp2_with fail; go_loopw [1] (fun v wr => ∃ k : Nat, k <= i /\ v = .int .i64 ((k : Int) - 1) /\ Hid (behB l k = behB l i) /\ Below w.heap.size w wr) (fun v _ => (intOf v + 1).toNat)
 case atStart => exact ⟨i, Nat.le_refl _, by go_num, Lib.hid rfl, Below.refl _ _⟩
 case round =>
  obtain ⟨k, hk, rfl, HA, hb⟩ := hrel; have HB := Lib.hid hb
  cases k with
  | zero =>
   clear hb; go_wp2_with fail; go_ret; rw [<- HA.out, behB_zero]; exact ⟨rfl, HB.out⟩
  | succ k =>
   have hkl : k < l.length := by omega
   obtain ⟨b, off, rfl, hlt, q0, q1, q2⟩ := ToksAt.get (HT.out.below hb (Nat.le_refl _)) hkl; have hS := behB_succ hkl; have hk1 : IntKind.i64.wrap ((k : Int) - 1) = (k : Int) - 1 := IntWalk.i64_in _ (by omega); have hk2 : ((k + 1 : Nat) : Int) - 1 = (k : Int) := by omega
   rw [hk2]; generalize l[k] = t at *; have hC := lkCom_any t wr; have hM := fun W => among_tok t ⟨#[41, 93]⟩ W (by decide); have hkd := int_dec t.kind 4; obtain ⟨kd, tx, ps⟩ := t; simp only [tokV] at hC hM q0 q1 q2 hkd; change ∀ W, Calls Tryz.prog 33 _ W (fun e w' => e = .returned (.bool (amongB ⟨kd, tx, ps⟩ [41, 93])) /\ Below W.heap.size W w') at hM; simp only at hS; generalize comB ⟨kd, tx, ps⟩ = cb at *; generalize amongB ⟨kd, tx, ps⟩ [41, 93] = ab at *; generalize decide (kd = 4) = db at *; have HS := Lib.hid hS; clear hS hb hk2
   cases cb with
   | true =>
    go_wp2_with fail; refine hC.mono ?_; rintro _ _ ⟨rfl, rfl⟩; clear hC hM; go_wp2_with fail; go_roundw
    case rel => exact ⟨k, by omega, rfl, Lib.hid (by rw [<- HA.out, HS.out]; try rfl), HB.out.alloc HB.out.size _⟩
    case measure => simp [intOf] <;> omega
   | false =>
    go_wp2_with fail; refine hC.mono ?_; rintro _ _ ⟨rfl, rfl⟩; clear hC
    cases db with
    | false =>
     go_wp2_with fail; go_ret; rw [<- HA.out, HS.out]; exact ⟨rfl, HB.out.alloc HB.out.size _⟩
    | true =>
     go_wp2_with fail; refine (hM _).mono ?_; rintro _ w4 ⟨rfl, hb4⟩; have HB4 := Lib.hid (below_more (HB.out.alloc HB.out.size _) hb4); clear hM hb4; cases ab
     all_goals
      go_wp2_with fail; go_ret; rw [<- HA.out, HS.out]; exact ⟨rfl, HB4.out⟩
def Bx2 (w : World) (g h : Nat) (ka : Int) (ta : ByteArray) (pa kb : Int) (tb : ByteArray) (pb : Int) : Prop := ∀ W, Below w.heap.size w W -> W.cell? ⟨g, 0, none⟩ = some (.int .i64 ka) /\ W.cell? ⟨g, 1, none⟩ = some (.string ta) /\ W.cell? ⟨g, 2, none⟩ = some (.int .i64 pa) /\
 W.cell? ⟨h, 0, none⟩ = some (.int .i64 kb) /\ W.cell? ⟨h, 1, none⟩ = some (.string tb) /\ W.cell? ⟨h, 2, none⟩ = some (.int .i64 pb) /\ g < W.heap.size /\ h < W.heap.size
theorem Bx2.of {w : World} {g h : Nat} {ka : Int} {ta : ByteArray} {pa kb : Int} {tb : ByteArray} {pb : Int} (hA : Cells w g #[.int .i64 ka, .string ta, .int .i64 pa] 63) (hB : Cells w h #[.int .i64 kb, .string tb, .int .i64 pb] 63) : Bx2 w g h ka ta pa kb tb pb := fun W hW => by
 have h1 := hA.below hW hA.lt; have h2 := hB.below hW hB.lt; exact ⟨h1.cell 0 _ rfl, h1.cell 1 _ rfl, h1.cell 2 _ rfl, h2.cell 0 _ rfl, h2.cell 1 _ rfl, h2.cell 2 _ rfl, h1.lt, h2.lt⟩
abbrev CallB (f : FuncId) (args : Array Value) (w : World) (v : Value) : Prop := ∀ W, Below w.heap.size w W -> Calls Tryz.prog f args W fun e w' => e = .returned v /\ Below w.heap.size w w'
theorem CallB.of {f : FuncId} {args : Array Value} {w : World} {v : Value} (h : ∀ W, Below w.heap.size w W -> Calls Tryz.prog f args W fun e w' => e = .returned v /\ Below W.heap.size W w') : CallB f args w v := fun W hW => (h W hW).mono fun e w' ⟨he, hb⟩ => ⟨he, below_more hW hb⟩
theorem CallB.tok {f : FuncId} {args : Array Value} {w : World} {v : Value} {t : Tok} (h : ∀ W, Calls Tryz.prog f args W fun e w' => e = .returned v /\ w' = W.alloc (tokB t)) : CallB f args w v := .of fun W _ => (h W).mono fun e w' ⟨he, hb⟩ => ⟨he, by rw [hb]; exact tokB_below _ _⟩
theorem gapN_out {l : List Tok} {i : Nat} (h : l.length <= i) : gapN l i = 0 := by
 cases i with
 | zero => rfl
 | succ i =>
  rw [gapN, List.getElem?_eq_none h]; cases l[i]? <;> rfl
theorem gapN_in {l : List Tok} {i : Nat} (h : i + 1 < l.length) : gapN l (i + 1) = gapT (l[i]'(by omega)) l[i + 1] (behB l i) := by
 rw [gapN, List.getElem?_eq_getElem h, List.getElem?_eq_getElem (by omega)]
theorem lkGap_any (w : World) (lv : Value) (l : List Tok) (h : ToksAt w lv l) (hl : l.length <= 1000000) (z : Int) (hz : (Lit.int .i64 z).wf = true) :
  Calls Tryz.prog 10 #[lv, .int .i64 z] w fun e w' => e = .returned (.int .i64 (gapN l z.toNat : Nat)) /\ Below w.heap.size w w' := by
 obtain ⟨a, c, rfl, h1, h2, -⟩ := h.len; unfold maxLen at h2
 by_cases hz0 : z <= 0
 ·rw [show z.toNat = 0 by omega]
  clear hz; go_enter Tryz.func10, Tryz.ntmps10; go_wp2_with fail; go_ret; exact ⟨rfl, Below.refl _ _⟩
 ·by_cases hz1 : (l.length : Int) <= z
  ·rw [gapN_out (by omega)]
   clear hz; go_enter Tryz.func10, Tryz.ntmps10; go_wp2_with fail; go_ret; exact ⟨rfl, Below.refl _ _⟩
  ·obtain ⟨i, rfl⟩ : ∃ i : Nat, z = i + 1 := ⟨(z - 1).toNat, by omega⟩
   have hi : i + 1 < l.length := by omega
   rw [show ((i : Int) + 1).toNat = i + 1 by omega, gapN_in hi]; clear hz; obtain ⟨b, off, rfl, hlt, q0, q1, q2⟩ := h.get (j := i) (by omega); obtain ⟨b', off', e', -, r0, r1, r2⟩ := h.get hi; cases e'
   have hBh := fun W hW => behind_any W _ l (h.below hW (Nat.le_refl _)) i (by omega) hl; have kq : IntKind.i64.wrap ((i : Int) + 1 - 1) = (i : Int) := by rw [IntWalk.i64_in _ (by omega)]; omega
   generalize behB l i = m at *; generalize l[i] = xa at *; generalize l[i + 1] = xb at *; obtain ⟨ka, ta, pa⟩ := xa; obtain ⟨kb, tb, pb⟩ := xb; simp only at q0 q1 q2 r0 r1 r2; clear h; obtain ⟨G, hG⟩ : ∃ G, G = gapT ⟨ka, ta, pa⟩ ⟨kb, tb, pb⟩ m := ⟨_, rfl⟩; rw [<- hG]; go_enter Tryz.func10, Tryz.ntmps10; go_upto_region 3 with fail
   go_cut [5, 6] (fun x y wc => ∃ p5 p6 : Nat, x = .pointer (some ⟨p5, 0, none⟩) /\ y = .pointer (some ⟨p6, 0, none⟩) /\
    Cells wc p5 #[.int .i64 ka, .string ta, .int .i64 pa] 63 /\ Cells wc p6 #[.int .i64 kb, .string tb, .int .i64 pb] 63 /\ Below w.heap.size w wc)
   case first =>
    go_region
    all_goals go_wp2_with fail
    all_goals go_meet
    all_goals
     first
      | exact ⟨_, _, rfl, rfl, (two_tok _ _ _ _).1, (two_tok _ _ _ _).2.1, (two_tok _ _ _ _).2.2⟩
      | exact ⟨_, _, rfl, rfl, (two_tok _ _ _ _).2.1, (two_tok _ _ _ _).1, (two_tok _ _ _ _).2.2⟩
   case rest =>
    obtain ⟨p5, p6, rfl, rfl, hA, hB, hbc⟩ := hcut; have HX := Lib.hid (Bx2.of hA hB); have HBC := Lib.hid hbc; have hC1 : CallB 32 _ wc _ := .tok (lkCom_any ⟨ka, ta, pa⟩); have hC2 : CallB 32 _ wc _ := .tok (lkCom_any ⟨kb, tb, pb⟩); have hM1 : CallB 33 _ wc _ := .of fun W _ => among_tok ⟨ka, ta, pa⟩ ⟨#[40, 91, 46]⟩ W (by decide); have hM2 : CallB 33 _ wc _ := .of fun W _ => among_tok ⟨kb, tb, pb⟩ ⟨#[41, 93, 44, 46]⟩ W (by decide); have hM3 : CallB 33 _ wc _ := .of fun W _ => among_tok ⟨kb, tb, pb⟩ ⟨#[40]⟩ W (by decide); have hM4 : CallB 33 _ wc _ := .of fun W _ => among_tok ⟨kb, tb, pb⟩ ⟨#[91]⟩ W (by decide); have hM5 : CallB 33 _ wc _ := .of fun W _ => among_tok ⟨ka, ta, pa⟩ ⟨#[41, 93]⟩ W (by decide); have hM6 : CallB 33 _ wc _ := .of fun W _ => among_tok ⟨ka, ta, pa⟩ ⟨#[33]⟩ W (by decide); have hM7 : CallB 33 _ wc _ := .of fun W _ => among_tok ⟨ka, ta, pa⟩ ⟨#[45]⟩ W (by decide); have hM8 : CallB 33 _ wc _ := .of fun W _ => among_tok ⟨ka, ta, pa⟩ ⟨#[123]⟩ W (by decide); have hM9 : CallB 33 _ wc _ := .of fun W _ => among_tok ⟨kb, tb, pb⟩ ⟨#[125]⟩ W (by decide); have hW1 : CallB 34 _ wc _ := .tok (worded_tok ⟨ka, ta, pa⟩); have hB1 : CallB 35 _ wc _ := .of fun W hW => hBh W (hbc.trans (hW.mono hbc.size)); have hK := int_dec ka 1; simp only [tokV] at hC1 hC2 hM1 hM2 hM3 hM4 hM5 hM6 hM7 hM8 hM9 hW1; unfold gapT at hG; simp only at hG; have HG := Lib.hid hG; clear hG; obtain ⟨c0, c1, c2, d0, d1, d2, l1, l2⟩ := HX.out wc (Below.refl _ _); have hb := Below.refl wc.heap.size wc
    clear q0 q1 q2 r0 r1 r2 hi hlt hl; change ∀ W, _ -> Calls _ _ _ _ (fun e w' => e = .returned (.bool (amongB ⟨ka, ta, pa⟩ [40, 91, 46])) /\ _) at hM1; change ∀ W, _ -> Calls _ _ _ _ (fun e w' => e = .returned (.bool (amongB ⟨kb, tb, pb⟩ [41, 93, 44, 46])) /\ _) at hM2; change ∀ W, _ -> Calls _ _ _ _ (fun e w' => e = .returned (.bool (amongB ⟨kb, tb, pb⟩ [40])) /\ _) at hM3; change ∀ W, _ -> Calls _ _ _ _ (fun e w' => e = .returned (.bool (amongB ⟨kb, tb, pb⟩ [91])) /\ _) at hM4; change ∀ W, _ -> Calls _ _ _ _ (fun e w' => e = .returned (.bool (amongB ⟨ka, ta, pa⟩ [41, 93])) /\ _) at hM5; change ∀ W, _ -> Calls _ _ _ _ (fun e w' => e = .returned (.bool (amongB ⟨ka, ta, pa⟩ [33])) /\ _) at hM6; change ∀ W, _ -> Calls _ _ _ _ (fun e w' => e = .returned (.bool (amongB ⟨ka, ta, pa⟩ [45])) /\ _) at hM7; change ∀ W, _ -> Calls _ _ _ _ (fun e w' => e = .returned (.bool (amongB ⟨ka, ta, pa⟩ [123])) /\ _) at hM8; change ∀ W, _ -> Calls _ _ _ _ (fun e w' => e = .returned (.bool (amongB ⟨kb, tb, pb⟩ [125])) /\ _) at hM9; generalize comB ⟨ka, ta, pa⟩ = xc1 at *; generalize comB ⟨kb, tb, pb⟩ = xc2 at *; generalize amongB ⟨ka, ta, pa⟩ [40, 91, 46] = x1 at *; generalize amongB ⟨kb, tb, pb⟩ [41, 93, 44, 46] = x2 at *; generalize amongB ⟨kb, tb, pb⟩ [40] = x3 at *; generalize amongB ⟨kb, tb, pb⟩ [91] = x4 at *; generalize amongB ⟨ka, ta, pa⟩ [41, 93] = x5 at *; generalize amongB ⟨ka, ta, pa⟩ [33] = x6 at *; generalize amongB ⟨ka, ta, pa⟩ [45] = x7 at *; generalize amongB ⟨ka, ta, pa⟩ [123] = x8 at *; generalize amongB ⟨kb, tb, pb⟩ [125] = x9 at *
    generalize wordB ⟨ka, ta, pa⟩ = xw at *; generalize decide (ka = 1) = xk at *; clear hA hB; clear hBh hbc
    focus (go_wp2_with (go_at_call 32; (with_reducible refine (hC1 _ hb).mono ?_); clear c0 c1 c2 d0 d1 d2 l1 l2; rintro _ W ⟨rfl, hb⟩; obtain ⟨c0, c1, c2, d0, d1, d2, l1, l2⟩ := HX.out W hb; refine Stop.into ?_); refine Stop.out ?_)
    cases xc1
    rotate_left
    ·(go_wp2_with fail; go_ret; exact ⟨by rw [HG.out]; rfl, HBC.out.trans (hb.mono HBC.out.size)⟩)
    focus (go_wp2_with (go_at_call 32; (with_reducible refine (hC2 _ hb).mono ?_); clear c0 c1 c2 d0 d1 d2 l1 l2; rintro _ W ⟨rfl, hb⟩; obtain ⟨c0, c1, c2, d0, d1, d2, l1, l2⟩ := HX.out W hb; refine Stop.into ?_); refine Stop.out ?_)
    cases xc2
    rotate_left
    ·(go_wp2_with fail; go_ret; exact ⟨by rw [HG.out]; rfl, HBC.out.trans (hb.mono HBC.out.size)⟩)
    focus (go_wp2_with (go_at_call 33; (with_reducible refine (hM1 _ hb).mono ?_); clear c0 c1 c2 d0 d1 d2 l1 l2; rintro _ W ⟨rfl, hb⟩; obtain ⟨c0, c1, c2, d0, d1, d2, l1, l2⟩ := HX.out W hb; refine Stop.into ?_); refine Stop.out ?_)
    cases x1
    rotate_left
    ·(go_wp2_with fail; go_ret; exact ⟨by rw [HG.out]; rfl, HBC.out.trans (hb.mono HBC.out.size)⟩)
    focus (go_wp2_with (go_at_call 33; (with_reducible refine (hM2 _ hb).mono ?_); clear c0 c1 c2 d0 d1 d2 l1 l2; rintro _ W ⟨rfl, hb⟩; obtain ⟨c0, c1, c2, d0, d1, d2, l1, l2⟩ := HX.out W hb; refine Stop.into ?_); refine Stop.out ?_)
    cases x2
    rotate_left
    ·(go_wp2_with fail; go_ret; exact ⟨by rw [HG.out]; rfl, HBC.out.trans (hb.mono HBC.out.size)⟩)
    focus (go_wp2_with (go_at_call 33; (with_reducible refine (hM3 _ hb).mono ?_); clear c0 c1 c2 d0 d1 d2 l1 l2; rintro _ W ⟨rfl, hb⟩; obtain ⟨c0, c1, c2, d0, d1, d2, l1, l2⟩ := HX.out W hb; refine Stop.into ?_); refine Stop.out ?_)
    cases x3
    rotate_left
    cases xk
    rotate_left
    ·(go_wp2_with fail; go_ret; exact ⟨by rw [HG.out]; rfl, HBC.out.trans (hb.mono HBC.out.size)⟩)
    all_goals
     focus (go_wp2_with (go_at_call 33; (with_reducible refine (hM4 _ hb).mono ?_); clear c0 c1 c2 d0 d1 d2 l1 l2; rintro _ W ⟨rfl, hb⟩; obtain ⟨c0, c1, c2, d0, d1, d2, l1, l2⟩ := HX.out W hb; refine Stop.into ?_); refine Stop.out ?_)
     cases x4
     rotate_left
     focus (go_wp2_with (go_at_call 34; (with_reducible refine (hW1 _ hb).mono ?_); clear c0 c1 c2 d0 d1 d2 l1 l2; rintro _ W ⟨rfl, hb⟩; obtain ⟨c0, c1, c2, d0, d1, d2, l1, l2⟩ := HX.out W hb; refine Stop.into ?_); refine Stop.out ?_)
     cases xw
     rotate_left
     ·(go_wp2_with fail; go_ret; exact ⟨by rw [HG.out]; rfl, HBC.out.trans (hb.mono HBC.out.size)⟩)
     rotate_left
     focus (go_wp2_with (go_at_call 33; (with_reducible refine (hM5 _ hb).mono ?_); clear c0 c1 c2 d0 d1 d2 l1 l2; rintro _ W ⟨rfl, hb⟩; obtain ⟨c0, c1, c2, d0, d1, d2, l1, l2⟩ := HX.out W hb; refine Stop.into ?_); refine Stop.out ?_)
     cases x5
     rotate_left
     ·(go_wp2_with fail; go_ret; exact ⟨by rw [HG.out]; rfl, HBC.out.trans (hb.mono HBC.out.size)⟩)
     all_goals
      focus (go_wp2_with (go_at_call 33; (with_reducible refine (hM6 _ hb).mono ?_); clear c0 c1 c2 d0 d1 d2 l1 l2; rintro _ W ⟨rfl, hb⟩; obtain ⟨c0, c1, c2, d0, d1, d2, l1, l2⟩ := HX.out W hb; refine Stop.into ?_); refine Stop.out ?_)
      cases x6
      rotate_left
      ·(go_wp2_with fail; go_ret; exact ⟨by rw [HG.out]; rfl, HBC.out.trans (hb.mono HBC.out.size)⟩)
      focus (go_wp2_with (go_at_call 33; (with_reducible refine (hM7 _ hb).mono ?_); clear c0 c1 c2 d0 d1 d2 l1 l2; rintro _ W ⟨rfl, hb⟩; obtain ⟨c0, c1, c2, d0, d1, d2, l1, l2⟩ := HX.out W hb; refine Stop.into ?_); refine Stop.out ?_)
      cases x7
      rotate_left
      focus (go_wp2_with (go_at_call 35; (with_reducible refine (hB1 _ hb).mono ?_); clear c0 c1 c2 d0 d1 d2 l1 l2; rintro _ W ⟨rfl, hb⟩; obtain ⟨c0, c1, c2, d0, d1, d2, l1, l2⟩ := HX.out W hb; refine Stop.into ?_); refine Stop.out ?_)
      cases m
      rotate_left
      ·(go_wp2_with fail; go_ret; exact ⟨by rw [HG.out]; rfl, HBC.out.trans (hb.mono HBC.out.size)⟩)
      all_goals
       focus (go_wp2_with (go_at_call 33; (with_reducible refine (hM8 _ hb).mono ?_); clear c0 c1 c2 d0 d1 d2 l1 l2; rintro _ W ⟨rfl, hb⟩; obtain ⟨c0, c1, c2, d0, d1, d2, l1, l2⟩ := HX.out W hb; refine Stop.into ?_); refine Stop.out ?_)
       cases x8
       rotate_left
       focus (go_wp2_with (go_at_call 33; (with_reducible refine (hM9 _ hb).mono ?_); clear c0 c1 c2 d0 d1 d2 l1 l2; rintro _ W ⟨rfl, hb⟩; obtain ⟨c0, c1, c2, d0, d1, d2, l1, l2⟩ := HX.out W hb; refine Stop.into ?_); refine Stop.out ?_)
       cases x9
       all_goals (go_wp2_with fail; go_ret; exact ⟨by rw [HG.out]; rfl, HBC.out.trans (hb.mono HBC.out.size)⟩)
end Go.Proofs.YtbcdaaobbebooaaGreatDoor
namespace Go.Proofs.YtbcdaaobbebooaaGreatDoor
set_option maxRecDepth 100000
set_option maxHeartbeats 20000000
theorem unitF_more : ∀ (k n : Nat) (l m : List Nat), (unitF k n l).2 = 0 -> unitF k n (l.take k ++ m) = unitF k n l
 | 0, _, _, _, _ => by simp [unitF]
 | _ + 1, _, [], _, h => by simp [unitF] at h
 | k + 1, n, c :: r, m, h => by
  simp only [unitF, List.take_succ_cons, List.cons_append] at h ⊢
  cases hc : hexV c with
  | none => simp [hc] at h
  | some d =>
   rw [hc] at h; simp only at h ⊢; exact unitF_more k _ r m h
theorem unitQ_more {l : List Nat} (h : (unitQ l).2 = 0) (m : List Nat) : unitQ (l.take 4 ++ m) = unitQ l := unitF_more 4 0 l m h
theorem lowQ_more {n : Nat} {l : List Nat} (h : (lowQ n l).2.2 = 0) (m : List Nat) : lowQ n (l.take 6 ++ m) = lowQ n l := by
 match l with
 | [] => simp [lowQ, errR] at h
 | [c] => by_cases hc : c = 92 <;> simp [lowQ, errR, hc] at h
 | c :: d :: u =>
  by_cases hc : c = 92
  ·by_cases hd : d = 117
   ·have h1 : (unitQ u).2 = 0 := by
     unfold lowQ at h; simp only at h; rw [if_neg (by simp [hc]), if_neg (by simp [hd])] at h
     by_cases hu : (unitQ u).2 = 0
     ·exact hu
     ·rw [if_pos (by simpa using hu)] at h; exact absurd h hu
    have h2 := unitQ_more h1 m; subst hc; subst hd; simp only [List.take_succ_cons, List.cons_append, lowQ, h2]
   ·unfold lowQ at h; simp only at h; rw [if_neg (by simp [hc]), if_pos (by simpa using hd)] at h; simp [errR] at h
  ·unfold lowQ at h; simp only at h; rw [if_pos (by simpa using hc)] at h; simp [errR] at h
theorem codedQ_more {r : List Nat} (h : (codedQ r).2.2 = 0) (m : List Nat) : codedQ (r.take ((codedQ r).2.1 - 2) ++ m) = codedQ r := by
 have hsz := codedQ_ok h
 have hu : (unitQ r).2 = 0 := by
  unfold codedQ at h
  by_cases hu : (unitQ r).2 = 0
  ·exact hu
  ·rw [if_pos (by simpa using hu)] at h; exact absurd h hu
 have hv := unitQ_val hu; unfold codedQ at h ⊢; rw [if_neg (by simp [hu])] at h
 by_cases h1 : 56320 <= (unitQ r).1 /\ (unitQ r).1 <= 57343
 ·rw [if_pos h1] at h; simp [errR] at h
 rw [if_neg h1] at h
 by_cases h2 : (unitQ r).1 < 55296 \/ 57343 < (unitQ r).1
 ·have hq : unitQ (r.take 4 ++ m) = unitQ r := unitQ_more hu m
  simp only [if_neg (show ¬ (unitQ r).2 ≠ 0 by simp [hu]), if_neg h1, if_pos h2]; simp only [show 6 - 2 = 4 from rfl, hq]; simp only [if_neg (show ¬ (unitQ r).2 ≠ 0 by simp [hu]), if_neg h1, if_pos h2]
 ·rw [if_neg h2] at h
  obtain ⟨_, _, _, h12, h6⟩ := lowQ_ok (by omega) h; have hl : 10 <= r.length := by simp at h6; omega
  have hq : unitQ (r.take 10 ++ m) = unitQ r := by
   have := unitQ_more hu ((r.take 10).drop 4 ++ m); rw [<- this]
   congr 1
   rw [<- List.append_assoc]
   congr 1
   conv => lhs; rw [<- List.take_append_drop 4 (r.take 10)]
   rw [List.take_take]; rfl
  have hd : (r.take 10 ++ m).drop 4 = (r.drop 4).take 6 ++ m := by
   rw [List.drop_append_of_le_length (by simp; omega), List.drop_take]
  simp only [if_neg (show ¬ (unitQ r).2 ≠ 0 by simp [hu]), if_neg h1, if_neg h2, h12]; simp only [show 12 - 2 = 10 from rfl, hq]; simp only [if_neg (show ¬ (unitQ r).2 ≠ 0 by simp [hu]), if_neg h1, if_neg h2, hd]; exact lowQ_more h m
theorem partQ_more {l : List Nat} (hl : Byt l) (h : (partQ l).2.2 = 0) (m : List Nat) : partQ (l.take (partQ l).2.1 ++ m) = partQ l := by
 have hok := partQ_ok hl h
 match l with
 | [] => simp [partQ, errR] at h
 | c :: r =>
  simp only [partQ] at h hok ⊢
  by_cases h1 : c < 32
  ·rw [if_pos h1] at h; simp [errR] at h
  rw [if_neg h1] at h hok ⊢
  by_cases h2 : c = 92
  ·rw [if_pos h2] at h hok ⊢
   match r with
   | [] => simp [escQ, errR] at h
   | d :: t =>
    simp only [escQ] at h hok ⊢
    cases hd : escB d with
    | some b =>
     rw [hd] at h hok; simp only [List.take_succ_cons, List.cons_append, List.take_zero]; rw [if_neg h1, if_pos h2]; simp only [hd]
    | none =>
     rw [hd] at h hok; simp only at h hok ⊢
     by_cases h3 : d = 117
     ·rw [if_pos h3] at h hok ⊢
      have hm := codedQ_more h m
      obtain ⟨k, hk⟩ : ∃ k, (codedQ t).2.1 = k + 2 := by
       have : (codedQ t).2.1 = 6 \/ (codedQ t).2.1 = 12 := by
        unfold codedQ at h ⊢
        by_cases hu : (unitQ t).2 = 0
        ·rw [if_neg (by simp [hu])] at h ⊢
         by_cases g1 : 56320 <= (unitQ t).1 /\ (unitQ t).1 <= 57343
         ·rw [if_pos g1] at h; simp [errR] at h
         ·rw [if_neg g1] at h ⊢
          by_cases g2 : (unitQ t).1 < 55296 \/ 57343 < (unitQ t).1
          ·rw [if_pos g2]; exact .inl rfl
          ·rw [if_neg g2] at h ⊢
           exact .inr (lowQ_ok (by omega) h).choose_spec.2.2.1
        ·rw [if_pos (by simpa using hu)] at h; exact absurd h hu
       rcases this with h | h
       ·exact ⟨4, h⟩
       ·exact ⟨10, h⟩
      rw [hk] at hm; simp only [Nat.add_sub_cancel] at hm; rw [hk]; simp only [List.take_succ_cons, List.cons_append]; rw [if_neg h1, if_pos h2]; simp only [hd]; rw [if_pos h3, hm]
     ·rw [if_neg h3] at h; simp [errR] at h
  ·rw [if_neg h2] at h hok ⊢
   by_cases h3 : (oneN (c :: r)).2 = 0
   ·rw [if_pos h3] at h; simp [errR] at h
   ·rw [if_neg h3] at hok ⊢
    obtain ⟨q1, q2, q3, q4⟩ := put_oneN (c := (oneN (c :: r)).1) (n := (oneN (c :: r)).2) hl rfl h3
    have hn : oneN ((c :: r).take (oneN (c :: r)).2 ++ m) = oneN (c :: r) := by
     have h5 := oneN_put q1 m; rw [show putN (oneN (c :: r)).1 = (c :: r).take (oneN (c :: r)).2 from q3, q2] at h5; exact h5
    simp only; obtain ⟨j, hj⟩ : ∃ j, (oneN (c :: r)).2 = j + 1 := ⟨(oneN (c :: r)).2 - 1, by omega⟩; have hc : (c :: r).take (oneN (c :: r)).2 ++ m = c :: (r.take j ++ m) := by rw [hj]; simp
    rw [hc] at hn ⊢; simp only; rw [if_neg h1, if_neg h2, hn, if_neg h3]
    congr 1
    rw [<- hc]; rw [List.take_append_of_le_length (by rw [List.length_take]; omega), List.take_take, Nat.min_self]
theorem bodyQ_more : ∀ (k : Nat) (l m : List Nat), l.length <= k -> Byt l -> Byt m -> (bodyQ l).2.2 = 0 -> bodyQ (l.take (bodyQ l).2.1 ++ m) = bodyQ l
 | k, l, m, hk, hl, hm, h => by
  have hb : ∀ j, Byt (l.take j ++ m) := fun j x hx => by
   rcases List.mem_append.1 hx with hx | hx
   ·exact hl x (List.mem_of_mem_take hx)
   ·exact hm x hx
  by_cases h34 : l.head? = some 34
  ·have e : bodyQ l = ([], 1, 0) := by rw [bodyQ_step hl, if_pos h34]
   rw [e]; simp only
   cases l with
   | nil => cases h34
   | cons c r =>
    have hc : c = 34 := by simpa using h34
    subst hc; rw [bodyQ_step (hb 1), if_pos (by simp)]
  ·have hp : (partQ l).2.2 = 0 := by
    refine Decidable.byContradiction fun hn => ?_; rw [bodyQ_step hl, if_neg h34, if_pos hn] at h; exact hn h
   obtain ⟨_, _, _, q3, q4⟩ := partQ_ok hl hp
   have hr : (bodyQ (l.drop (partQ l).2.1)).2.2 = 0 := by
    refine Decidable.byContradiction fun hn => ?_; rw [bodyQ_step hl, if_neg h34, if_neg (by simp [hp]), if_pos hn] at h; exact hn h
   have e : bodyQ l = ((partQ l).1 ++ (bodyQ (l.drop (partQ l).2.1)).1, (partQ l).2.1 + (bodyQ (l.drop (partQ l).2.1)).2.1, 0) := by
    rw [bodyQ_step hl, if_neg h34, if_neg (by simp [hp]), if_neg (by simp [hr])]
   cases k with
   | zero => omega
   | succ k =>
    have ih := bodyQ_more k (l.drop (partQ l).2.1) m (by simp; omega) (hl.drop _) hm hr; rw [e]; simp only
    have hsp : l.take ((partQ l).2.1 + (bodyQ (l.drop (partQ l).2.1)).2.1) ++ m = l.take (partQ l).2.1 ++ ((l.drop (partQ l).2.1).take (bodyQ (l.drop (partQ l).2.1)).2.1 ++ m) := by
     rw [List.take_add, List.append_assoc]
    have hpm := partQ_more hl hp ((l.drop (partQ l).2.1).take (bodyQ (l.drop (partQ l).2.1)).2.1 ++ m); rw [hsp]; have hbb := hb ((partQ l).2.1 + (bodyQ (l.drop (partQ l).2.1)).2.1); rw [hsp] at hbb
    have hh : (l.take (partQ l).2.1 ++ ((l.drop (partQ l).2.1).take (bodyQ (l.drop (partQ l).2.1)).2.1 ++ m)).head? ≠ some 34 := by
     cases l with
     | nil => simp at q4; omega
     | cons c r =>
      obtain ⟨j, hj⟩ : ∃ j, (partQ (c :: r)).2.1 = j + 1 := ⟨(partQ (c :: r)).2.1 - 1, by omega⟩; rw [hj]
      simpa using h34
    rw [bodyQ_step hbb, if_neg hh, hpm, if_neg (by simp [hp])]
    have hd : (l.take (partQ l).2.1 ++ ((l.drop (partQ l).2.1).take (bodyQ (l.drop (partQ l).2.1)).2.1 ++ m)).drop (partQ l).2.1 = (l.drop (partQ l).2.1).take (bodyQ (l.drop (partQ l).2.1)).2.1 ++ m := by
     rw [List.drop_append_of_le_length (by rw [List.length_take]; omega), List.drop_eq_nil_of_le (by rw [List.length_take]; omega), List.nil_append]
    rw [hd, ih, if_neg (by simp [hr])]
theorem scanQ_more {l m : List Nat} (hl : Byt l) (hm : Byt m) (h : (scanQ l).2.2 = 0) : scanQ (l.take (scanQ l).2.1 ++ m) = scanQ l := by
 cases l with
 | nil => simp [scanQ, errR] at h
 | cons c r =>
  have hc : c = 34 := by
   refine Decidable.byContradiction fun hn => ?_; rw [scanQ, if_pos hn] at h; simp [errR] at h
  have e : scanQ (c :: r) = joinR [] 1 (bodyQ r) := by rw [scanQ, if_neg (by simpa using hc)]
  have hb : (bodyQ r).2.2 = 0 := by
   refine Decidable.byContradiction fun hn => ?_; rw [e, joinR, if_pos hn] at h; exact hn h
  have ih := bodyQ_more r.length r m (Nat.le_refl _) (fun x hx => hl x (by simp [hx])) hm hb; rw [e, joinR, if_neg (by simp [hb])]; simp only; rw [Nat.add_comm 1, List.take_succ_cons, List.cons_append, scanQ, if_neg (by simpa using hc), ih, joinR, if_neg (by simp [hb])]; simp [Nat.add_comm]
theorem quoX_tok {l : Bs} {k n : Nat} (h : one1 l = .tok k n) (hk : k = 3) : quoX (strL (l.take n)) ≠ none := by
 subst hk
 cases l with
 | nil => cases h
 | cons c r =>
  rw [one1] at h; split at h
  ·simp only [LR.tok.injEq] at h; omega
  split at h
  ·unfold num1 at h
   split at h
   ·simp only [LR.tok.injEq] at h; omega
   ·cases h
  split at h
  ·unfold quo1 at h
   split at h
   ·next hz =>
    simp only [LR.tok.injEq, true_and] at h; subst h; have hsz := scanQ_size (nb_byt (c :: r)) hz; have hm := scanQ_more (m := []) (nb_byt (c :: r)) (fun x hx => by cases hx) hz; rw [List.append_nil] at hm; have hnb : nb ((c :: r).take (scanQ (nb (c :: r))).2.1) = (nb (c :: r)).take (scanQ (nb (c :: r))).2.1 := by unfold nb; rw [List.map_take]
    unfold quoX; rw [strL_list, hnb, hm, if_pos]
    ·simp
    ·refine ⟨hz, ?_⟩
     rw [size_list, strL_list, List.length_take]; rw [nb_len] at hsz; omega
   ·cases h
  split at h
  ·simp only [LR.tok.injEq] at h; omega
  split at h
  ·unfold remT at h
   split at h
   ·cases h
   ·simp only [LR.tok.injEq] at h; omega
  split at h
  ·unfold aside1 at h
   split at h
   ·cases h
   ·split at h
    ·cases h
    ·unfold remT at h
     split at h
     ·cases h
     ·simp only [LR.tok.injEq] at h; omega
  split at h
  ·cases h
  ·simp only [LR.tok.injEq] at h; omega
theorem lexL_quo : ∀ (k : Nat) (l : Bs) (p : Nat), l.length <= k -> ∀ t ∈ (lexL l p).1, t.kind = 3 -> quoX t.text ≠ none
 | k, [], p, _, t, ht, _ => by rw [lexL_nil] at ht; cases ht
 | 0, c :: l, p, hk, _, _, _ => by simp at hk
 | k + 1, c :: l, p, hk, t, ht, h3 => by
  simp only [List.length_cons] at hk
  cases hb : blankB c with
  | true =>
   rw [lexL_blank hb] at ht; exact lexL_quo k l (p + 1) (by omega) t ht h3
  | false =>
   cases ho : one1 (c :: l) with
   | bad o e => rw [lexL_bad hb ho] at ht; cases ht
   | tok kd sz =>
    have hs := one1_size ho; rw [lexL_tok hb ho] at ht; rcases List.mem_cons.1 ht with rfl | ht
    ·exact quoX_tok ho (by simp only at h3; omega)
    ·exact lexL_quo k _ _ (by rw [List.length_drop, List.length_cons]; omega) t ht h3
end Go.Proofs.YtbcdaaobbebooaaGreatDoor
namespace Go.Proofs.YtbcdaaobbebooaaGreatDoor
set_option maxRecDepth 100000
set_option maxHeartbeats 20000000
end Go.Proofs.YtbcdaaobbebooaaGreatDoor
namespace Go.Proofs.YtbcdaaobbebooaaGreatDoor
set_option maxRecDepth 100000
set_option maxHeartbeats 20000000
end Go.Proofs.YtbcdaaobbebooaaGreatDoor
namespace Go.Proofs.YtbcdaaobbebooaaGreatDoor
set_option maxRecDepth 100000
set_option maxHeartbeats 20000000
def plR (r : List Tok) : List Tok := r.filter (fun t => !comB t)
def opR (r : List Tok) : Bool := match (plR r).getLast? with | some t => isB t sLc | none => false
def clR (r : List Tok) : Bool := match plR r with | t :: _ => isB t sRc | [] => false
structure RowD where
 toks : List Tok
 lo : Int
 hi : Int
 dep : Int
def depR (o : Int) (l : List Tok) : Int := if clR l then o - 1 else o
def endR (o : Int) (l : List Tok) (lo hi : Int) : RowD := ⟨l, lo, hi, depR o l⟩
def nxtO (o : Int) (l : List Tok) : Int := if opR l then depR o l + 1 else depR o l
def rowsF (size : Int) : List Tok -> List Tok -> Int -> Int -> List RowD
 | [], cur, fr, o => if fr < size then [endR o cur fr size] else []
 | t :: r, cur, fr, o => if t.kind = 5 then endR o cur fr t.pos :: rowsF size r [] (t.pos + 1) (nxtO o cur) else rowsF size r (cur ++ [t]) fr o
def rowsP (l : Bs) : List RowD := if (lexP l).2.2 = 0 then rowsF l.length (lexP l).1 [] 0 0 else []
end Go.Proofs.YtbcdaaobbebooaaGreatDoor
namespace Go.Proofs.YtbcdaaobbebooaaGreatDoor
set_option maxRecDepth 100000
set_option maxHeartbeats 20000000
end Go.Proofs.YtbcdaaobbebooaaGreatDoor
namespace Go.Proofs.YtbcdaaobbebooaaGreatDoor
set_option maxRecDepth 100000
set_option maxHeartbeats 20000000
def cntB (l : Bs) : Nat := if (scan (nb l) 0).2.isNone then (scan (nb l) 0).1.length else 0
def plF : List Tok -> Nat -> Nat -> Option Nat
 | [], _, _ => none
 | t :: r, i, 0 => if comB t then plF r (i + 1) 0 else some i
 | t :: r, i, n + 1 => if comB t then plF r (i + 1) (n + 1) else plF r (i + 1) n
def eqR (r : List Tok) : Option Nat := match plF r 0 1 with
 | some i => if isB (r[i]?.getD ⟨0, ⟨#[]⟩, 0⟩) sEq then some i else none
 | none => none
theorem plF_ge : ∀ (r : List Tok) (i n j : Nat), plF r i n = some j -> i + n <= j /\ j < i + r.length
 | [], _, _, _, h => by cases h
 | t :: r, i, 0, j, h => by
  rw [plF] at h; simp only [List.length_cons]; split at h
  ·have := plF_ge r (i + 1) 0 j h; omega
  ·cases h; omega
 | t :: r, i, n + 1, j, h => by
  rw [plF] at h; simp only [List.length_cons]; split at h
  ·have := plF_ge r (i + 1) (n + 1) j h; omega
  ·have := plF_ge r (i + 1) n j h; omega
theorem eqR_some {r : List Tok} {i : Nat} (h : eqR r = some i) : 1 <= i /\ i < r.length := by
 unfold eqR at h; split at h
 ·next j hj =>
  split at h
  ·cases h
   have := plF_ge r 0 1 i hj; omega
  ·cases h
 ·cases h
structure TRow where
 toks : List Tok
 dep : Int
end Go.Proofs.YtbcdaaobbebooaaGreatDoor
namespace Go.Proofs.YtbcdaaobbebooaaGreatDoor
set_option maxRecDepth 100000
set_option maxHeartbeats 20000000
open Go.RowKit Go.Tab
def retO : Option Nat -> Int
 | some i => (i : Int)
 | none => -1
theorem plF_none {l : List Tok} {k n : Nat} (h : l.length <= k) : plF (l.drop k) k n = none := by rw [List.drop_eq_nil_of_le h]; cases n <;> rfl
theorem plF_com {l : List Tok} {k n : Nat} (h : k < l.length) (hc : comB l[k] = true) : plF (l.drop k) k n = plF (l.drop (k + 1)) (k + 1) n := by
 rw [List.drop_eq_getElem_cons h]; cases n <;> rw [plF, if_pos hc]
theorem plF_hit {l : List Tok} {k : Nat} (h : k < l.length) (hc : comB l[k] = false) : plF (l.drop k) k 0 = some k := by
 rw [List.drop_eq_getElem_cons h, plF, if_neg (by rw [hc]; decide)]
theorem plF_next {l : List Tok} {k n : Nat} (h : k < l.length) (hc : comB l[k] = false) : plF (l.drop k) k (n + 1) = plF (l.drop (k + 1)) (k + 1) n := by
 rw [List.drop_eq_getElem_cons h, plF, if_neg (by rw [hc]; decide)]
theorem plF_first : ∀ (l : List Tok) (i : Nat), match plF l i 0 with
  | some j => ∃ h : j - i < l.length, i <= j /\ (plR l).head? = some l[j - i]
  | none => plR l = []
 | [], i => by simp [plF, plR]
 | t :: l, i => by
  by_cases hc : comB t = true
  ·rw [plF, if_pos hc]
   have ih := plF_first l (i + 1); have hp : plR (t :: l) = plR l := by unfold plR; rw [List.filter_cons_of_neg (by rw [hc]; decide)]
   rw [hp]; split at ih
   ·next j hj =>
    obtain ⟨h1, h2, h3⟩ := ih; obtain ⟨m, rfl⟩ : ∃ m, j = i + 1 + m := ⟨j - (i + 1), by omega⟩; have e1 : i + 1 + m - (i + 1) = m := by omega
    have e2 : i + 1 + m - i = m + 1 := by omega
    simp only [e1, e2] at *; exact ⟨by simp; omega, by omega, h3⟩
   ·exact ih
  ·rw [plF, if_neg hc]
   have hp : plR (t :: l) = t :: plR l := by unfold plR; rw [List.filter_cons_of_pos (by simpa using hc)]
   rw [hp]; simp
theorem clR_pl (l : List Tok) : clR l = match plF l 0 0 with
  | some j => isB (l[j]?.getD ⟨0, ⟨#[]⟩, 0⟩) sRc
  | none => false := by
 have h := plF_first l 0; unfold clR; split at h
 ·next j hj =>
  obtain ⟨h1, -, h3⟩ := h; simp only [Nat.sub_zero] at h1 h3; rw [List.getElem?_eq_getElem h1]
  cases hp : plR l with
  | nil => rw [hp] at h3; cases h3
  | cons t r => rw [hp] at h3; cases h3; rfl
 ·rw [h]
theorem opR_take {l : List Tok} {k : Nat} (h : k < l.length) : opR (l.take (k + 1)) = if comB l[k] then opR (l.take k) else isB l[k] sLc := by
 unfold opR plR; rw [List.take_succ_eq_append_getElem h, List.filter_append]
 by_cases hc : comB l[k] = true
 ·rw [if_pos hc, List.filter_cons_of_neg (by rw [hc]; decide), List.filter_nil, List.append_nil]
 ·rw [if_neg hc, List.filter_cons_of_pos (by simpa using hc), List.filter_nil, List.getLast?_concat]
abbrev rowV (v : Value) (lo hi d : Int) : Value := .agg #[v, .int .i64 lo, .int .i64 hi, .int .i64 d]
theorem tok_far {w : World} {a : Option Addr} {n c : Nat} {l : List Tok} (h : ToksAt w (.slice a n c) l) {k : Nat} (hk : k < l.length) :
  ∃ b off, a = some ⟨b, off, none⟩ /\ b < w.heap.size /\ ∀ W, Below w.heap.size w W -> W.cell? ⟨b, off + k * 3, none⟩ = some (.int .i64 l[k].kind) /\ W.cell? ⟨b, off + k * 3 + 1, none⟩ = some (.string l[k].text) /\ W.cell? ⟨b, off + k * 3 + 2, none⟩ = some (.int .i64 l[k].pos) := by
 obtain ⟨b, off, rfl, hlt, q0, q1, q2⟩ := h.get hk; exact ⟨b, off, rfl, hlt, fun W hW => ⟨(hW.cell (p := ⟨b, off + k * 3, none⟩) hlt).trans q0, (hW.cell (p := ⟨b, off + k * 3 + 1, none⟩) hlt).trans q1, (hW.cell (p := ⟨b, off + k * 3 + 2, none⟩) hlt).trans q2⟩⟩
theorem lkPlain_any (w : World) (lv : Value) (l : List Tok) (lo hi d : Int) (n : Nat) (h : ToksAt w lv l) (hl : l.length <= 1000000) (hn : n <= 10) :
  Calls Tryz.prog 136 #[rowV lv lo hi d, .int .i64 (n : Nat)] w fun e w' => e = .returned (.int .i64 (retO (plF l 0 n))) /\ Below w.heap.size w w' := by
 obtain ⟨a, c, rfl, h1, h2, -⟩ := h.len; unfold maxLen at h2; have hb0 : Below w.heap.size w (w.alloc (.cells #[.slice a l.length c, .int .i64 lo, .int .i64 hi, .int .i64 d] 110)) := (Below.refl _ w).alloc (Nat.le_refl _) _; have HB0 := Lib.hid hb0; have HT := Lib.hid h; clear h hb0; go_enter Tryz.func136, Tryz.ntmps136; go_wp2_with fail; go_loopw [1, 10] (fun nn i wr => ∃ (k m : Nat), k <= l.length /\ i = .int .i64 (k : Int) /\ nn = .int .i64 (m : Int) /\ m <= 10 /\ Hid (plF (l.drop k) k m = plF l 0 n) /\ Below w.heap.size w wr) (fun _ i _ => l.length - (intOf i).toNat)
 case atStart => exact ⟨0, n, Nat.zero_le _, rfl, rfl, hn, Lib.hid rfl, HB0.out⟩
 case round =>
  obtain ⟨k, m, hk, rfl, rfl, hm, HA, hb⟩ := hrel; have HB := Lib.hid hb
  by_cases hkl : k < l.length
  ·obtain ⟨b, off, rfl, hbl, hq⟩ := tok_far (HT.out.below hb (Nat.le_refl _)) hkl
   obtain ⟨q0, q1, q2⟩ := hq wr (Below.refl _ _); have hX := tokB_below wr l[k]; have hC := lkCom_any l[k] (wr.alloc (tokB l[k])); have H1 := Lib.hid (fun hc => plF_com (n := m) hkl hc); have H2 := Lib.hid (fun hc => plF_hit hkl hc); have H3 := Lib.hid (fun hc n => plF_next (n := n) hkl hc); generalize l[k] = t at *; obtain ⟨kd, tx, ps⟩ := t; simp only [tokV] at hC q0 q1 q2; generalize comB ⟨kd, tx, ps⟩ = cb at *; have HX := Lib.hid ((HB.out.trans (hX.mono HB.out.size)).alloc (by have := HB.out.size; simp; omega) (tokB ⟨kd, tx, ps⟩)); clear hX hb hq
   cases cb with
   | true =>
    go_wp2_with fail; refine hC.mono ?_; rintro _ _ ⟨rfl, rfl⟩; clear hC; go_wp2_with fail; go_roundw
    case rel => exact ⟨k + 1, m, hkl, by go_num, rfl, hm, Lib.hid (by rw [<- HA.out, H1.out (by trivial)]), HX.out⟩
    case measure => simp [intOf] <;> omega
   | false =>
    go_wp2_with fail; refine hC.mono ?_; rintro _ _ ⟨rfl, rfl⟩; clear hC
    cases m with
    | zero =>
     go_wp2_with fail; go_ret; rw [<- HA.out, H2.out (by trivial)]; exact ⟨rfl, HX.out⟩
    | succ m =>
     have hm0 : (((m + 1 : Nat) : Int) == 0) = false := by simp; omega
     have hm1 : ((m + 1 : Nat) : Int) - 1 = (m : Int) := by omega
     go_wp2_with fail; go_roundw
     case rel => exact ⟨k + 1, m, hkl, by go_num, by go_num, by omega, Lib.hid (by rw [<- HA.out, H3.out (by trivial)]), HX.out⟩
     case measure => simp [intOf] <;> omega
  ·obtain rfl : k = l.length := by omega
   have hE := plF_none (l := l) (n := m) (Nat.le_refl _); have HE := Lib.hid hE; clear hE hb; go_wp2_with fail; go_ret; rw [<- HA.out, HE.out]; exact ⟨rfl, HB.out⟩
theorem lkCloses_any (w : World) (lv : Value) (l : List Tok) (lo hi d : Int) (h : ToksAt w lv l) (hl : l.length <= 1000000) :
  Calls Tryz.prog 101 #[rowV lv lo hi d] w fun e w' => e = .returned (.bool (clR l)) /\ Below w.heap.size w w' := by
 obtain ⟨a, c, rfl, h1, h2, -⟩ := h.len; unfold maxLen at h2; have hb0 : Below w.heap.size w (w.alloc (.cells #[.slice a l.length c, .int .i64 lo, .int .i64 hi, .int .i64 d] 110)) := (Below.refl _ w).alloc (Nat.le_refl _) _; have hR := clR_pl l; have hP := lkPlain_any _ _ l lo hi d 0 (h.below hb0 (Nat.le_refl _)) hl (by omega); have hc := (Cells.new w #[.slice a l.length c, .int .i64 lo, .int .i64 hi, .int .i64 d] 110)
 cases hp : plF l 0 0 with
 | none =>
  rw [hp] at hR hP; rw [hR]; simp only [retO] at hP; clear h hR hp hc; go_enter Tryz.func101, Tryz.ntmps101; go_wp2_with fail; refine hP.mono ?_; rintro _ w2 ⟨rfl, hb2⟩; have HB := Lib.hid (hb0.trans (hb2.mono hb0.size)); clear hP hb0 hb2; go_wp2_with fail; go_ret; exact ⟨rfl, HB.out⟩
 | some j =>
  have hj := (plF_ge l 0 0 j hp).2; rw [Nat.zero_add] at hj; rw [hp] at hR hP; simp only [List.getElem?_eq_getElem hj, Option.getD_some] at hR; rw [hR]; simp only [retO] at hP; obtain ⟨b, off, rfl, hbl, hq⟩ := tok_far h hj; have hM := fun W => among_tok l[j] ⟨#[125]⟩ W (by decide); have hcn : isB l[j] sRc = amongB l[j] [125] := (among_one l[j] 125).symm; have HQ := Lib.hid hq; generalize l[j] = t at *; obtain ⟨kd, tx, ps⟩ := t; simp only [tokV] at hM HQ; rw [hcn]; change ∀ W, Calls _ _ _ _ (fun e w' => e = .returned (.bool (amongB ⟨kd, tx, ps⟩ [125])) /\ _) at hM; generalize amongB ⟨kd, tx, ps⟩ [125] = ab at *; have HC := Lib.hid hc; clear h hR hp hq hc hcn; go_enter Tryz.func101, Tryz.ntmps101; go_wp2_with fail; refine hP.mono ?_; rintro _ w2 ⟨rfl, hb2⟩; have hcc := HC.out.below hb2 HC.out.lt; obtain ⟨q0, q1, q2⟩ := HQ.out w2 (hb0.trans (hb2.mono hb0.size)); have hlt := hcc.lt; have HB := Lib.hid (hb0.trans (hb2.mono hb0.size)); have hccc0 := hcc.cell 0 _ rfl; have hccf0 := hcc.frozen 0; have hccc1 := hcc.cell 1 _ rfl; have hccf1 := hcc.frozen 1; have hccc2 := hcc.cell 2 _ rfl; have hccf2 := hcc.frozen 2; have hccc3 := hcc.cell 3 _ rfl; have hccf3 := hcc.frozen 3; clear hP hb0 hb2 hcc; go_wp2_with fail; refine (hM _).mono ?_; rintro _ w3 ⟨rfl, hb3⟩; have HB3 := Lib.hid (HB.out.trans (hb3.mono HB.out.size)); clear hM hb3; go_wp2_with fail; go_ret; exact ⟨rfl, HB3.out⟩
theorem lkOpens_any (w : World) (lv : Value) (l : List Tok) (lo hi d : Int) (h : ToksAt w lv l) (hl : l.length <= 1000000) :
  Calls Tryz.prog 102 #[rowV lv lo hi d] w fun e w' => e = .returned (.bool (opR l)) /\ Below w.heap.size w w' := by
 obtain ⟨a, c, rfl, h1, h2, -⟩ := h.len; unfold maxLen at h2; have hb0 : Below w.heap.size w (w.alloc (.cells #[.slice a l.length c, .int .i64 lo, .int .i64 hi, .int .i64 d] 110)) := (Below.refl _ w).alloc (Nat.le_refl _) _; have HC := Lib.hid (Cells.new w #[.slice a l.length c, .int .i64 lo, .int .i64 hi, .int .i64 d] 110); have HB0 := Lib.hid hb0; have HT := Lib.hid h; have kq : IntKind.i64.wrap ((l.length : Int) - 1) = (l.length : Int) - 1 := IntWalk.i64_in _ (by omega); clear h hb0; go_enter Tryz.func102, Tryz.ntmps102; go_wp2_with fail; go_loopw [3] (fun v wr => ∃ k : Nat, k <= l.length /\ v = .int .i64 ((k : Int) - 1) /\ Hid (opR (l.take k) = opR l) /\ Below w.heap.size w wr /\ Cells wr w.heap.size #[.slice a l.length c, .int .i64 lo, .int .i64 hi, .int .i64 d] 110) (fun v _ => (intOf v + 1).toNat)
 case atStart => exact ⟨l.length, Nat.le_refl _, by go_num, Lib.hid (by rw [List.take_length]), HB0.out, HC.out⟩
 case round =>
  obtain ⟨k, hk, rfl, HA, hb, hcc⟩ := hrel; have HB := Lib.hid hb; have HCC := Lib.hid hcc; have hcl := hcc.lt
  cases k with
  | zero =>
   clear hb; have hccc0 := hcc.cell 0 _ rfl; have hccf0 := hcc.frozen 0; have hccc1 := hcc.cell 1 _ rfl; have hccf1 := hcc.frozen 1; have hccc2 := hcc.cell 2 _ rfl; have hccf2 := hcc.frozen 2; have hccc3 := hcc.cell 3 _ rfl; have hccf3 := hcc.frozen 3; clear hcc; go_wp2_with fail; go_ret; rw [<- HA.out]; exact ⟨rfl, HB.out⟩
  | succ k =>
   have hkl : k < l.length := by omega
   obtain ⟨b, off, rfl, hbl, hq⟩ := tok_far (HT.out.below hb (Nat.le_refl _)) hkl; obtain ⟨q0, q1, q2⟩ := hq wr (Below.refl _ _); have hS := opR_take hkl; have hk1 : IntKind.i64.wrap ((k : Int) - 1) = (k : Int) - 1 := IntWalk.i64_in _ (by omega); have hk2 : ((k + 1 : Nat) : Int) - 1 = (k : Int) := by omega
   rw [hk2]; have HQ := Lib.hid hq; generalize l[k] = t at *; have hC := lkCom_any t wr; have hM := fun W => among_tok t ⟨#[123]⟩ W (by decide); rw [show isB t sLc = amongB t [123] from (among_one t 123).symm] at hS; obtain ⟨kd, tx, ps⟩ := t; simp only [tokV] at hC hM q0 q1 q2 HQ; change ∀ W, Calls _ _ _ _ (fun e w' => e = .returned (.bool (amongB ⟨kd, tx, ps⟩ [123])) /\ _) at hM; generalize comB ⟨kd, tx, ps⟩ = cb at *; generalize amongB ⟨kd, tx, ps⟩ [123] = ab at *; have HS := Lib.hid hS; have HX := Lib.hid (HB.out.alloc HB.out.size (tokB ⟨kd, tx, ps⟩)); have HD := Lib.hid (HCC.out.alloc (tokB ⟨kd, tx, ps⟩)); have hccc0 := hcc.cell 0 _ rfl; have hccf0 := hcc.frozen 0; have hccc1 := hcc.cell 1 _ rfl; have hccf1 := hcc.frozen 1; have hccc2 := hcc.cell 2 _ rfl; have hccf2 := hcc.frozen 2; have hccc3 := hcc.cell 3 _ rfl; have hccf3 := hcc.frozen 3; clear hS hb hk2 hq hcc
   cases cb with
   | true =>
    go_wp2_with fail; refine hC.mono ?_; rintro _ _ ⟨rfl, rfl⟩; clear hC hM; go_wp2_with fail; go_roundw
    case rel => exact ⟨k, by omega, rfl, Lib.hid (by rw [<- HA.out, HS.out]; try rfl), HX.out, HD.out⟩
    case measure => simp [intOf] <;> omega
   | false =>
    go_wp2_with fail; refine hC.mono ?_; rintro _ _ ⟨rfl, rfl⟩; clear hC; go_wp2_with fail; refine (hM _).mono ?_; rintro _ w4 ⟨rfl, hb4⟩; have HB4 := Lib.hid (below_more HX.out hb4); clear hM hb4; go_wp2_with fail; go_ret; rw [<- HA.out, HS.out]; exact ⟨rfl, HB4.out⟩
end Go.Proofs.YtbcdaaobbebooaaGreatDoor
namespace Go.Proofs.YtbcdaaobbebooaaGreatDoor
set_option maxRecDepth 100000
set_option maxHeartbeats 20000000
def ahFr (r : RowD) (i : Nat) : Int := match i with
 | 0 => r.lo
 | i + 1 => (r.toks[i]?.map (fun t => t.pos + (t.text.size : Int))).getD 0
def ahTo (r : RowD) (i : Nat) : Int := (r.toks[i]?.map (·.pos)).getD r.hi
def cutB (l : Bs) (a b : Int) : Bs := (l.take b.toNat).drop a.toNat
def ahB (l : Bs) (r : RowD) (i : Nat) : Bs := cutB l (ahFr r i) (ahTo r i)
def FitD (l : Bs) (r : RowD) : Prop := ∀ i, i <= r.toks.length -> 0 <= ahFr r i /\ ahFr r i <= ahTo r i /\ ahTo r i <= (l.length : Int) /\ ∀ c ∈ ahB l r i, c.toNat < 128
def blkN (b : Bs) (n : Int) : Bool := decide ((b.length : Int) = n) && decide ((b.count 32 : Int) = n)
def endB (l : Bs) : Bool := match l.getLast? with | some c => decide (c = 10) | none => true
def badB (b : Bs) : Bool := b.any fun c => decide (c = 9) || decide (c = 13)
def cleanF (l : Bs) (r : RowD) : Nat -> Nat -> Bool
 | 0, _ => true
 | n + 1, i => !badB (ahB l r i) && cleanF l r n (i + 1)
def clean1 (l : Bs) (r : RowD) : Bool := cleanF l r r.toks.length 0 && (ahB l r r.toks.length).isEmpty
def cleanL (l : Bs) : List RowD -> Bool
 | [] => true
 | r :: R => clean1 l r && cleanL l R
def empty1 (p q : Option RowD) : Bool := match p, q with
 | some p, some q => !p.toks.isEmpty && (!opR p.toks && !clR q.toks)
 | _, _ => false
def emptyL : Option RowD -> List RowD -> Bool
 | _, [] => true
 | p, r :: R => (!r.toks.isEmpty || empty1 p R.head?) && emptyL (some r) R
def indent1 (l : Bs) (r : RowD) : Bool := r.toks.isEmpty || blkN (ahB l r 0) (2 * r.dep)
def indentL (l : Bs) : List RowD -> Bool
 | [] => true
 | r :: R => indent1 l r && indentL l R
def eqI (r : RowD) : Int := match eqR r.toks with
 | some i => (i : Int)
 | none => -1
def spaceF (l : Bs) (r : RowD) : Nat -> Nat -> Bool
 | 0, _ => true
 | n + 1, i => (decide ((i : Int) = eqI r) || blkN (ahB l r i) (gapN r.toks i)) && spaceF l r n (i + 1)
def spaceL (l : Bs) : List RowD -> Bool
 | [] => true
 | r :: R => spaceF l r (r.toks.length - 1) 1 && spaceL l R
def gap6 (l : Bs) (r : RowD) (i : Nat) : Bool := !(ahB l r i).isEmpty && blkN (ahB l r i) (ahB l r i).length
def col6 (l : Bs) (r : RowD) (i : Nat) : Int := (cntB (cutB l r.lo (ahTo r i)) : Int)
def alignL (l : Bs) : List RowD -> Int -> Bool -> Bool
 | [], _, near => near
 | r :: R, col, near => match eqR r.toks with
  | none => near && alignL l R (-1) true
  | some i => gap6 l r i && (decide (col6 l r i = if col < 0 then col6 l r i else col) &&
    alignL l R (if col < 0 then col6 l r i else col) ((if col < 0 then false else near) || decide ((ahB l r i).length = 1)))
def fullL : List RowD -> Option RowD
 | [] => none
 | r :: R => if r.toks.isEmpty then fullL R else some r
def comLast (r : RowD) : Bool := match r.toks.getLast? with | some t => comB t | none => false
def comHead (r : RowD) : Bool := match r.toks.head? with | some t => comB t | none => false
def join1 (r : RowD) (q : Option RowD) : Bool := !opR r.toks || (comLast r || match q with
 | none => true
 | some q => !clR q.toks || comHead q)
def joinL : List RowD -> Bool
 | [] => true
 | r :: R => join1 r (fullL R) && joinL R
def rulesP (l : Bs) (R : List RowD) : List Bool := [endB l, cleanL l R, emptyL none R, indentL l R, spaceL l R, alignL l R (-1) true, joinL R]
def numsF : List Bool -> Int -> List Int
 | [], _ => []
 | b :: r, i => if b then numsF r (i + 1) else i :: numsF r (i + 1)
def brokenP (l : Bs) : List Int := if (linesP l).2.2 = 0 then numsF (rulesP l (rowsP l)) 1 else [-1]
def checkP (l : Bs) : Int := (brokenP l).head?.getD 0
def fitsB (l : Bs) (R : List RowD) : Bool := R.all fun r => (List.range (r.toks.length + 1)).all fun i => decide (0 <= ahFr r i) && (decide (ahFr r i <= ahTo r i) && (decide (ahTo r i <= (l.length : Int)) && (ahB l r i).all fun c => decide (c.toNat < 128)))
theorem fits_of {l : Bs} {R : List RowD} (h : fitsB l R = true) : ∀ r ∈ R, FitD l r := by
 intro r hr i hi; unfold fitsB at h; rw [List.all_eq_true] at h; have h2 := h r hr; rw [List.all_eq_true] at h2; have h3 := h2 i (List.mem_range.2 (by omega))
 simpa using h3
abbrev ex15a : Bs := [97, 32, 61, 32, 49]
abbrev ex15b : Bs := [97, 61, 49, 10]
abbrev ex15c : Bs := [97, 32, 61, 32, 49, 10]
theorem broken_a : brokenP ex15a = [1] /\ fitsB ex15a (rowsP ex15a) = true := by constructor <;> kernel_rfl
theorem broken_b : brokenP ex15b = [5, 6] /\ fitsB ex15b (rowsP ex15b) = true := by constructor <;> kernel_rfl
theorem broken_c : brokenP ex15c = [] /\ fitsB ex15c (rowsP ex15c) = true := by constructor <;> kernel_rfl
end Go.Proofs.YtbcdaaobbebooaaGreatDoor
namespace Go.Proofs.YtbcdaaobbebooaaGreatDoor
set_option maxRecDepth 100000
set_option maxHeartbeats 20000000
open Go.RowKit Go.Tab
abbrev txV (s : ByteArray) (v : Value) : Value := .agg #[.string s, v]
theorem cut_list (s : ByteArray) (i j : Nat) : (s.extract i j).data.toList = (s.data.toList.take j).drop i := by
 simp [ByteArray.data_extract, Array.toList_extract, List.extract, List.drop_take]
theorem new2 (w : World) (A B : Array Value) (T U : TypeId) (n : Nat) : Cells (((w.alloc (.cells A T)).alloc (.cells B U)).drewN n) w.heap.size A T /\ Cells (((w.alloc (.cells A T)).alloc (.cells B U)).drewN n) (w.heap.size + 1) B U /\ Below w.heap.size w (((w.alloc (.cells A T)).alloc (.cells B U)).drewN n) := by
 have q := Cells.new (w.alloc (.cells A T)) B U; simp only [World.size_alloc] at q; exact ⟨(Cells.new w A T).alloc _, q, below_drewN (((Below.refl _ w).alloc (Nat.le_refl _) _).alloc (by simp) _) n⟩
theorem ahead_any (s : ByteArray) (ra : Option Addr) (rn rc : Nat) (lv : Value) (r : RowD) (i : Nat) (w : World) (h : ToksAt w lv r.toks) (hl : r.toks.length <= 1000000) (hi : i <= r.toks.length) (hs : s.size <= 800000) (hf : FitD s.data.toList r) :
  Calls Tryz.prog 139 #[txV s (.slice ra rn rc), rowV lv r.lo r.hi r.dep, .int .i64 (i : Nat)] w fun e w' => e = .returned (.string (strL (ahB s.data.toList r i))) /\ Below w.heap.size w w' := by
 obtain ⟨f1, f2, f3, -⟩ := hf i hi; rw [size_list2] at f3; obtain ⟨x, hx⟩ : ∃ x : Nat, ahFr r i = x := ⟨(ahFr r i).toNat, by omega⟩; obtain ⟨y, hy⟩ : ∃ y : Nat, ahTo r i = y := ⟨(ahTo r i).toNat, by omega⟩
 have hE : s.extract x y = strL (ahB s.data.toList r i) := by
  apply str_ext
  rw [cut_list, strL_list]; unfold ahB cutB; rw [hx, hy]; rfl
 rw [<- hE]; rw [hx] at f1 f2; rw [hy] at f2 f3; have hb3 : (0 : Int) <= x /\ (x : Int) <= y /\ (y : Int) <= s.size := ⟨f1, f2, f3⟩; clear hE hf f1 f2 f3; obtain ⟨toks, lo, hi2, dep⟩ := r; obtain ⟨a, c, rfl, h1, h2, -⟩ := h.len; unfold maxLen at h2; simp only at hl hi h1 h2 h hx hy ⊢; have HN := Lib.hid (new2 w #[.string s, .slice ra rn rc] #[.slice a toks.length c, .int .i64 lo, .int .i64 hi2, .int .i64 dep] 98 110); have HT := Lib.hid h; clear h
 cases i with
 | zero =>
  have hx : lo = x := hx; subst hx
  by_cases hk : 0 < toks.length
  ·obtain ⟨b, off, rfl, hbl, hq⟩ := tok_far HT.out hk
   have hy : toks[0].pos = y := by
    unfold ahTo at hy
    simpa [List.getElem?_eq_getElem hk] using hy
   rw [hy] at hq; have HQ := Lib.hid hq; clear hq hy hi; go_enter Tryz.func139, Tryz.ntmps139; go_wp2_with fail; go_quiet (fail)
   have q2 := (HQ.out _ (HN.out nq).2.2).2.2; have hB := HN.out nq; have e0 := hB.1.cell 0 _ rfl; have e1 := hB.2.1.cell 0 _ rfl; have e2 := hB.2.1.cell 1 _ rfl; have e3 := hB.2.1.cell 2 _ rfl; have l0 := hB.1.lt; have l1 := hB.2.1.lt; clear hB; go_wp2_with fail; go_ret; exact ⟨rfl, (HN.out nq).2.2⟩
  ·obtain rfl : toks = [] := List.length_eq_zero_iff.1 (by omega)
   have hy : hi2 = y := hy; subst hy; clear HT; go_enter Tryz.func139, Tryz.ntmps139; go_wp2_with fail; go_quiet (fail)
   have hB := HN.out nq; have e0 := hB.1.cell 0 _ rfl; have e1 := hB.2.1.cell 0 _ rfl; have e2 := hB.2.1.cell 1 _ rfl; have e3 := hB.2.1.cell 2 _ rfl; have l0 := hB.1.lt; have l1 := hB.2.1.lt; clear hB; go_wp2_with fail; go_ret; exact ⟨rfl, (HN.out nq).2.2⟩
 | succ i =>
  have hki : i < toks.length := by omega
  obtain ⟨b, off, rfl, hbl, hq⟩ := tok_far HT.out hki
  have hx : toks[i].pos + (toks[i].text.size : Int) = x := by
   unfold ahFr at hx
   simpa [List.getElem?_eq_getElem hki] using hx
  have HQ := Lib.hid hq; generalize toks[i] = u at *; obtain ⟨uk, ut, up⟩ := u; simp only at hx HQ; have kw : IntKind.i64.wrap (up + (ut.size : Int)) = (x : Int) := by rw [hx]; exact IntWalk.i64_in _ (by omega)
  have k0 : IntKind.i64.wrap (((i + 1 : Nat) : Int) - 1) = (i : Int) := by rw [IntWalk.i64_in _ (by omega)]; omega
  clear hq hx
  by_cases hk : i + 1 < toks.length
  ·obtain ⟨b', off', e', -, hr⟩ := tok_far HT.out hk
   cases e'
   have hy : toks[i + 1].pos = y := by
    unfold ahTo at hy
    simpa [List.getElem?_eq_getElem hk] using hy
   rw [hy] at hr; have HR := Lib.hid hr; clear hr hy hi; go_enter Tryz.func139, Tryz.ntmps139; go_wp2_with fail; go_quiet (fail)
   obtain ⟨q0, q1, q2⟩ := HQ.out _ (HN.out nq).2.2; have r2 := (HR.out _ (HN.out nq).2.2).2.2; have hB := HN.out nq; have e0 := hB.1.cell 0 _ rfl; have e1 := hB.2.1.cell 0 _ rfl; have e2 := hB.2.1.cell 1 _ rfl; have e3 := hB.2.1.cell 2 _ rfl; have l0 := hB.1.lt; have l1 := hB.2.1.lt; clear hB; have lb : b < w.heap.size + 1 + 1 := by omega
   go_wp2_with fail; go_ret; exact ⟨rfl, (HN.out nq).2.2.alloc (HN.out nq).2.2.size _⟩
  ·have hy : hi2 = y := by
    unfold ahTo at hy
    simpa [List.getElem?_eq_none (show toks.length <= i + 1 by omega)] using hy
   subst hy; clear hi; go_enter Tryz.func139, Tryz.ntmps139; go_wp2_with fail; go_quiet (fail)
   obtain ⟨q0, q1, q2⟩ := HQ.out _ (HN.out nq).2.2; have hB := HN.out nq; have e0 := hB.1.cell 0 _ rfl; have e1 := hB.2.1.cell 0 _ rfl; have e2 := hB.2.1.cell 1 _ rfl; have e3 := hB.2.1.cell 2 _ rfl; have l0 := hB.1.lt; have l1 := hB.2.1.lt; clear hB; go_wp2_with fail; go_ret; exact ⟨rfl, (HN.out nq).2.2.alloc (HN.out nq).2.2.size _⟩
theorem blanks_any (s : ByteArray) (n : Int) (w : World) : Calls Tryz.prog 141 #[.string s, .int .i64 n] w fun e w' => e = .returned (.bool (blkN s.data.toList n)) /\ w' = w := by
 have hC := fun W => Tryz.strings_Count_one s 32 W; have e1 := int_dec (s.size : Int) n; have e2 := int_dec (Lib.countByte s.data.toList 32 : Int) n
 have hR : blkN s.data.toList n = (decide ((s.size : Int) = n) && decide ((Lib.countByte s.data.toList 32 : Int) = n)) := by
  unfold blkN; rw [size_list2]; rfl
 rw [hR]; generalize decide ((s.size : Int) = n) = b1 at *; generalize decide ((Lib.countByte s.data.toList 32 : Int) = n) = b2 at *; generalize (Lib.countByte s.data.toList 32 : Int) = m at *; clear hR; go_enter Tryz.func141, Tryz.ntmps141; cases b1
 ·go_wp2
  go_ret; exact ⟨rfl, rfl⟩
 ·go_wp2_with fail
  refine (hC _).mono ?_; rintro _ _ ⟨rfl, rfl⟩; go_wp2_with fail; go_ret; exact ⟨rfl, rfl⟩
theorem lkEmpty_any (w : World) (a : Option Addr) (n c : Nat) (lo hi d : Int) : Calls Tryz.prog 140 #[rowV (.slice a n c) lo hi d] w fun e w' => e = .returned (.bool (decide (n = 0))) /\ Below w.heap.size w w' := by
 have hb0 : Below w.heap.size w (w.alloc (.cells #[.slice a n c, .int .i64 lo, .int .i64 hi, .int .i64 d] 110)) := (Below.refl _ w).alloc (Nat.le_refl _) _; have HB := Lib.hid hb0; have e1 : ((n : Int) == 0) = decide (n = 0) := by rw [int_dec]; congr 1; simp
 clear hb0; generalize decide (n = 0) = b at *; go_enter Tryz.func140, Tryz.ntmps140; go_wp2_with fail; go_ret; exact ⟨rfl, HB.out⟩
theorem end_suf (l : Bs) : endB l = (l.isEmpty || Lib.hasSuffix l [10]) := by
 unfold endB Lib.hasSuffix; rcases List.eq_nil_or_concat l with rfl | ⟨q, c, rfl⟩
 ·rfl
 ·rw [List.concat_eq_append, List.getLast?_concat]
  have e : List.isSuffixOf [10] (q ++ [c]) = ((10 : UInt8) == c) := by
   unfold List.isSuffixOf; rw [List.reverse_append]; simp [List.isPrefixOf]
  have e2 : (q ++ [c]).isEmpty = false := by cases q <;> rfl
  rw [e, e2, Bool.false_or]; show decide (c = 10) = _
  by_cases h : c = 10
  ·subst h; rfl
  ·rw [decide_eq_false h]
   symm
   rw [beq_eq_false_iff_ne]; exact fun q => h q.symm
theorem ended_any (s : ByteArray) (ra : Option Addr) (rn rc : Nat) (w : World) (hs : s.size <= 800000) : Calls Tryz.prog 103 #[txV s (.slice ra rn rc)] w fun e w' => e = .returned (.bool (endB s.data.toList)) /\ Below w.heap.size w w' := by
 have hC := fun W => Tryz.strings_HasSuffix s ⟨#[10]⟩ W (by omega); have HB : Hid (Below w.heap.size w (w.alloc (.cells #[.string s, .slice ra rn rc] 98))) := Lib.hid ((Below.refl _ w).alloc (Nat.le_refl _) _); have et := text_dec s ⟨#[]⟩
 have e2 : s.data.toList.isEmpty = decide (s = ⟨#[]⟩) := by
  by_cases h : s = ⟨#[]⟩
  ·subst h; rfl
  ·rw [decide_eq_false h]
   cases hl : s.data.toList with
   | nil => exact absurd (str_ext (by rw [hl])) h
   | cons a l => rfl
 have et2 : s.toList.isEmpty = decide (s = ⟨#[]⟩) := by
  by_cases h : s = ⟨#[]⟩
  ·subst h; rw [decide_eq_true rfl]; kernel_rfl
  ·rw [decide_eq_false h]
   exact ne_emp fun h0 => h (str_ext (List.eq_nil_of_length_eq_zero (by rw [size_list2]; exact h0)))
 rw [end_suf, e2]; change ∀ W, Calls _ _ _ _ (fun e w' => e = .returned (.bool (Lib.hasSuffix s.data.toList [10])) /\ _) at hC; generalize decide (s = ⟨#[]⟩) = b at *; generalize Lib.hasSuffix s.data.toList [10] = b2 at *; clear e2 hs; go_enter Tryz.func103, Tryz.ntmps103; cases b
 ·go_wp2_with fail
  refine (hC _).mono ?_; rintro _ _ ⟨rfl, rfl⟩; clear hC; go_wp2_with fail; go_ret; exact ⟨rfl, HB.out⟩
 ·go_wp2
  go_ret; exact ⟨rfl, HB.out⟩
theorem eqI_pl (r : RowD) : eqI r = match plF r.toks 0 1 with
  | some j => if isB (r.toks[j]?.getD ⟨0, ⟨#[]⟩, 0⟩) sEq then (j : Int) else -1
  | none => -1 := by
 unfold eqI eqR
 cases plF r.toks 0 1 with
 | none => rfl
 | some j =>
  simp only; split <;> rename_i h
  ·split at h
   ·next q => cases h; rw [if_pos q]
   ·cases h
  ·split at h
   ·cases h
   ·next q => rw [if_neg q]
theorem lkEq_any (w : World) (lv : Value) (r : RowD) (h : ToksAt w lv r.toks) (hl : r.toks.length <= 1000000) :
  Calls Tryz.prog 142 #[rowV lv r.lo r.hi r.dep] w fun e w' => e = .returned (.int .i64 (eqI r)) /\ Below w.heap.size w w' := by
 have hR := eqI_pl r; obtain ⟨l, lo, hi, d⟩ := r; simp only at h hl hR ⊢; obtain ⟨a, c, rfl, h1, h2, -⟩ := h.len; unfold maxLen at h2; have hb0 : Below w.heap.size w (w.alloc (.cells #[.slice a l.length c, .int .i64 lo, .int .i64 hi, .int .i64 d] 110)) := (Below.refl _ w).alloc (Nat.le_refl _) _; have hP := lkPlain_any _ _ l lo hi d 1 (h.below hb0 (Nat.le_refl _)) hl (by omega); have hc := (Cells.new w #[.slice a l.length c, .int .i64 lo, .int .i64 hi, .int .i64 d] 110)
 cases hp : plF l 0 1 with
 | none =>
  rw [hp] at hR hP; rw [hR]; simp only [retO] at hP; clear h hR hp hc; go_enter Tryz.func142, Tryz.ntmps142; go_wp2_with fail; refine hP.mono ?_; rintro _ w2 ⟨rfl, hb2⟩; have HB := Lib.hid (hb0.trans (hb2.mono hb0.size)); clear hP hb0 hb2; go_wp2_with fail; go_ret; exact ⟨rfl, HB.out⟩
 | some j =>
  have hj := (plF_ge l 0 1 j hp).2; rw [Nat.zero_add] at hj; rw [hp] at hR hP; simp only [List.getElem?_eq_getElem hj, Option.getD_some] at hR; rw [hR]; simp only [retO] at hP; obtain ⟨b, off, rfl, hbl, hq⟩ := tok_far h hj; have hM := fun W => among_tok l[j] ⟨#[61]⟩ W (by decide); have hcn : isB l[j] sEq = amongB l[j] [61] := (among_one l[j] 61).symm; have HQ := Lib.hid hq; generalize l[j] = t at *; obtain ⟨kd, tx, ps⟩ := t; simp only [tokV] at hM HQ; rw [hcn]; change ∀ W, Calls _ _ _ _ (fun e w' => e = .returned (.bool (amongB ⟨kd, tx, ps⟩ [61])) /\ _) at hM; generalize amongB ⟨kd, tx, ps⟩ [61] = ab at *; have HC := Lib.hid hc; clear h hR hp hq hc hcn; go_enter Tryz.func142, Tryz.ntmps142; go_wp2_with fail; refine hP.mono ?_; rintro _ w2 ⟨rfl, hb2⟩; have hcc := HC.out.below hb2 HC.out.lt; obtain ⟨q0, q1, q2⟩ := HQ.out w2 (hb0.trans (hb2.mono hb0.size)); have hlt := hcc.lt; have HB := Lib.hid (hb0.trans (hb2.mono hb0.size)); have hccc0 := hcc.cell 0 _ rfl; have hccf0 := hcc.frozen 0; have hccc1 := hcc.cell 1 _ rfl; have hccf1 := hcc.frozen 1; have hccc2 := hcc.cell 2 _ rfl; have hccf2 := hcc.frozen 2; have hccc3 := hcc.cell 3 _ rfl; have hccf3 := hcc.frozen 3; clear hP hb0 hb2 hcc; go_wp2_with fail; refine (hM _).mono ?_; rintro _ w3 ⟨rfl, hb3⟩; have HB3 := Lib.hid (HB.out.trans (hb3.mono HB.out.size)); clear hM hb3; cases ab
  all_goals
   go_wp2_with fail; go_ret; exact ⟨rfl, HB3.out⟩
structure Opn where
 x : Itm
 cs : List Value
 iv : Value
def Inn (B g : Nat) (rb : Option Nat) (v : Value) (C : List Opn) (b : Nat) : Prop := B <= b /\ b ≠ g /\ rb ≠ some b /\ v.ownBlock ≠ some b /\ ∀ c ∈ C, c.iv.ownBlock ≠ some b
def OneAt (P : Nat -> Prop) (B : Nat) (w : World) (c : Opn) : Prop :=
 ∃ (b : Bool) (n : ByteArray) (e : Exp) (ls : List ByteArray) (vo vt : ByteArray) (vk lv : Value) (L : List (Itm × List Value)), c.x = .mk b n e ls (L.map (·.1)) /\ c.cs = [.bool b, .string n, .string vo, .string vt, vk, lv, c.iv] /\
  ExpIn P w e [.string vo, .string vt, vk] /\ RowIn P w lv ls /\ w.ownsRow B 54 7 c.iv L.length (L.flatMap (·.2)) /\ ∀ s ∈ L, ItmIn P w s.1 s.2
structure Apart (g : Nat) (rb : Option Nat) (v : Value) (C : List Opn) : Prop where
 vg : v.ownBlock ≠ some g
 vr : ∀ b, v.ownBlock = some b -> rb ≠ some b
 rg : rb ≠ some g
 one : ∀ c ∈ C, ∀ b, c.iv.ownBlock = some b -> v.ownBlock ≠ some b /\ b ≠ g /\ rb ≠ some b
 two : C.Pairwise (fun c d => ∀ b, c.iv.ownBlock = some b -> d.iv.ownBlock ≠ some b)
structure StC (B g : Nat) (rb : Option Nat) (w : World) (v : Value) (C : List Opn) : Prop where
 gl : g < w.heap.size
 rl : ∀ b, rb = some b -> b < w.heap.size
 row : w.ownsRow B 54 7 v C.length (C.flatMap (·.cs))
 apart : Apart g rb v C
 all : ∀ c ∈ C, OneAt (Inn B g rb v C) B w c
def StAt (B g : Nat) (rb : Option Nat) (w : World) (v : Value) (st : List Itm) : Prop := ∃ C, st = C.map (·.x) /\ StC B g rb w v C
theorem own_moved {base size n : Nat} {e : TypeId} {w w' : World} {v : Value} {xs : List Value} (h : w.ownsRow base e size v n xs) (hc : ∀ k, v.ownBlock = some k -> w'.heap[k]? = w.heap[k]?) : w'.ownsRow base e size v n xs := by
 obtain ⟨h1, h2⟩ := h; refine ⟨h1, ?_⟩; rcases h2 with h2 | ⟨g, cap, cur, rfl, hg0, hg, r⟩
 ·exact .inl h2
 ·exact .inr ⟨g, cap, cur, rfl, hg0, by rw [hc g rfl]; exact hg, r⟩
theorem OneAt.move {P Q : Nat -> Prop} {B : Nat} {w w' : World} {c : Opn} (hs : w.heap.size <= w'.heap.size) (hb : ∀ k, P k -> k < w.heap.size -> w'.heap[k]? = w.heap[k]?) (hq : ∀ k, P k -> k < w.heap.size -> Q k)
  (hi : ∀ k, c.iv.ownBlock = some k -> w'.heap[k]? = w.heap[k]?) (h : OneAt P B w c) : OneAt Q B w' c := by
 obtain ⟨b, n, e, ls, vo, vt, vk, lv, L, h1, h2, h3, h4, h5, h6⟩ := h; exact ⟨b, n, e, ls, vo, vt, vk, lv, L, h1, h2, ExpIn.move hs hb hq e _ h3, h4.move hs hb hq, own_moved h5 hi, fun s hm => ItmIn.move hs hb hq _ _ (h6 s hm)⟩
theorem own_same {base : Nat} {e : TypeId} {w : World} {v : Value} {n m : Nat} {xs ys : List Value} (h1 : w.ownsRow base e 7 v n xs) (h2 : w.ownsRow base e 7 v m ys) : n = m /\ xs = ys := by
 obtain ⟨a1, a2⟩ := h1; obtain ⟨b1, b2⟩ := h2; rcases a2 with ⟨rfl, rfl⟩ | ⟨g, cap, cur, rfl, -, hg, -, -, -, r⟩
 ·rcases b2 with ⟨-, rfl⟩ | ⟨g', cap', cur', he, -⟩
  ·exact ⟨rfl, (List.eq_nil_of_length_eq_zero (by simpa using a1)).trans (List.eq_nil_of_length_eq_zero (by simpa using b1)).symm⟩
  ·cases he
 ·rcases b2 with ⟨he, -⟩ | ⟨g', cap', cur', he, -, hg', -, -, -, r'⟩
  ·cases he
  ·cases he
   rw [hg] at hg'; cases hg'
   exact ⟨rfl, r.symm.trans r'⟩
theorem OneAt.len {P : Nat -> Prop} {B : Nat} {w : World} {c : Opn} (h : OneAt P B w c) : c.cs.length = 7 := by
 obtain ⟨b, n, e, ls, vo, vt, vk, lv, L, h1, h2, -⟩ := h; rw [h2]; rfl
theorem OneAt.cell6 {P : Nat -> Prop} {B : Nat} {w : World} {c : Opn} (h : OneAt P B w c) : c.cs[6]? = some c.iv := by
 obtain ⟨b, n, e, ls, vo, vt, vk, lv, L, h1, h2, -⟩ := h; rw [h2]; rfl
theorem StC.lt {B g : Nat} {rb : Option Nat} {w : World} {v : Value} {C : List Opn} (h : StC B g rb w v C) {b : Nat} (hb : v.ownBlock = some b \/ ∃ c ∈ C, c.iv.ownBlock = some b) : B <= b /\ b < w.heap.size := by
 rcases hb with hb | ⟨c, hc, hb⟩
 ·exact World.ownsRow.lt h.row b hb
 ·obtain ⟨_, _, _, _, _, _, _, _, _, -, -, -, -, h5, -⟩ := h.all c hc
  exact World.ownsRow.lt h5 b hb
theorem StC.keep {B g : Nat} {rb rb' : Option Nat} {w w' : World} {v : Value} {C : List Opn} (h : StC B g rb w v C) (hs : w.heap.size <= w'.heap.size) (hk : ∀ b, b < w.heap.size -> b ≠ g -> rb ≠ some b -> w'.heap[b]? = w.heap[b]?)
  (hr : ∀ b, rb' = some b -> (rb = some b \/ w.heap.size <= b) /\ b < w'.heap.size) : StC B g rb' w' v C := by
 have hr2 : ∀ b, b < w.heap.size -> rb ≠ some b -> rb' ≠ some b := fun b hl hn e => (hr b e).1.elim hn (fun q => by omega); refine ⟨Nat.lt_of_lt_of_le h.gl hs, fun b e => (hr b e).2, own_moved h.row (fun k e => hk k (h.lt (.inl e)).2 (fun q => h.apart.vg (by rw [e, q])) (h.apart.vr k e)), ⟨h.apart.vg, fun b e => hr2 b (h.lt (.inl e)).2 (h.apart.vr b e), hr2 g h.gl h.apart.rg, fun c hc b e => ?_, h.apart.two⟩, fun c hc => ?_⟩
 ·obtain ⟨q1, q2, q3⟩ := h.apart.one c hc b e
  exact ⟨q1, q2, hr2 b (h.lt (.inr ⟨c, hc, e⟩)).2 q3⟩
 ·refine (h.all c hc).move hs (fun k hP hl => hk k hl hP.2.1 hP.2.2.1) (fun k hP hl => ⟨hP.1, hP.2.1, hr2 k hl hP.2.2.1, hP.2.2.2⟩) (fun k e => ?_)
  obtain ⟨q1, q2, q3⟩ := h.apart.one c hc k e; exact hk k (h.lt (.inr ⟨c, hc, e⟩)).2 q2 q3
theorem flat_len : ∀ (C : List Opn), (∀ c ∈ C, c.cs.length = 7) -> (C.flatMap (·.cs)).length = C.length * 7
 | [], _ => rfl
 | c :: r, h => by
  have h1 := h c (by simp); have h2 := flat_len r (fun d hd => h d (by simp [hd])); simp only [List.flatMap_cons, List.length_append, List.length_cons, h1, h2]; omega
theorem flat_top (C : List Opn) (c : Opn) (h : ∀ d ∈ C, d.cs.length = 7) (j : Nat) : ((C ++ [c]).flatMap (·.cs))[C.length * 7 + j]? = c.cs[j]? := by
 rw [List.flatMap_append, List.getElem?_append_right (by rw [flat_len C h]; omega), flat_len C h, show C.length * 7 + j - C.length * 7 = j by omega]; simp
theorem flat_set (C : List Opn) (c : Opn) (h : ∀ d ∈ C, d.cs.length = 7) (j : Nat) (u iv : Value) (x : Itm) : ((C ++ [c]).flatMap (·.cs)).set (C.length * 7 + j) u = (C ++ [Opn.mk x (c.cs.set j u) iv]).flatMap (·.cs) := by
 rw [List.flatMap_append, List.flatMap_append, List.set_append_right _ _ (by rw [flat_len C h]; omega), flat_len C h, show C.length * 7 + j - C.length * 7 = j by omega]; simp
theorem StC.add {B g g2 cap2 : Nat} {rb : Option Nat} {w w' : World} {v : Value} {C : List Opn} {c : Opn} {k : Nat} {ts xs : List Value} {x : Itm} (h : StC B g rb w v (C ++ [c])) (hx : ItmIn (Inn B g rb v (C ++ [c])) w x xs)
  (ht : w.ownsRow B 54 7 c.iv k ts) (h1 : w'.ownsRow B 54 7 (.slice (some ⟨g2, 0, none⟩) (k + 1) cap2) (k + 1) (ts ++ xs))
  (h2 : w'.ownsRow B 54 7 v (C.length + 1) (((C ++ [c]).flatMap (·.cs)).set (C.length * 7 + 6) (.slice (some ⟨g2, 0, none⟩) (k + 1) cap2)))
  (h3 : c.iv.ownBlock = some g2 \/ w.heap.size <= g2) (hs : w.heap.size <= w'.heap.size) (hf : ∀ b, b < w.heap.size -> v.ownBlock ≠ some b -> c.iv.ownBlock ≠ some b -> w'.heap[b]? = w.heap[b]?) :
  StC B g rb w' v (C ++ [⟨c.x.add x, c.cs.set 6 (.slice (some ⟨g2, 0, none⟩) (k + 1) cap2), .slice (some ⟨g2, 0, none⟩) (k + 1) cap2⟩]) := by
 have h7 : ∀ d ∈ C, d.cs.length = 7 := fun d hd => (h.all d (by simp [hd])).len
 have hP : ∀ b, Inn B g rb v (C ++ [c]) b -> b < w.heap.size -> Inn B g rb v (C ++ [⟨c.x.add x, c.cs.set 6 (.slice (some ⟨g2, 0, none⟩) (k + 1) cap2), .slice (some ⟨g2, 0, none⟩) (k + 1) cap2⟩]) b := fun b hb hl => by
  refine ⟨hb.1, hb.2.1, hb.2.2.1, hb.2.2.2.1, fun d hd => ?_⟩; rcases List.mem_append.1 hd with hd | hd
  ·exact hb.2.2.2.2 d (by simp [hd])
  ·simp at hd
   subst hd; intro e; simp only [Value.ownBlock, Option.some.injEq] at e; subst e; exact h3.elim (fun q => hb.2.2.2.2 c (by simp) q) (fun q => by omega)
 have hC : ∀ b, Inn B g rb v (C ++ [c]) b -> b < w.heap.size -> w'.heap[b]? = w.heap[b]? := fun b hb hl => hf b hl hb.2.2.2.1 (hb.2.2.2.2 c (by simp)); have hcA := h.apart.one c (by simp); have hg2 : v.ownBlock ≠ some g2 /\ g2 ≠ g /\ rb ≠ some g2 \/ w.heap.size <= g2 := h3.imp (fun e => hcA g2 e) id; refine ⟨Nat.lt_of_lt_of_le h.gl hs, fun b e => Nat.lt_of_lt_of_le (h.rl b e) hs, by rw [List.length_append]; rw [flat_set C c h7 6 _ (.slice (some ⟨g2, 0, none⟩) (k + 1) cap2) (c.x.add x)] at h2; exact h2, ⟨h.apart.vg, h.apart.vr, h.apart.rg, fun d hd b e => ?_, ?_⟩, fun d hd => ?_⟩
 ·rcases List.mem_append.1 hd with hd | hd
  ·exact h.apart.one d (by simp [hd]) b e
  ·simp at hd
   subst hd; simp only [Value.ownBlock, Option.some.injEq] at e; subst e; refine hg2.elim id (fun q => ⟨fun e => ?_, fun e => ?_, fun e => ?_⟩)
   ·have := (h.lt (.inl e)).2; omega
   ·have := h.gl; omega
   ·have := h.rl _ e; omega
 ·have h2 := h.apart.two
  rw [List.pairwise_append] at h2 ⊢; refine ⟨h2.1, by simp, fun d hd d2 hd2 b e => ?_⟩; simp at hd2
  subst hd2; intro e2; simp only [Value.ownBlock, Option.some.injEq] at e2; subst e2; exact h3.elim (fun q => h2.2.2 d hd c (by simp) _ e q) (fun q => by have := (h.lt (.inr ⟨d, by simp [hd], e⟩)).2; omega)
 ·rcases List.mem_append.1 hd with hd | hd
  ·refine (h.all d (by simp [hd])).move hs hC hP (fun b e => ?_)
   have h2 := h.apart.two; rw [List.pairwise_append] at h2; exact hf b (h.lt (.inr ⟨d, by simp [hd], e⟩)).2 (h.apart.one d (by simp [hd]) b e).1 (h2.2.2 d hd c (by simp) b e)
  ·simp at hd
   subst hd; obtain ⟨bb, n, e, ls, vo, vt, vk, lv, L, q1, q2, q3, q4, q5, q6⟩ := h.all c (by simp); obtain ⟨rfl, rfl⟩ : L.length = k /\ L.flatMap (·.2) = ts := own_same q5 ht; refine ⟨bb, n, e, ls, vo, vt, vk, lv, L ++ [(x, xs)], ?_, ?_, ExpIn.move hs hC hP e _ q3, q4.move hs hC hP, by simpa using h1, fun s hm => ?_⟩
   ·rw [q1]; simp [Itm.add]
   ·rw [q2]; rfl
   ·rcases List.mem_append.1 hm with hm | hm
    ·exact ItmIn.move hs hC hP _ _ (q6 s hm)
    ·simp at hm
     subst hm; exact ItmIn.move hs hC hP _ _ hx
abbrev SlT := Option Addr × Nat × Nat
def slT (s : SlT) : Value := .slice s.1 s.2.1 s.2.2
def rowC (d : SlT × RowD) : List Value := [slT d.1, .int .i64 d.2.lo, .int .i64 d.2.hi, .int .i64 d.2.dep]
theorem Tryz.infoRowL : (Tryz.prog.info? 110).map (fun i => (i.zero, i.size, i.bytes)) = some (some (.agg #[.slice none 0 0, .int .i64 0, .int .i64 0, .int .i64 0]), 4, 48) := by kernel_rfl
theorem own_ty {base n sz : Nat} {E : TypeId} {w : World} {v : Value} {xs : List Value} (h : w.ownsRow base E sz v n xs) : ∀ k, v.ownBlock = some k -> ∃ cs, w.heap[k]? = some (.cells cs E (0, 0)) := by
 intro k hk; rcases h.2 with ⟨rfl, -⟩ | ⟨g, cap, cur, rfl, -, hg, -⟩
 ·cases hk
 ·cases hk; exact ⟨cur, hg⟩
theorem own_box {base n sz g : Nat} {E t : TypeId} {w : World} {v : Value} {xs : List Value} {cs : Array Value} (h : w.ownsRow base E sz v n xs) (hc : Cells w g cs t) (ht : E ≠ t) : ∀ k, v.ownBlock = some k -> k ≠ g := by
 rintro k hk rfl; obtain ⟨cs2, h2⟩ := own_ty h k hk; have h3 : w.heap[k]? = some (.cells cs t (0, 0)) := hc; rw [h2] at h3; simp only [Option.some.injEq, Obj.cells.injEq] at h3; exact ht h3.2.1
theorem own_own {base base2 n n2 sz sz2 : Nat} {E t : TypeId} {w : World} {v u : Value} {xs ys : List Value} (h : w.ownsRow base E sz v n xs) (h2 : w.ownsRow base2 t sz2 u n2 ys) (ht : E ≠ t) : ∀ k, v.ownBlock = some k -> u.ownBlock ≠ some k := by
 intro k hk hk2; obtain ⟨cs, h3⟩ := own_ty h k hk; obtain ⟨cs2, h4⟩ := own_ty h2 k hk2; rw [h3] at h4; simp only [Option.some.injEq, Obj.cells.injEq] at h4; exact ht h4.2.1
structure RwS (B gr go gl : Nat) (w : World) (lv : Value) (D : List (SlT × RowD)) (cur : SlT) (toks : List Tok) (fr hi dp o : Int) : Prop where
 r : Cells w gr #[slT cur, .int .i64 fr, .int .i64 hi, .int .i64 dp] 110
 o : Cells w go #[.int .i64 o] 3
 l : Cells w gl #[lv] 95
 own : w.ownsRow B 110 4 lv D.length (D.flatMap rowC)
 lg : lv.ownBlock ≠ some gr
 tk : OwnT B w (slT cur) toks
 fin : ∀ d ∈ D, OwnT B w (slT d.1) d.2.toks /\ ∀ k, (slT d.1).ownBlock = some k -> (slT cur).ownBlock ≠ some k
 le : B <= gr /\ B <= go /\ B <= gl
section
variable {B gr go gl : Nat} {w w' : World} {lv : Value} {D : List (SlT × RowD)} {cur : SlT} {toks : List Tok} {fr hi dp o : Int}
theorem ownT_lt {v : Value} {l : List Tok} (h : OwnT B w v l) : ∀ k, v.ownBlock = some k -> k < w.heap.size := fun k hk => (World.ownsRow.lt h k hk).2
theorem RwS.moved (h : RwS B gr go gl w lv D cur toks fr hi dp o) (hk : ∀ k, k < w.heap.size -> k ≠ gr -> k ≠ go -> k ≠ gl -> w'.heap[k]? = w.heap[k]?) {fr' hi' dp' o' : Int}
  (hr : Cells w' gr #[slT cur, .int .i64 fr', .int .i64 hi', .int .i64 dp'] 110) (ho : Cells w' go #[.int .i64 o'] 3) (hl : Cells w' gl #[lv] 95) : RwS B gr go gl w' lv D cur toks fr' hi' dp' o' := by
 have hT : ∀ v l, OwnT B w v l -> OwnT B w' v l := fun v l hv => hv.moved fun k e => hk k (ownT_lt hv k e) (own_box hv h.r (by decide) k e) (own_box hv h.o (by decide) k e) (own_box hv h.l (by decide) k e); refine ⟨hr, ho, hl, own_moved h.own (fun k e => hk k (World.ownsRow.lt h.own k e).2 (fun q => h.lg (by rw [e, q])) (own_box h.own h.o (by decide) k e) (own_box h.own h.l (by decide) k e)), h.lg, hT _ _ h.tk, fun d hd => ⟨hT _ _ (h.fin d hd).1, (h.fin d hd).2⟩, h.le⟩
theorem RwS.below (h : RwS B gr go gl w lv D cur toks fr hi dp o) (hb : Below w.heap.size w w') : RwS B gr go gl w' lv D cur toks fr hi dp o :=
 h.moved (fun k hk _ _ _ => hb.block k hk) (h.r.below hb h.r.lt) (h.o.below hb h.o.lt) (h.l.below hb h.l.lt)
theorem RwS.ne (h : RwS B gr go gl w lv D cur toks fr hi dp o) : gr ≠ go /\ gr ≠ gl /\ go ≠ gl := by
 have hd : ∀ {g g2 : Nat} {cs cs2 : Array Value} {t t2 : TypeId}, Cells w g cs t -> Cells w g2 cs2 t2 -> t ≠ t2 -> g ≠ g2 := by
  rintro g g2 cs cs2 t t2 h1 h2 ht rfl; have h1' : w.heap[g]? = some (.cells cs t (0, 0)) := h1; have h2' : w.heap[g]? = some (.cells cs2 t2 (0, 0)) := h2; rw [h1'] at h2'; simp only [Option.some.injEq, Obj.cells.injEq] at h2'; exact ht h2'.2.1
 exact ⟨hd h.r h.o (by decide), hd h.r h.l (by decide), hd h.o h.l (by decide)⟩
theorem RwS.setHi (h : RwS B gr go gl w lv D cur toks fr hi dp o) (x : Int) : RwS B gr go gl (w.setCell ⟨gr, 2, none⟩ (.int .i64 x)) lv D cur toks fr x dp o := by
 obtain ⟨n1, n2, n3⟩ := h.ne; exact h.moved (fun k _ hk _ _ => Below.heap_setCell _ _ _ _ hk) (h.r.set 2 (by simp) (.int .i64 x)) (h.o.setOther _ _ n1) (h.l.setOther _ _ n2)
theorem RwS.setDp (h : RwS B gr go gl w lv D cur toks fr hi dp o) (x : Int) : RwS B gr go gl (w.setCell ⟨gr, 3, none⟩ (.int .i64 x)) lv D cur toks fr hi x o := by
 obtain ⟨n1, n2, n3⟩ := h.ne; exact h.moved (fun k _ hk _ _ => Below.heap_setCell _ _ _ _ hk) (h.r.set 3 (by simp) (.int .i64 x)) (h.o.setOther _ _ n1) (h.l.setOther _ _ n2)
theorem RwS.setO (h : RwS B gr go gl w lv D cur toks fr hi dp o) (x : Int) : RwS B gr go gl (w.setCell ⟨go, 0, none⟩ (.int .i64 x)) lv D cur toks fr hi dp x := by
 obtain ⟨n1, n2, n3⟩ := h.ne; exact h.moved (fun k _ _ hk _ => Below.heap_setCell _ _ _ _ hk) (h.r.setOther _ _ n1.symm) (h.o.set 0 (by simp) (.int .i64 x)) (h.l.setOther _ _ n3)
theorem wpList_append_rowS {w : World} {ops : Array Oper} {rest : List Oper} {p : Oper} {a : Act} {Q : Exit -> Act -> World -> Prop} (hgd : p.guard = none) (s x : Operand)
  (hop : p.op = .call { callee := .builtin .append, args := #[s, x], argTypes := #[95, 95] }) (B : Nat) (lv : Value) (D : List (SlT × RowD)) (d : SlT × RowD) (hs : a.eval s = lv)
  (hown : w.ownsRow B 110 4 lv D.length (D.flatMap rowC)) (g : Nat) (hx : a.eval x = .slice (some ⟨g, 0, none⟩) 1 1) (hc : Cells w g #[slT d.1, .int .i64 d.2.lo, .int .i64 d.2.hi, .int .i64 d.2.dep] 110)
  (hD : D.length <= 1000000) (hbase : B <= w.heap.size) (H : Nat) (hH : w.heap.size = H)
  (hK : ∀ g2 c2 w', w'.ownsRow B 110 4 (.slice (some ⟨g2, 0, none⟩) (D.length + 1) c2) (D.length + 1) (D.flatMap rowC ++ rowC d) -> w.grownBy w' lv.ownBlock -> (lv.ownBlock = some g2 \/ g2 = H) -> g2 < w'.heap.size ->
   wpList Tryz.prog ops Q rest (a.put p.dst (.slice (some ⟨g2, 0, none⟩) (D.length + 1) c2)) w') : wpList Tryz.prog ops Q (p :: rest) a w := by
 obtain ⟨i, hi1, hi2, hi3, hi4⟩ := info_parts Tryz.infoRowL; refine wpList_append_lies w hgd s x 95 hop B 110 i _ 4 48 Tryz.underlying95 hi1 hi2 hi3 hi4 rfl (by decide) lv D.length (D.flatMap rowC) hs hown ⟨g, 0, none⟩ 1 1 (rowC d) hx rfl ?_ ?_ (by omega) (by unfold maxLen; omega) (by omega) hbase H hH hK
 ·intro j u hu
  rw [Addr.add_lit, Nat.zero_add]; exact hc.cell _ _ (by simpa [rowC] using hu)
 ·intro u hu
  simp only [rowC, List.mem_cons, List.not_mem_nil, or_false] at hu; rcases hu with rfl | rfl | rfl | rfl <;> rfl
theorem RwS.cur_fresh (h : RwS B gr go gl w lv D cur toks fr hi dp o) : ∀ k, (slT cur).ownBlock = some k -> k < w.heap.size /\ k ≠ gr /\ k ≠ go /\ k ≠ gl /\ lv.ownBlock ≠ some k := fun k e =>
 ⟨ownT_lt h.tk k e, own_box h.tk h.r (by decide) k e, own_box h.tk h.o (by decide) k e, own_box h.tk h.l (by decide) k e, own_own h.tk h.own (by decide) k e⟩
theorem flat_snoc (D : List (SlT × RowD)) (x : SlT × RowD) : (D ++ [x]).flatMap rowC = D.flatMap rowC ++ rowC x := by simp
theorem RwS.push (h : RwS B gr go gl w lv D cur toks fr hi dp o) {g2 c2 : Nat} (hg : w.grownBy w' lv.ownBlock) (hown : w'.ownsRow B 110 4 (.slice (some ⟨g2, 0, none⟩) (D.length + 1) c2) (D.length + 1) (D.flatMap rowC ++ rowC (cur, ⟨toks, fr, hi, dp⟩)))
  (hat : lv.ownBlock = some g2 \/ w.heap.size <= g2) (x : Int) :
  RwS B gr go gl (((((w'.setCell ⟨gl, 0, none⟩ (.slice (some ⟨g2, 0, none⟩) (D.length + 1) c2)).setCell ⟨gr, 0, none⟩ (.slice none 0 0)).setCell ⟨gr, 1, none⟩ (.int .i64 x)).setCell ⟨gr, 2, none⟩ (.int .i64 0)).setCell ⟨gr, 3, none⟩ (.int .i64 0))
   (.slice (some ⟨g2, 0, none⟩) (D.length + 1) c2) (D ++ [(cur, ⟨toks, fr, hi, dp⟩)]) (none, 0, 0) [] x 0 0 o := by
 obtain ⟨n1, n2, n3⟩ := h.ne; have hgr : lv.ownBlock ≠ some gr := h.lg; have hr' : Cells w' gr _ _ := h.r.kept hg (fun e => hgr e.symm); have ho' : Cells w' go _ _ := h.o.kept hg (fun e => own_box h.own h.o (by decide) go e.symm rfl); have hl' : Cells w' gl _ _ := h.l.kept hg (fun e => own_box h.own h.l (by decide) gl e.symm rfl)
 have hg2 : g2 ≠ gr := by
  rcases hat with e | e
  ·rintro rfl; exact hgr e
  ·have := h.r.lt; omega
 have hT : ∀ v l, OwnT B w v l -> OwnT B (((((w'.setCell ⟨gl, 0, none⟩ (.slice (some ⟨g2, 0, none⟩) (D.length + 1) c2)).setCell ⟨gr, 0, none⟩ (.slice none 0 0)).setCell ⟨gr, 1, none⟩ (.int .i64 x)).setCell ⟨gr, 2, none⟩ (.int .i64 0)).setCell ⟨gr, 3, none⟩ (.int .i64 0)) v l := fun v l hv =>
  hv.moved fun k e => by
   have e1 : k ≠ gr := own_box hv h.r (by decide) k e; have e2 : k ≠ gl := own_box hv h.l (by decide) k e; have e3 := own_own hv h.own (by decide) k e; rw [Below.heap_setCell _ _ _ _ (by exact e1), Below.heap_setCell _ _ _ _ (by exact e1), Below.heap_setCell _ _ _ _ (by exact e1), Below.heap_setCell _ _ _ _ (by exact e1), Below.heap_setCell _ _ _ _ (by exact e2)]; exact hg.block k (ownT_lt hv k e) (fun q => e3 q.symm)
 have s0 := (hr'.setOther ⟨gl, 0, none⟩ (.slice (some ⟨g2, 0, none⟩) (D.length + 1) c2) (by exact n2.symm)); refine ⟨(((s0.set 0 (by simp) (.slice none 0 0)).set 1 (by simp) (.int .i64 x)).set 2 (by simp) (.int .i64 0)).set 3 (by simp) (.int .i64 0), ?_, ?_, ?_, ?_, OwnT.nil, ?_, h.le⟩
 ·exact ((((ho'.setOther _ _ n3.symm).setOther _ _ n1).setOther _ _ n1).setOther _ _ n1).setOther _ _ n1
 ·exact ((((hl'.set 0 (by simp) _).setOther _ _ n2).setOther _ _ n2).setOther _ _ n2).setOther _ _ n2
 ·rw [flat_snoc, List.length_append, List.length_singleton]
  refine own_moved hown (fun k e => ?_); cases e
  have e2 : g2 ≠ gl := own_box hown hl' (by decide) g2 rfl; rw [Below.heap_setCell _ _ _ _ (by exact hg2), Below.heap_setCell _ _ _ _ (by exact hg2), Below.heap_setCell _ _ _ _ (by exact hg2), Below.heap_setCell _ _ _ _ (by exact hg2), Below.heap_setCell _ _ _ _ (by exact e2)]
 ·intro e
  exact hg2 (by simpa [Value.ownBlock] using e)
 ·intro d hd
  rcases List.mem_append.1 hd with hd | hd
  ·exact ⟨hT _ _ (h.fin d hd).1, fun k _ e => by cases e⟩
  ·rw [List.mem_singleton.1 hd]
   exact ⟨hT _ _ h.tk, fun k _ e => by cases e⟩
theorem RwS.tok (h : RwS B gr go gl w lv D cur toks fr hi dp o) {t : Tok} {gb cap : Nat} (hg : w.grownBy w' (slT cur).ownBlock) (hown : OwnT B w' (.slice (some ⟨gb, 0, none⟩) (toks.length + 1) cap) (toks ++ [t])) (hat : (slT cur).ownBlock = some gb \/ w.heap.size <= gb) :
  RwS B gr go gl (w'.setCell ⟨gr, 0, none⟩ (.slice (some ⟨gb, 0, none⟩) (toks.length + 1) cap)) lv D (some ⟨gb, 0, none⟩, toks.length + 1, cap) (toks ++ [t]) fr hi dp o := by
 obtain ⟨n1, n2, n3⟩ := h.ne; have hc := h.cur_fresh; have hr' : Cells w' gr _ _ := h.r.kept hg (fun e => (hc gr e.symm).2.1 rfl); have ho' : Cells w' go _ _ := h.o.kept hg (fun e => (hc go e.symm).2.2.1 rfl); have hl' : Cells w' gl _ _ := h.l.kept hg (fun e => (hc gl e.symm).2.2.2.1 rfl); have hgr : gb ≠ gr := own_box hown hr' (by decide) gb rfl; refine ⟨hr'.set 0 (by simp) _, ho'.setOther _ _ n1, hl'.setOther _ _ n2, ?_, h.lg, ?_, ?_, h.le⟩
 ·refine own_moved h.own (fun k e => ?_)
  rw [Below.heap_setCell _ _ _ _ (by intro q; exact h.lg (by rw [e]; exact congrArg some q))]; exact hg.block k (World.ownsRow.lt h.own k e).2 (fun q => (hc k q.symm).2.2.2.2 e)
 ·refine hown.moved (fun k e => ?_)
  cases e
  exact Below.heap_setCell _ _ _ _ (by exact hgr)
 ·intro d hd
  obtain ⟨f1, f2⟩ := h.fin d hd; refine ⟨f1.moved fun k e => ?_, fun k e q => ?_⟩
  ·rw [Below.heap_setCell _ _ _ _ (by exact own_box f1 h.r (by decide) k e)]
   exact hg.block k (ownT_lt f1 k e) (fun q => f2 k e q.symm)
  ·have q : gb = k := by simpa [slT, Value.ownBlock] using q
   subst q; rcases hat with hat | hat
   ·exact f2 _ e hat
   ·have := ownT_lt f1 _ e; omega
end
def EndP (B gr go gl : Nat) (D : List (SlT × RowD)) (o : Int) (x : Int) (w : World) (e : Ending) (w' : World) : Prop :=
 e = .returned (.tuple #[]) /\ (∃ lv, RwS B gr go gl w' lv D (none, 0, 0) [] (x + 1) 0 0 o) /\ Below B w w'
theorem rowsEnd_any {B gr go gl : Nat} {w : World} {lv : Value} {D : List (SlT × RowD)} {cur : SlT} {toks : List Tok} {fr hi dp o : Int} (h : RwS B gr go gl w lv D cur toks fr hi dp o) (x : Int)
  (hx : -1 <= x /\ x <= 1000000000) (ho : -1000000 <= o /\ o <= 1000000) (hD : D.length <= 1000000) (hT : toks.length <= 1000000) :
  Calls Tryz.prog 100 #[.int .i64 x, .pointer (some ⟨gr, 0, none⟩), .pointer (some ⟨go, 0, none⟩), .pointer (some ⟨gl, 0, none⟩)] w (EndP B gr go gl (D ++ [(cur, endR o toks fr x)]) (nxtO o toks) x w) := by
 have hB0 : B <= w.heap.size := by have := h.le; have := h.r.lt; omega
 have h1 := h.setHi x; have b1 : Below B w (w.setCell ⟨gr, 2, none⟩ (.int .i64 x)) := (Below.refl _ _).setCell (by exact h.le.1) _; have hCl := lkCloses_any _ _ toks fr x dp h1.tk.toks hT; obtain ⟨n1, n2, n3⟩ := h.ne; have n1' := n1.symm; have n2' := n2.symm; have n3' := n3.symm; have k1 : IntKind.i64.wrap (o - 1) = o - 1 := IntWalk.i64_in _ (by omega); have k2 : IntKind.i64.wrap (o + 1) = o + 1 := IntWalk.i64_in _ (by omega); have k3 : IntKind.i64.wrap (o - 1 + 1) = o := by rw [IntWalk.i64_in _ (by omega)]; omega
 have k4 : IntKind.i64.wrap (x + 1) = x + 1 := IntWalk.i64_in _ (by omega); obtain ⟨a, n, c⟩ := cur
 have hcd : clR toks = true /\ depR o toks = o - 1 \/ clR toks = false /\ depR o toks = o := by
  unfold depR; cases clR toks
  ·exact .inr ⟨rfl, rfl⟩
  ·exact .inl ⟨rfl, rfl⟩
 have hod : opR toks = true /\ nxtO o toks = depR o toks + 1 \/ opR toks = false /\ nxtO o toks = depR o toks := by
  unfold nxtO; cases opR toks
  ·exact .inr ⟨rfl, rfl⟩
  ·exact .inl ⟨rfl, rfl⟩
 unfold endR; have H1 := Lib.hid (And.intro h1 b1); have hr := h.r; have ho := h.o; have hl := h.l; have lr := hr.lt; have lo := ho.lt; have ll := hl.lt; have hrc0 := hr.cell 0 _ rfl; have hrf0 := hr.frozen 0; have hrc1 := hr.cell 1 _ rfl; have hrf1 := hr.frozen 1; have hrc2 := hr.cell 2 _ rfl; have hrf2 := hr.frozen 2; have hrc3 := hr.cell 3 _ rfl; have hrf3 := hr.frozen 3; have hoc0 := ho.cell 0 _ rfl; have hof0 := ho.frozen 0; have hlc0 := hl.cell 0 _ rfl; have hlf0 := hl.frozen 0; clear hr ho hl; simp only [slT] at hCl hrc0; clear h h1 b1; go_enter Tryz.func100, Tryz.ntmps100; go_wp2_with fail; refine hCl.mono ?_; rintro _ w2 ⟨rfl, hb2⟩; have H2 := Lib.hid (And.intro (H1.out.1.below hb2) (H1.out.2.trans (hb2.mono (by have := H1.out.2.size; omega)))); clear hCl hb2 H1; clear hrc0 hrc1 hrc2 hrc3 hrf0 hrf1 hrf2 hrf3 hoc0 hof0 hlc0 hlf0 lr lo ll; rcases hcd with ⟨ec, ed⟩ | ⟨ec, ed⟩
 ·rw [ed] at hod
  have H3 := Lib.hid (And.intro ((H2.out.1.setO (o - 1)).setDp (o - 1)) ((H2.out.2.setCell (p := ⟨go, 0, none⟩) H2.out.1.le.2.1 (.int .i64 (o - 1))).setCell (p := ⟨gr, 3, none⟩) H2.out.1.le.1 (.int .i64 (o - 1)))); have hOp := lkOpens_any _ _ toks fr x (o - 1) H3.out.1.tk.toks hT; have HD := Lib.hid ed; have hr := H2.out.1.r; have ho := H2.out.1.o; have hl := H2.out.1.l; have lr := hr.lt; have lo := ho.lt; have ll := hl.lt; have hrc0 := hr.cell 0 _ rfl; have hrf0 := hr.frozen 0; have hrc1 := hr.cell 1 _ rfl; have hrf1 := hr.frozen 1; have hrc2 := hr.cell 2 _ rfl; have hrf2 := hr.frozen 2; have hrc3 := hr.cell 3 _ rfl; have hrf3 := hr.frozen 3; have hoc0 := ho.cell 0 _ rfl; have hof0 := ho.frozen 0; have hlc0 := hl.cell 0 _ rfl; have hlf0 := hl.frozen 0; clear hr ho hl; simp only [slT] at hOp hrc0; rw [ec]; clear ed ec; go_wp2_with fail; refine hOp.mono ?_; rintro _ w4 ⟨rfl, hb4⟩; have H4 := Lib.hid (And.intro (H3.out.1.below hb4) (H3.out.2.trans (hb4.mono (by have := H3.out.2.size; omega)))); clear hOp hb4 H3 H2; clear hrc0 hrc1 hrc2 hrc3 hrf0 hrf1 hrf2 hrf3 hoc0 hof0 hlc0 hlf0 lr lo ll; rcases hod with ⟨ec, ed⟩ | ⟨ec, ed⟩
  ·have H5 := Lib.hid (And.intro (H4.out.1.setO o) (H4.out.2.setCell (p := ⟨go, 0, none⟩) H4.out.1.le.2.1 (.int .i64 o)))
   have HE : Hid (depR o toks = o - 1 /\ nxtO o toks = o) := Lib.hid ⟨HD.out, by omega⟩; have hr := H4.out.1.r; have ho := H4.out.1.o; have hl := H4.out.1.l; have lr := hr.lt; have lo := ho.lt; have ll := hl.lt; have hrc0 := hr.cell 0 _ rfl; have hrf0 := hr.frozen 0; have hrc1 := hr.cell 1 _ rfl; have hrf1 := hr.frozen 1; have hrc2 := hr.cell 2 _ rfl; have hrf2 := hr.frozen 2; have hrc3 := hr.cell 3 _ rfl; have hrf3 := hr.frozen 3; have hoc0 := ho.cell 0 _ rfl; have hof0 := ho.frozen 0; have hlc0 := hl.cell 0 _ rfl; have hlf0 := hl.frozen 0; clear hr ho hl; rw [ec]; clear ec ed; go_wp2_with (with_reducible first | refine stop_append ?_)
   refine Stop.out ?_; refine wpList_append_rowS rfl _ _ rfl B lv D ((a, n, c), ⟨toks, fr, x, o - 1⟩) rfl (by exact H5.out.1.own.alloc _) w4.heap.size (by rfl) (by have q := Cells.new (w4.setCell ⟨go, 0, none⟩ (.int .i64 o)) #[slT (a, n, c), .int .i64 fr, .int .i64 x, .int .i64 (o - 1)] 110; (try simp only [World.size_setCell] at q); exact q) hD (by have := H5.out.1.r.lt; have := H5.out.1.le; simp only [World.size_alloc, World.size_setCell] at *; omega) ((w4.setCell ⟨go, 0, none⟩ (.int .i64 o)).heap.size + 1) (by simp) ?_; intro g2 c2 w6 ho6 hg6 hat6 hlt6; have hgW := (World.grownBy_alloc (w4.setCell ⟨go, 0, none⟩ (.int .i64 o)) (.cells #[slT (a, n, c), .int .i64 fr, .int .i64 x, .int .i64 (o - 1)] 110) lv.ownBlock).trans hg6; have HP := Lib.hid (H5.out.1.push hgW ho6 (hat6.imp id (fun q => by omega)) (x + 1)); have hr := H5.out.1.r.kept hgW (fun e => H5.out.1.lg e.symm); have hl := H5.out.1.l.kept hgW (fun e => own_box H5.out.1.own H5.out.1.l (by decide) gl e.symm rfl); have HB := Lib.hid (H5.out.2.grown hgW (by have := H5.out.1.r.lt; have := H5.out.1.le; omega) (fun k e => (World.ownsRow.lt H5.out.1.own k e).1)); have HL := Lib.hid H5.out.1.le; clear hrc0 hrc1 hrc2 hrc3 hrf0 hrf1 hrf2 hrf3 hoc0 hof0 hlc0 hlf0 lr lo ll; have lr := hr.lt; have ll := hl.lt; have hrc0 := hr.cell 0 _ rfl; have hrf0 := hr.frozen 0; have hrc1 := hr.cell 1 _ rfl; have hrf1 := hr.frozen 1; have hrc2 := hr.cell 2 _ rfl; have hrf2 := hr.frozen 2; have hrc3 := hr.cell 3 _ rfl; have hrf3 := hr.frozen 3
   have hlc0 := hl.cell 0 _ rfl; have hlf0 := hl.frozen 0; clear hr hl hgW ho6 hg6 hat6 hlt6; go_wp2_with fail; refine bodyPost_end (v := .tuple #[]) (by simp [results, Tryz.results100, go_sem]) rfl ?_; rw [HE.out.1, HE.out.2]; exact ⟨rfl, ⟨_, HP.out⟩, ((((HB.out.setCell (by exact HL.out.2.2) _).setCell (by exact HL.out.1) _).setCell (by exact HL.out.1) _).setCell (by exact HL.out.1) _).setCell (by exact HL.out.1) _⟩
  ·have H5 := H4
   have HE : Hid (depR o toks = o - 1 /\ nxtO o toks = o - 1) := Lib.hid ⟨HD.out, ed⟩; have hr := H4.out.1.r; have ho := H4.out.1.o; have hl := H4.out.1.l; have lr := hr.lt; have lo := ho.lt; have ll := hl.lt; have hrc0 := hr.cell 0 _ rfl; have hrf0 := hr.frozen 0; have hrc1 := hr.cell 1 _ rfl; have hrf1 := hr.frozen 1; have hrc2 := hr.cell 2 _ rfl; have hrf2 := hr.frozen 2; have hrc3 := hr.cell 3 _ rfl; have hrf3 := hr.frozen 3; have hoc0 := ho.cell 0 _ rfl; have hof0 := ho.frozen 0; have hlc0 := hl.cell 0 _ rfl; have hlf0 := hl.frozen 0; clear hr ho hl; rw [ec]; clear ec ed; go_wp2_with (with_reducible first | refine stop_append ?_)
   refine Stop.out ?_; refine wpList_append_rowS rfl _ _ rfl B lv D ((a, n, c), ⟨toks, fr, x, o - 1⟩) rfl (by exact H5.out.1.own.alloc _) w4.heap.size (by rfl) (by have q := Cells.new (w4) #[slT (a, n, c), .int .i64 fr, .int .i64 x, .int .i64 (o - 1)] 110; (try simp only [World.size_setCell] at q); exact q) hD (by have := H5.out.1.r.lt; have := H5.out.1.le; simp only [World.size_alloc, World.size_setCell] at *; omega) ((w4).heap.size + 1) (by simp) ?_; intro g2 c2 w6 ho6 hg6 hat6 hlt6; have hgW := (World.grownBy_alloc (w4) (.cells #[slT (a, n, c), .int .i64 fr, .int .i64 x, .int .i64 (o - 1)] 110) lv.ownBlock).trans hg6; have HP := Lib.hid (H5.out.1.push hgW ho6 (hat6.imp id (fun q => by omega)) (x + 1)); have hr := H5.out.1.r.kept hgW (fun e => H5.out.1.lg e.symm); have hl := H5.out.1.l.kept hgW (fun e => own_box H5.out.1.own H5.out.1.l (by decide) gl e.symm rfl); have HB := Lib.hid (H5.out.2.grown hgW (by have := H5.out.1.r.lt; have := H5.out.1.le; omega) (fun k e => (World.ownsRow.lt H5.out.1.own k e).1)); have HL := Lib.hid H5.out.1.le; clear hrc0 hrc1 hrc2 hrc3 hrf0 hrf1 hrf2 hrf3 hoc0 hof0 hlc0 hlf0 lr lo ll; have lr := hr.lt; have ll := hl.lt; have hrc0 := hr.cell 0 _ rfl; have hrf0 := hr.frozen 0; have hrc1 := hr.cell 1 _ rfl; have hrf1 := hr.frozen 1; have hrc2 := hr.cell 2 _ rfl; have hrf2 := hr.frozen 2; have hrc3 := hr.cell 3 _ rfl; have hrf3 := hr.frozen 3; have hlc0 := hl.cell 0 _ rfl; have hlf0 := hl.frozen 0; clear hr hl hgW ho6 hg6 hat6 hlt6; go_wp2_with fail
   refine bodyPost_end (v := .tuple #[]) (by simp [results, Tryz.results100, go_sem]) rfl ?_; rw [HE.out.1, HE.out.2]; exact ⟨rfl, ⟨_, HP.out⟩, ((((HB.out.setCell (by exact HL.out.2.2) _).setCell (by exact HL.out.1) _).setCell (by exact HL.out.1) _).setCell (by exact HL.out.1) _).setCell (by exact HL.out.1) _⟩
 ·rw [ed] at hod
  have H3 := Lib.hid (And.intro (H2.out.1.setDp o) (H2.out.2.setCell (p := ⟨gr, 3, none⟩) H2.out.1.le.1 (.int .i64 o))); have hOp := lkOpens_any _ _ toks fr x o H3.out.1.tk.toks hT; have HD := Lib.hid ed; have hr := H2.out.1.r; have ho := H2.out.1.o; have hl := H2.out.1.l; have lr := hr.lt; have lo := ho.lt; have ll := hl.lt; have hrc0 := hr.cell 0 _ rfl; have hrf0 := hr.frozen 0; have hrc1 := hr.cell 1 _ rfl; have hrf1 := hr.frozen 1; have hrc2 := hr.cell 2 _ rfl; have hrf2 := hr.frozen 2; have hrc3 := hr.cell 3 _ rfl; have hrf3 := hr.frozen 3; have hoc0 := ho.cell 0 _ rfl; have hof0 := ho.frozen 0; have hlc0 := hl.cell 0 _ rfl; have hlf0 := hl.frozen 0; clear hr ho hl; simp only [slT] at hOp hrc0; rw [ec]; clear ed ec; go_wp2_with fail; refine hOp.mono ?_; rintro _ w4 ⟨rfl, hb4⟩; have H4 := Lib.hid (And.intro (H3.out.1.below hb4) (H3.out.2.trans (hb4.mono (by have := H3.out.2.size; omega)))); clear hOp hb4 H3 H2; clear hrc0 hrc1 hrc2 hrc3 hrf0 hrf1 hrf2 hrf3 hoc0 hof0 hlc0 hlf0 lr lo ll; rcases hod with ⟨ec, ed⟩ | ⟨ec, ed⟩
  ·have H5 := Lib.hid (And.intro (H4.out.1.setO (o + 1)) (H4.out.2.setCell (p := ⟨go, 0, none⟩) H4.out.1.le.2.1 (.int .i64 (o + 1))))
   have HE : Hid (depR o toks = o /\ nxtO o toks = o + 1) := Lib.hid ⟨HD.out, ed⟩; have hr := H4.out.1.r; have ho := H4.out.1.o; have hl := H4.out.1.l; have lr := hr.lt; have lo := ho.lt; have ll := hl.lt; have hrc0 := hr.cell 0 _ rfl; have hrf0 := hr.frozen 0; have hrc1 := hr.cell 1 _ rfl; have hrf1 := hr.frozen 1; have hrc2 := hr.cell 2 _ rfl; have hrf2 := hr.frozen 2; have hrc3 := hr.cell 3 _ rfl; have hrf3 := hr.frozen 3; have hoc0 := ho.cell 0 _ rfl; have hof0 := ho.frozen 0; have hlc0 := hl.cell 0 _ rfl; have hlf0 := hl.frozen 0; clear hr ho hl; rw [ec]; clear ec ed; go_wp2_with (with_reducible first | refine stop_append ?_)
   refine Stop.out ?_; refine wpList_append_rowS rfl _ _ rfl B lv D ((a, n, c), ⟨toks, fr, x, o⟩) rfl (by exact H5.out.1.own.alloc _) w4.heap.size (by rfl) (by have q := Cells.new (w4.setCell ⟨go, 0, none⟩ (.int .i64 (o + 1))) #[slT (a, n, c), .int .i64 fr, .int .i64 x, .int .i64 (o)] 110; (try simp only [World.size_setCell] at q); exact q) hD (by have := H5.out.1.r.lt; have := H5.out.1.le; simp only [World.size_alloc, World.size_setCell] at *; omega) ((w4.setCell ⟨go, 0, none⟩ (.int .i64 (o + 1))).heap.size + 1) (by simp) ?_; intro g2 c2 w6 ho6 hg6 hat6 hlt6; have hgW := (World.grownBy_alloc (w4.setCell ⟨go, 0, none⟩ (.int .i64 (o + 1))) (.cells #[slT (a, n, c), .int .i64 fr, .int .i64 x, .int .i64 (o)] 110) lv.ownBlock).trans hg6; have HP := Lib.hid (H5.out.1.push hgW ho6 (hat6.imp id (fun q => by omega)) (x + 1)); have hr := H5.out.1.r.kept hgW (fun e => H5.out.1.lg e.symm); have hl := H5.out.1.l.kept hgW (fun e => own_box H5.out.1.own H5.out.1.l (by decide) gl e.symm rfl); have HB := Lib.hid (H5.out.2.grown hgW (by have := H5.out.1.r.lt; have := H5.out.1.le; omega) (fun k e => (World.ownsRow.lt H5.out.1.own k e).1)); have HL := Lib.hid H5.out.1.le; clear hrc0 hrc1 hrc2 hrc3 hrf0 hrf1 hrf2 hrf3 hoc0 hof0 hlc0 hlf0 lr lo ll; have lr := hr.lt; have ll := hl.lt; have hrc0 := hr.cell 0 _ rfl; have hrf0 := hr.frozen 0; have hrc1 := hr.cell 1 _ rfl; have hrf1 := hr.frozen 1; have hrc2 := hr.cell 2 _ rfl; have hrf2 := hr.frozen 2; have hrc3 := hr.cell 3 _ rfl; have hrf3 := hr.frozen 3
   have hlc0 := hl.cell 0 _ rfl; have hlf0 := hl.frozen 0; clear hr hl hgW ho6 hg6 hat6 hlt6; go_wp2_with fail; refine bodyPost_end (v := .tuple #[]) (by simp [results, Tryz.results100, go_sem]) rfl ?_; rw [HE.out.1, HE.out.2]; exact ⟨rfl, ⟨_, HP.out⟩, ((((HB.out.setCell (by exact HL.out.2.2) _).setCell (by exact HL.out.1) _).setCell (by exact HL.out.1) _).setCell (by exact HL.out.1) _).setCell (by exact HL.out.1) _⟩
  ·have H5 := H4
   have HE : Hid (depR o toks = o /\ nxtO o toks = o) := Lib.hid ⟨HD.out, ed⟩; have hr := H4.out.1.r; have ho := H4.out.1.o; have hl := H4.out.1.l; have lr := hr.lt; have lo := ho.lt; have ll := hl.lt; have hrc0 := hr.cell 0 _ rfl; have hrf0 := hr.frozen 0; have hrc1 := hr.cell 1 _ rfl; have hrf1 := hr.frozen 1; have hrc2 := hr.cell 2 _ rfl; have hrf2 := hr.frozen 2; have hrc3 := hr.cell 3 _ rfl; have hrf3 := hr.frozen 3; have hoc0 := ho.cell 0 _ rfl; have hof0 := ho.frozen 0; have hlc0 := hl.cell 0 _ rfl; have hlf0 := hl.frozen 0; clear hr ho hl; rw [ec]; clear ec ed; go_wp2_with (with_reducible first | refine stop_append ?_)
   refine Stop.out ?_; refine wpList_append_rowS rfl _ _ rfl B lv D ((a, n, c), ⟨toks, fr, x, o⟩) rfl (by exact H5.out.1.own.alloc _) w4.heap.size (by rfl) (by have q := Cells.new (w4) #[slT (a, n, c), .int .i64 fr, .int .i64 x, .int .i64 (o)] 110; (try simp only [World.size_setCell] at q); exact q) hD (by have := H5.out.1.r.lt; have := H5.out.1.le; simp only [World.size_alloc, World.size_setCell] at *; omega) ((w4).heap.size + 1) (by simp) ?_; intro g2 c2 w6 ho6 hg6 hat6 hlt6; have hgW := (World.grownBy_alloc (w4) (.cells #[slT (a, n, c), .int .i64 fr, .int .i64 x, .int .i64 (o)] 110) lv.ownBlock).trans hg6; have HP := Lib.hid (H5.out.1.push hgW ho6 (hat6.imp id (fun q => by omega)) (x + 1)); have hr := H5.out.1.r.kept hgW (fun e => H5.out.1.lg e.symm); have hl := H5.out.1.l.kept hgW (fun e => own_box H5.out.1.own H5.out.1.l (by decide) gl e.symm rfl); have HB := Lib.hid (H5.out.2.grown hgW (by have := H5.out.1.r.lt; have := H5.out.1.le; omega) (fun k e => (World.ownsRow.lt H5.out.1.own k e).1)); have HL := Lib.hid H5.out.1.le; clear hrc0 hrc1 hrc2 hrc3 hrf0 hrf1 hrf2 hrf3 hoc0 hof0 hlc0 hlf0 lr lo ll; have lr := hr.lt; have ll := hl.lt; have hrc0 := hr.cell 0 _ rfl; have hrf0 := hr.frozen 0; have hrc1 := hr.cell 1 _ rfl; have hrf1 := hr.frozen 1; have hrc2 := hr.cell 2 _ rfl; have hrf2 := hr.frozen 2; have hrc3 := hr.cell 3 _ rfl; have hrf3 := hr.frozen 3; have hlc0 := hl.cell 0 _ rfl; have hlf0 := hl.frozen 0; clear hr hl hgW ho6 hg6 hat6 hlt6; go_wp2_with fail; refine bodyPost_end (v := .tuple #[]) (by simp [results, Tryz.results100, go_sem]) rfl ?_
   rw [HE.out.1, HE.out.2]; exact ⟨rfl, ⟨_, HP.out⟩, ((((HB.out.setCell (by exact HL.out.2.2) _).setCell (by exact HL.out.1) _).setCell (by exact HL.out.1) _).setCell (by exact HL.out.1) _).setCell (by exact HL.out.1) _⟩
end Go.Proofs.YtbcdaaobbebooaaGreatDoor
