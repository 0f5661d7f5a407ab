/- Texts of this claim, one behind the other: SqX, VaP, TdK, BoW, TdL, TdM, TdN, TdO, LaidK, LaidS, ExZ. -/
import Derived.Test.YtbcdaaobbebooaaGreatDoorMgb
import Derived.Test.YtbcdaaobbebooaaGreatDoorMgg
import Derived.Test.YtbcdaaobbebooaaGreatDoorMgh
import Derived.Test.YtbcdaaobbebooaaGreatDoorMgi
import Derived.Test.YtbcdaaobbebooaaGreatDoorMgk
import Derived.Test.YtbcdaaobbebooaaGreatDoorMgl
import Derived.Lib.LaidTab
import Derived.Test.YtbcdaaobbebooaaGreatDoorRows
import Derived.Shelf.Vars
set_option linter.unusedSimpArgs false
set_option linter.unusedVariables false
namespace Go.Proofs.YtbcdaaobbebooaaGreatDoor
set_option maxRecDepth 100000
set_option maxHeartbeats 20000000
theorem andX_zz {g : GotX} {f : Exp -> Nat -> GotX} (h : (andX g f).2.2 = 0) : g.2.2 = 0 /\ andX g f = f g.1 g.2.1 := by
 by_cases he : g.2.2 = 0
 ·exact ⟨he, andX_ok he⟩
 ·rw [andX_bad he] at h; exact absurd h he
theorem badX_zz {r : List Tok} {n : Nat} : (badX r n).2.2 ≠ 0 := by unfold badX; split <;> simp
def stB (t : Tok) : Bool := wordB t || amongB t [33, 45, 40, 91]
def enB (t : Tok) : Bool := wordB t || amongB t [41, 93]
def adjB (a b : Tok) : Bool := (!isB a sDot || decide (b.kind = 1)) && (!isB a sBang || stB b)
def chB : List Tok -> Bool
 | [] => true
 | [_] => true
 | a :: b :: r => adjB a b && chB (b :: r)
def lstB (l : List Tok) : Bool := match l.getLast? with | some t => enB t | none => false
def fstB (l : List Tok) : Bool := match l with | t :: _ => stB t | [] => false
theorem chB_app : ∀ (l : List Tok) (a b : Tok) (m : List Tok), chB (l ++ [a]) = true -> chB (b :: m) = true -> adjB a b = true -> chB (l ++ a :: b :: m) = true
 | [], a, b, m, _, h2, h3 => by simp only [List.nil_append, chB, h2, h3]; rfl
 | [x], a, b, m, h1, h2, h3 => by
  simp only [List.cons_append, List.nil_append, chB, Bool.and_true] at h1; simp only [List.cons_append, List.nil_append, chB, h1, h2, h3]; rfl
 | x :: y :: l, a, b, m, h1, h2, h3 => by
  simp only [List.cons_append, chB, Bool.and_eq_true] at h1 ⊢; exact ⟨h1.1, chB_app (y :: l) a b m h1.2 h2 h3⟩
theorem isB_ne {t : Tok} {v w : ByteArray} (h : isB t v = true) (hn : v ≠ w) : isB t w = false := by
 unfold isB at h ⊢; rw [Bool.and_eq_true, decide_eq_true_eq, decide_eq_true_eq] at h; rw [decide_eq_false (p := t.text = w) (by rw [h.2]; exact hn), Bool.and_false]
theorem wordB_no {t : Tok} (h : wordB t = true) (w : ByteArray) : isB t w = false := by
 unfold wordB at h; unfold isB; rw [decide_eq_false (p := t.kind = 4), Bool.false_and]; intro e; rw [e] at h
 revert h; decide
theorem en_cases {t : Tok} (h : enB t = true) : wordB t = true \/ isB t sRp = true \/ isB t sRb = true := by
 unfold enB at h; simp only [among_cons, among_nil, Bool.or_false, Bool.or_eq_true] at h; exact h
theorem en_no {t : Tok} (h : enB t = true) {w : ByteArray} (h1 : sRp ≠ w) (h2 : sRb ≠ w) : isB t w = false := by
 rcases en_cases h with h | h | h
 ·exact wordB_no h w
 ·exact isB_ne h h1
 ·exact isB_ne h h2
theorem adj_en {a b : Tok} (h : enB a = true) : adjB a b = true := by
 unfold adjB; rw [en_no h (w := sDot) (by decide) (by decide), en_no h (w := sBang) (by decide) (by decide)]
 rfl
theorem adj_sg {a b : Tok} {w : ByteArray} (h : isB a w = true) (h1 : w ≠ sDot) (h2 : w ≠ sBang) : adjB a b = true := by
 unfold adjB; rw [isB_ne h h1, isB_ne h h2]; rfl
structure SgT (l : List Tok) : Prop where
 c : chB l = true
 f : fstB l = true
 e : lstB l = true
theorem SgT.last {l : List Tok} (h : lstB l = true) : ∃ q t, l = q ++ [t] /\ enB t = true := by
 rcases List.eq_nil_or_concat l with rfl | ⟨q, t, rfl⟩
 ·cases h
 ·rw [List.concat_eq_append] at h ⊢
  unfold lstB at h; rw [List.getLast?_concat] at h; exact ⟨q, t, rfl, h⟩
theorem lstB_app (l : List Tok) {m : List Tok} (h : lstB m = true) : lstB (l ++ m) = true := by
 obtain ⟨q, t, rfl, ht⟩ := SgT.last h; unfold lstB; rw [<- List.append_assoc, List.getLast?_concat]; exact ht
theorem fstB_app {l : List Tok} (h : fstB l = true) (m : List Tok) : fstB (l ++ m) = true := by
 cases l with
 | nil => cases h
 | cons t l => exact h
theorem chB_join {l m : List Tok} (h1 : chB l = true) (h2 : lstB l = true) (h3 : chB m = true) : chB (l ++ m) = true := by
 obtain ⟨q, t, rfl, ht⟩ := SgT.last h2
 cases m with
 | nil => rw [List.append_nil]; exact h1
 | cons b m =>
  rw [List.append_assoc]; exact chB_app q t b m h1 h3 (adj_en ht)
theorem SgT.join {l m : List Tok} (h : SgT l) (hc : chB m = true) (he : lstB m = true) : SgT (l ++ m) := ⟨chB_join h.c h.e hc, fstB_app h.f m, lstB_app l he⟩
theorem chB_cons {t : Tok} {w : ByteArray} (ht : isB t w = true) (h1 : w ≠ sDot) (h2 : w ≠ sBang) {m : List Tok} (h : chB m = true) : chB (t :: m) = true := by
 cases m with
 | nil => rfl
 | cons b m => simp only [chB, adj_sg ht h1 h2, h]; rfl
theorem en_sg {t : Tok} {w : ByteArray} (h : isB t w = true) (hw : w = sRp \/ w = sRb) : enB t = true := by
 unfold enB; rcases hw with rfl | rfl
 ·rw [among_cons, show isB t (strL [41]) = true from h, Bool.true_or, Bool.or_true]
 ·rw [among_cons, among_cons, show isB t (strL [93]) = true from h, Bool.true_or, Bool.or_true, Bool.or_true]
theorem SgT.two {l m : List Tok} {t : Tok} {w : ByteArray} (h : SgT l) (ht : isB t w = true) (h1 : w ≠ sDot) (h2 : w ≠ sBang) (hm : SgT m) : SgT (l ++ t :: m) :=
 h.join (chB_cons ht h1 h2 hm.c) (lstB_app [t] hm.e)
theorem SgT.shut {l : List Tok} {t : Tok} {w : ByteArray} (h : SgT l) (ht : isB t w = true) (hw : w = sRp \/ w = sRb) : SgT (l ++ [t]) :=
 h.join rfl (by show enB t = true; exact en_sg ht hw)
theorem SgT.word {t : Tok} (h : wordB t = true) : SgT [t] := ⟨rfl, by show stB t = true; unfold stB; rw [h]; rfl, by show enB t = true; unfold enB; rw [h]; rfl⟩
theorem isS_at {r : List Tok} {k : Nat} {w : ByteArray} (h : isS (r.drop k) w = true) : ∃ t, isB t w = true /\ r.drop k = t :: r.drop (k + 1) /\ ∀ n, r.take (k + 1 + n) = r.take k ++ t :: (r.drop (k + 1)).take n := by
 cases hd : r.drop k with
 | nil => rw [hd] at h; cases h
 | cons t q =>
  rw [hd] at h; have hq : r.drop (k + 1) = q := by rw [<- List.drop_drop, hd]; rfl
  refine ⟨t, h, by rw [hq], fun n => ?_⟩
  rw [Nat.add_assoc, List.take_add, hd, Nat.add_comm 1 n, List.take_succ_cons, hq]
theorem isL_at {r : List Tok} {lv : Nat} {o : ByteArray} (h : isL r lv = some o) (h6 : lv <= 6) : ∃ t, isB t o = true /\ r = t :: r.drop 1 /\ o ≠ sDot /\ o ≠ sBang := by
 cases r with
 | nil => cases h
 | cons t r =>
  unfold isL at h; simp only at h; split at h
  ·next hc =>
   cases h
   have hn : ∀ w : ByteArray, lvN w = -1 \/ lvN w = 7 -> t.text ≠ w := fun w hw e => by rw [<- e] at hw; omega
   exact ⟨t, by unfold isB; rw [decide_eq_true hc.1, decide_eq_true rfl]; rfl, rfl, hn _ (.inl (by kernel_rfl)), hn _ (.inr (by kernel_rfl))⟩
  ·cases h
structure MnT (l : List Tok) : Prop where
 c : chB l = true
 e : lstB l = true
def SqP : Nt -> List Tok -> Nat -> Prop
 | .choice, r, n => SgT (r.take n)
 | .term lv, r, n => lv <= 7 -> SgT (r.take n)
 | .tloop lv _, r, n => lv <= 6 -> ∀ l, SgT l -> SgT (l ++ r.take n)
 | .tight, r, n => SgT (r.take n)
 | .post, r, n => SgT (r.take n)
 | .ploop _, r, n => ∀ l, SgT l -> SgT (l ++ r.take n)
 | .prime, r, n => SgT (r.take n)
 | .many s, r, n => (s = sRp \/ s = sRb) -> (∀ t q, r = t :: q -> isB t sLp = true \/ isB t sLb = true) -> r ≠ [] -> 1 <= n /\ MnT (r.take n)
 | .mloop s _, r, n => (s = sRp \/ s = sRb) -> SgT (r.take n)
theorem op_open {t : Tok} (h : isB t sLp = true \/ isB t sLb = true) {m : List Tok} (hm : chB m = true) : chB (t :: m) = true := by
 rcases h with h | h
 ·exact chB_cons h (by decide) (by decide) hm
 ·exact chB_cons h (by decide) (by decide) hm
theorem sqX : ∀ (n : Nat) (t : Nt) (r : List Tok) (d : Nat), (parX n t r d).2.2 = 0 -> SqP t r (parX n t r d).2.1 := by
 intro n
 induction n with
 | zero => intro t r d h; simp [parX] at h
 | succ n ih =>
  intro t r d h
  cases t with
  | choice =>
   simp only [parX] at h ⊢; obtain ⟨h1, h2⟩ := andX_zz h; rw [h2] at h ⊢; have i1 := ih (.term 1) r d h1 (by omega)
   by_cases hq : isS (r.drop (parX n (.term 1) r d).2.1) sQ = false
   ·rw [if_pos hq]; exact i1
   ·rw [if_neg hq] at h ⊢
    split at h
    ·simp [deepX] at h
    ·next hd =>
     rw [if_neg hd]; obtain ⟨h3, h4⟩ := andX_zz h; rw [h4] at h ⊢; have i2 := ih .choice (r.drop ((parX n (.term 1) r d).2.1 + 1)) (d + 1) h3; simp only [SqP] at i2; generalize parX n .choice (r.drop ((parX n (.term 1) r d).2.1 + 1)) (d + 1) = B at *; generalize parX n (.term 1) r d = A at *
     by_cases hc : isS (r.drop (upX (A.2.1 + 1) B).2.1) sCo = false
     ·rw [if_pos hc] at h; exact absurd h badX_zz
     ·rw [if_neg hc] at h ⊢
      obtain ⟨h5, h6⟩ := andX_zz h; rw [h6]; have i3 := ih .choice (r.drop ((upX (A.2.1 + 1) B).2.1 + 1)) (d + 1) h5; simp only [SqP] at i3 ⊢; generalize parX n .choice (r.drop ((upX (A.2.1 + 1) B).2.1 + 1)) (d + 1) = C at *; obtain ⟨t1, e1, -, e2⟩ := isS_at (by simpa using hq)
      obtain ⟨t2, e3, -, e4⟩ := isS_at (by simpa using hc)
      simp only [upX] at e2 e4 i3 ⊢; rw [e4, e2]; have := (i1.two e1 (by decide) (by decide) i2).two e3 (by decide) (by decide) i3
      simpa using this
  | term lv =>
   simp only [parX] at h ⊢; intro l7; split at h
   ·next h7 =>
    rw [if_pos h7]; exact ih .tight r d h
   ·next h7 =>
    rw [if_neg h7]; obtain ⟨h1, h2⟩ := andX_zz h; rw [h2] at h ⊢; have i1 := ih (.term (lv + 1)) r d h1 (by omega)
    generalize parX n (.term (lv + 1)) r d = A at *; have i2 := ih (.tloop lv A.1) (r.drop A.2.1) d h (by omega) _ i1
    simp only [upX]; rw [List.take_add]; exact i2
  | tloop lv a =>
   simp only [parX] at h ⊢; intro l6 l hl; split at h
   ·next hn =>
    (try simp only [hn])
    simpa using hl
   ·next o ho =>
    (try simp only [ho])
    obtain ⟨h1, h2⟩ := andX_zz h; rw [h2] at h ⊢; have i1 := ih (.term (lv + 1)) (r.drop 1) d h1 (by omega)
    generalize parX n (.term (lv + 1)) (r.drop 1) d = A at *; simp only [upX] at h ⊢; obtain ⟨t, e1, e2, e3, e4⟩ := isL_at ho l6; have i2 := ih (.tloop lv (.mk o oNo [a, A.1])) (r.drop (1 + A.2.1)) d h l6 _ (hl.two e1 e3 e4 i1); rw [List.take_add, Nat.add_comm 1 A.2.1]; rw [Nat.add_comm 1 A.2.1] at i2; rw [e2, List.take_succ_cons, <- List.append_assoc]; rw [e2] at i2
    simpa using i2
  | tight =>
   simp only [parX] at h ⊢; split at h
   ·next hb =>
    rw [if_pos hb]; exact ih .post r d h
   ·next hb =>
    rw [if_neg hb]; split at h
    ·simp [deepX] at h
    ·next hd =>
     rw [if_neg hd]; obtain ⟨h1, h2⟩ := andX_zz h; rw [h2]; have i1 := ih .tight (r.drop 1) (d + 1) h1; simp only [SqP] at i1 ⊢; generalize parX n .tight (r.drop 1) (d + 1) = A at *; simp only [upX]
     have hs : isS (r.drop 0) sBang = true \/ isS (r.drop 0) sMinus = true := by
      rw [List.drop_zero]; cases h1 : isS r sBang <;> cases h2 : isS r sMinus
      ·exact absurd ⟨h1, h2⟩ hb
      all_goals simp
     obtain ⟨x, m, hx⟩ : ∃ x m, (r.drop 1).take A.2.1 = x :: m := by
      cases hm : (r.drop 1).take A.2.1 with
      | nil => rw [hm] at i1; have := i1.f; cases this
      | cons x m => exact ⟨x, m, rfl⟩
     rcases hs with hs | hs
     ·obtain ⟨t, e1, -, e2⟩ := isS_at hs
      have e2 := e2 A.2.1; simp only [Nat.zero_add, List.take_zero, List.nil_append] at e2; rw [e2]; refine ⟨?_, ?_, lstB_app [t] i1.e⟩
      ·rw [hx] at i1 ⊢
       have hf : stB x = true := i1.f; simp only [chB, i1.c, adjB, hf, isB_ne e1 (show sBang ≠ sDot by decide)]
       simp
      ·show stB t = true
       unfold stB; rw [among_cons, show isB t (strL [33]) = true from e1, Bool.true_or, Bool.or_true]
     ·obtain ⟨t, e1, -, e2⟩ := isS_at hs
      have e2 := e2 A.2.1; simp only [Nat.zero_add, List.take_zero, List.nil_append] at e2; rw [e2]; refine ⟨chB_cons e1 (by decide) (by decide) i1.c, ?_, lstB_app [t] i1.e⟩
      show stB t = true; unfold stB; rw [among_cons, among_cons, show isB t (strL [45]) = true from e1, Bool.true_or, Bool.or_true, Bool.or_true]
  | post =>
   simp only [parX] at h ⊢; obtain ⟨h1, h2⟩ := andX_zz h; rw [h2] at h ⊢; have i1 := ih .prime r d h1; simp only [SqP] at i1 ⊢; generalize parX n .prime r d = A at *; have i2 := ih (.ploop A.1) (r.drop A.2.1) d h _ i1; simp only [upX]; rw [List.take_add]; exact i2
  | ploop a =>
   simp only [parX] at h ⊢; intro l hl; split at h
   ·next hdot =>
    rw [if_pos hdot]; split at h
    ·exact absurd h badX_zz
    ·next t q hq =>
     simp only [hq]; split at h
     ·next hk =>
      rw [if_pos hk]; obtain ⟨t0, e1, e2, -⟩ := isS_at (k := 0) (by rw [List.drop_zero]; exact hdot)
      rw [List.drop_zero, Nat.zero_add, hq] at e2; have hwt : wordB t = true := by unfold wordB; rw [decide_eq_true hk]; rfl
      have hnew : SgT (l ++ [t0, t]) := by
       refine hl.join ?_ (by show enB t = true; unfold enB; rw [hwt]; rfl)
       simp only [chB, adjB, decide_eq_true hk, isB_ne e1 (show sDot ≠ sBang by decide)]
       simp
      have i1 := ih (.ploop (.mk oGet t.text [a])) (r.drop 2) d h _ hnew; simp only [upX]; rw [List.take_add]; rw [show r.take 2 = [t0, t] by rw [e2]; rfl]
      simpa using i1
     ·exact absurd h badX_zz
   ·next hdot =>
    rw [if_neg hdot]; split at h
    ·next hlb =>
     rw [if_pos hlb]; split at h
     ·simp [deepX] at h
     ·next hd =>
      rw [if_neg hd]; obtain ⟨h1, h2⟩ := andX_zz h; rw [h2] at h ⊢; have i1 := ih .choice (r.drop 1) (d + 1) h1; simp only [SqP] at i1; generalize parX n .choice (r.drop 1) (d + 1) = A at *
      by_cases hc : isS (r.drop (upX 1 A).2.1) sRb = false
      ·rw [if_pos hc] at h; exact absurd h badX_zz
      ·rw [if_neg hc] at h ⊢
       obtain ⟨t0, e1, -, e2⟩ := isS_at (k := 0) (by rw [List.drop_zero]; exact hlb)
       obtain ⟨t1, e3, -, e4⟩ := isS_at (by simpa using hc)
       simp only [upX] at e4 h ⊢; have e2 := e2 A.2.1; simp only [Nat.zero_add, List.take_zero, List.nil_append] at e2; have hnew := (hl.two e1 (by decide) (by decide) i1).shut e3 (.inr rfl)
       have i2 := ih (.ploop (.mk oAt oNo [a, A.1])) (r.drop (1 + A.2.1 + 1)) d h _ hnew; rw [e4, e2]
       simpa using i2
    ·next hlb =>
     rw [if_neg hlb]
     simpa using hl
  | prime =>
   cases r with
   | nil => simp only [parX] at h; exact absurd h badX_zz
   | cons t r =>
    simp only [parX] at h ⊢; simp only [SqP]; split at h
    ·next h1 =>
     rw [if_pos h1]; have hwt : wordB t = true := by unfold wordB; rw [decide_eq_true h1]; rfl
     split at h
     ·next hp =>
      rw [if_pos hp]; obtain ⟨h3, h4⟩ := andX_zz h; rw [h4]; have hr : ∀ t' q, r = t' :: q -> isB t' sLp = true \/ isB t' sLb = true := fun t' q e => by subst e; exact .inl hp
      have i1 := (ih (.many sRp) r d h3) (.inl rfl) hr (by rintro rfl; cases hp)
      generalize parX n (.many sRp) r d = A at *; simp only [upX]; rw [Nat.add_comm, List.take_succ_cons]; have := (SgT.word hwt).join i1.2.c i1.2.e
      simpa using this
     ·next hp =>
      rw [if_neg hp]; exact SgT.word hwt
    ·next h1 =>
     rw [if_neg h1]; split at h
     ·next h2 =>
      rw [if_pos h2]; exact SgT.word (by unfold wordB; rw [decide_eq_true h2]; simp)
     ·next h2 =>
      rw [if_neg h2]; split at h
      ·next h3 =>
       rw [if_pos h3]; split at h
       ·cases h
       ·next s hs =>
        simp only [hs]; exact SgT.word (by unfold wordB; rw [decide_eq_true h3]; simp)
      ·next h3 =>
       rw [if_neg h3]; split at h
       ·next h4 =>
        rw [if_pos h4]; obtain ⟨h5, h6⟩ := andX_zz h; rw [h6]; have i1 := (ih (.many sRb) (t :: r) d h5) (.inr rfl) (fun t' q e => by cases e; exact .inr h4) (by simp)
        generalize parX n (.many sRb) (t :: r) d = A at *; obtain ⟨i0, i1⟩ := i1; obtain ⟨k, hk⟩ : ∃ k, A.2.1 = k + 1 := ⟨A.2.1 - 1, by omega⟩
        simp only; refine ⟨i1.c, ?_, i1.e⟩; rw [hk, List.take_succ_cons]; show stB t = true; unfold stB; rw [among_cons, among_cons, among_cons, among_cons, show isB t (strL [91]) = true from h4]; simp
       ·next h4 =>
        rw [if_neg h4]; split at h
        ·next h5 =>
         rw [if_pos h5]; split at h
         ·simp [deepX] at h
         ·next h6 =>
          rw [if_neg h6]; obtain ⟨h7, h8⟩ := andX_zz h; rw [h8] at h ⊢; have i1 := ih .choice r (d + 1) h7; simp only [SqP] at i1; generalize parX n .choice r (d + 1) = A at *
          by_cases hc : isS ((t :: r).drop (upX 1 A).2.1) sRp = false
          ·rw [if_pos hc] at h; exact absurd h badX_zz
          ·rw [if_neg hc] at h ⊢
           obtain ⟨t1, e3, -, e4⟩ := isS_at (by simpa using hc)
           have e4 := e4 0; simp only [upX, Nat.add_zero, List.take_zero] at e4 ⊢; rw [e4, Nat.add_comm 1, List.take_succ_cons]; have h9 := i1.shut e3 (.inl rfl); refine ⟨?_, ?_, ?_⟩
           ·have := op_open (t := t) (.inl h5) h9.c
            simpa using this
           ·show stB t = true
            unfold stB; rw [among_cons, among_cons, among_cons, show isB t (strL [40]) = true from h5]; simp
           ·have := lstB_app [t] h9.e
            simpa using this
        ·exact absurd h badX_zz
  | many s =>
   simp only [parX] at h ⊢; intro hs hr hne
   cases r with
   | nil => exact absurd rfl hne
   | cons t q =>
    have ht := hr t q rfl; split at h
    ·simp [deepX] at h
    ·next hd =>
     rw [if_neg hd]; split at h
     ·next hh =>
      rw [if_pos hh]; obtain ⟨t1, e1, e2, -⟩ := isS_at hh; simp only [List.drop_succ_cons, List.drop_zero] at e2; refine ⟨by simp, ?_, ?_⟩
      ·rw [e2]
       exact op_open ht rfl
      ·rw [e2]
       show enB t1 = true; exact en_sg e1 hs
     ·next hh =>
      rw [if_neg hh]; have i1 := ih (.mloop s []) ((t :: q).drop 1) d h hs; simp only [List.drop_succ_cons, List.drop_zero] at i1 ⊢; simp only [upX]; rw [Nat.add_comm 1, List.take_succ_cons]; exact ⟨by omega, op_open ht i1.c, lstB_app [t] i1.e⟩
  | mloop s l =>
   simp only [parX] at h ⊢; intro hs; obtain ⟨h1, h2⟩ := andX_zz h; rw [h2] at h ⊢; have i1 := ih .choice r (d + 1) h1; simp only [SqP] at i1; generalize parX n .choice r (d + 1) = A at *; split at h
   ·next hc =>
    rw [if_pos hc]; obtain ⟨t1, e1, -, e2⟩ := isS_at hc; have i2 := ih (.mloop s (l ++ [A.1])) (r.drop (A.2.1 + 1)) d h hs; simp only [upX]; rw [e2]; exact i1.two e1 (by decide) (by decide) i2
   ·next hc =>
    rw [if_neg hc]; split at h
    ·next h3 =>
     rw [if_pos h3]; obtain ⟨t1, e1, -, e2⟩ := isS_at h3; have e2 := e2 0; simp only [Nat.add_zero, List.take_zero] at e2; simp only; rw [e2]; exact i1.shut e1 hs
    ·exact absurd h badX_zz
end Go.Proofs.YtbcdaaobbebooaaGreatDoor
namespace Go.Proofs.YtbcdaaobbebooaaGreatDoor
set_option maxRecDepth 100000
set_option maxHeartbeats 20000000
def clP (p : List Tok) : Bool := match p with | t :: _ => isB t sRc | [] => false
def opP (p : List Tok) : Bool := match p.getLast? with | some t => isB t sLc | none => false
def atP (p : List Tok) : Bool := match p with | _ :: e :: _ => isB e sEq | _ => false
theorem clR_P (r : List Tok) : clR r = clP (plR r) := rfl
theorem opR_P (r : List Tok) : opR r = opP (plR r) := rfl
inductive RowK : Nat -> List Tok -> LnR -> Prop where
 | empty {n : Nat} : RowK n [] .empty
 | fin {n : Nat} {t : Tok} (h : isB t sRc = true) (hn : n ≠ 1) : RowK n [t] .fin
 | attr {n : Nat} {a e : Tok} {q : List Tok} {x : Itm} (ha : a.kind = 1) (he : isB e sEq = true) (hs : SgT q) : RowK n (a :: e :: q) (.attr x)
 | begins {n : Nat} {a t : Tok} {ls : List Tok} {x : Itm} (ha : a.kind = 1) (hl : ∀ u ∈ ls, u.kind = 3) (ht : isB t sLc = true) (hn : n <= 64) : RowK n (a :: (ls ++ [t])) (.begins x)
 | bare {n : Nat} {a t u : Tok} {ls : List Tok} {x : Itm} (ha : a.kind = 1) (hl : ∀ u ∈ ls, u.kind = 3) (ht : isB t sLc = true) (hu : isB u sRc = true) (hn : n <= 64) : RowK n (a :: (ls ++ [t, u])) (.bare x)
theorem parE_sg {q : List Tok} (h : (parE q).2.2 = 0) : SgT (q.take (parE q).2.1) := by
 unfold parE at h ⊢; split at h
 ·cases h
 ·next h1 =>
  rw [if_neg h1]; split at h
  ·next h2 => rw [if_pos h2]; exact sqX _ .choice q 0 h2
  ·next h2 => exact absurd h h2
theorem labs_cut : ∀ r : List Tok, ∃ ls, r = ls ++ r.drop (labs r).length /\ (∀ u ∈ ls, u.kind = 3) /\ ls.length = (labs r).length
 | [] => ⟨[], rfl, (fun u h => by cases h), rfl⟩
 | t :: r => by
  by_cases h : t.kind = 3
  ·obtain ⟨ls, h1, h2, h3⟩ := labs_cut r
   refine ⟨t :: ls, ?_, ?_, ?_⟩
   ·rw [labs, if_pos h, List.length_cons, List.drop_succ_cons, List.cons_append, <- h1]
   ·intro u hu
    rcases List.mem_cons.1 hu with rfl | hu
    ·exact h
    ·exact h2 u hu
   ·rw [labs, if_pos h, List.length_cons, List.length_cons, h3]
  ·exact ⟨[], by rw [labs, if_neg h]; rfl, (fun u h => by cases h), by rw [labs, if_neg h]; rfl⟩
theorem isS_ex {r : List Tok} {w : ByteArray} (h : isS r w = true) : ∃ t q, r = t :: q /\ isB t w = true := by
 cases r with
 | nil => cases h
 | cons t q => exact ⟨t, q, rfl, h⟩
theorem rowK_of (n : Nat) (p : List Tok) (stop : Int) (last : Bool) : (∃ a e, e ≠ 0 /\ lineK n p stop last = .wrong a e) \/ RowK n p (lineK n p stop last) := by
 cases p with
 | nil => exact .inr .empty
 | cons t r =>
  simp only [lineK]; split
  ·next h1 =>
   split
   ·exact .inl (lackR_ne _ _ _ _)
   ·next hn =>
    split
    ·exact .inl (lackR_ne _ _ _ _)
    ·next h2 =>
     cases r with
     | nil => exact .inr (.fin h1 hn)
     | cons u r => simp at h2
  ·split
   ·exact .inl (lackR_ne _ _ _ _)
   ·next h1 =>
    have ha : t.kind = 1 := by omega
    split
    ·next he =>
     obtain ⟨e, q, rfl, he⟩ := isS_ex he; unfold attrK; simp only [List.drop_succ_cons, List.drop_zero, List.length_cons]; split
     ·exact .inl (lackR_ne _ _ _ _)
     ·next hx =>
      split
      ·next h0 =>
       have hle := parE_le q h0
       have hq : q.take (parE q).2.1 = q := List.take_of_length_le (by
        refine Nat.le_of_not_lt fun hlt => hx (.inr ⟨h0, by omega⟩))
       have hs := parE_sg h0; rw [hq] at hs; exact .inr (.attr ha he hs)
      ·next h0 =>
       have hlt := parE_at q h0 (fun e => hx (.inl e))
       have hat : (t :: e :: q)[2 + (parE q).2.1]? = some q[(parE q).2.1] := by
        rw [Nat.add_comm 2]; simp only [List.getElem?_cons_succ]; rw [List.getElem?_eq_getElem hlt]
       rw [hat]; exact .inl ⟨_, _, h0, rfl⟩
    ·next he =>
     unfold blockK; obtain ⟨ls, e1, e2, e3⟩ := labs_cut r; simp only [List.drop_succ_cons, List.drop_zero]
     have hd : ∀ k, (t :: r).drop (1 + (labs r).length + k) = (r.drop (labs r).length).drop k := fun k => by
      rw [show 1 + (labs r).length + k = ((labs r).length + k) + 1 by omega, List.drop_succ_cons, List.drop_drop]
     have hd0 := hd 0; have hd1 := hd 1; rw [Nat.add_zero, List.drop_zero] at hd0
     have hlen : r.length = (labs r).length + (r.drop (labs r).length).length := by
      have := congrArg List.length e1; rw [List.length_append, e3] at this; exact this
     have hd2 : r.drop (1 + (labs r).length) = (r.drop (labs r).length).drop 1 := by rw [List.drop_drop, Nat.add_comm]
     rw [hd0]
     (try rw [hd2])
     generalize r.drop (labs r).length = q at *; split
     ·exact .inl (lackR_ne _ _ _ _)
     ·next h2 =>
      obtain ⟨b, q2, rfl, hb⟩ := isS_ex (r := q) (w := sLc) (by simpa using h2)
      split
      ·have hat : (t :: r)[1 + (labs r).length]? = some b := by
        have := congrArg List.head? hd0; rw [List.head?_drop] at this; exact this
       rw [hat]; exact .inl ⟨_, _, by decide, rfl⟩
      ·next h64 =>
       have hn : n <= 64 := by omega
       simp only [List.length_cons] at hlen ⊢; split
       ·next hl =>
        have : q2 = [] := List.eq_nil_of_length_eq_zero (by omega)
        subst this; rw [e1]; exact .inr (.begins ha e2 hb hn)
       ·next hl =>
        split
        ·exact .inl (lackR_ne _ _ _ _)
        ·next h3 =>
         obtain ⟨c, q3, hq, hc⟩ := isS_ex (r := (b :: q2).drop 1) (w := sRc) (by simpa using h3)
         simp only [List.drop_succ_cons, List.drop_zero] at hq; subst hq; split
         ·exact .inl (lackR_ne _ _ _ _)
         ·next h4 =>
          have : q3 = [] := List.eq_nil_of_length_eq_zero (by simp only [List.length_cons] at hlen; omega)
          subst this; rw [e1]; exact .inr (.bare ha e2 hb hc hn)
theorem word1 {t : Tok} (h : t.kind = 1) : wordB t = true := by unfold wordB; rw [decide_eq_true h]; rfl
theorem word3 {t : Tok} (h : t.kind = 3) : wordB t = true := by unfold wordB; rw [decide_eq_true h]; simp
structure RowS (p : List Tok) (r : LnR) : Prop where
 cl : clP p = true ↔ r = .fin
 op : opP p = true ↔ ∃ x, r = .begins x
 at_ : atP p = true ↔ ∃ x, r = .attr x
 ch : chB p = true
 fin : r = .fin -> ∃ t, p = [t]
theorem chB_labs {a : Tok} {m : List Tok} (hm : chB m = true) : ∀ (ls : List Tok), a.kind = 1 -> (∀ u ∈ ls, u.kind = 3) -> chB (a :: (ls ++ m)) = true := by
 intro ls ha hl
 have hw : ∀ (ls : List Tok) (a : Tok), wordB a = true -> (∀ u ∈ ls, u.kind = 3) -> chB (a :: (ls ++ m)) = true := by
  intro ls
  induction ls with
  | nil =>
   intro a ha _
   cases m with
   | nil => rfl
   | cons b m =>
    simp only [List.nil_append, chB, hm, Bool.and_true]; exact adj_en (by unfold enB; rw [ha]; rfl)
  | cons u ls ih =>
   intro a ha hl; simp only [List.cons_append, chB, Bool.and_eq_true]; exact ⟨adj_en (by unfold enB; rw [ha]; rfl), ih u (word3 (hl u (by simp))) (fun v hv => hl v (by simp [hv]))⟩
 exact hw ls a (word1 ha) hl
theorem last_appV (l : List Tok) (a : Tok) : (l ++ [a]).getLast? = some a := List.getLast?_concat
theorem RowK.facts {n : Nat} {p : List Tok} {r : LnR} (h : RowK n p r) : RowS p r := by
 cases h with
 | empty => exact ⟨by simp [clP], by simp [opP], by simp [atP], rfl, (fun h => by cases h)⟩
 | fin h hn =>
  next t =>
  refine ⟨by simp [clP, h], ?_, by simp [atP], rfl, fun _ => ⟨t, rfl⟩⟩
  have : isB t sLc = false := isB_ne h (by decide)
  simp [opP, this]
 | attr ha he hs =>
  next a e q x =>
  have h1 : clP (a :: e :: q) = false := wordB_no (word1 ha) _
  have h2 : opP (a :: e :: q) = false := by
   obtain ⟨q0, t, rfl, ht⟩ := SgT.last hs.e; unfold opP; rw [<- List.cons_append, <- List.cons_append, last_appV]; exact en_no ht (by decide) (by decide)
  refine ⟨by simp [h1], by simp [h2], by simp [atP, he], ?_, (fun h => by cases h)⟩
  have h3 := chB_cons he (by decide) (by decide) hs.c
  simp only [chB, h3, Bool.and_true]; exact adj_en (by unfold enB; rw [word1 ha]; rfl)
 | begins ha hl ht hn =>
  next a t ls x =>
  have h1 : clP (a :: (ls ++ [t])) = false := wordB_no (word1 ha) _
  have h2 : opP (a :: (ls ++ [t])) = true := by
   unfold opP; rw [<- List.cons_append, last_appV]; exact ht
  refine ⟨by simp [h1], by simp [h2], ?_, chB_labs rfl ls ha hl, (fun h => by cases h)⟩
  have h3 : atP (a :: (ls ++ [t])) = false := by
   cases ls with
   | nil => exact isB_ne ht (by decide)
   | cons u ls => exact wordB_no (word3 (hl u (by simp))) _
  simp [h3]
 | bare ha hl ht hu hn =>
  next a t u ls x =>
  have h1 : clP (a :: (ls ++ [t, u])) = false := wordB_no (word1 ha) _
  have h2 : opP (a :: (ls ++ [t, u])) = false := by
   unfold opP; rw [show a :: (ls ++ [t, u]) = (a :: (ls ++ [t])) ++ [u] by simp, last_appV]
   exact isB_ne hu (by decide)
  refine ⟨by simp [h1], by simp [h2], ?_, chB_labs ?_ ls ha hl, (fun h => by cases h)⟩
  ·have h3 : atP (a :: (ls ++ [t, u])) = false := by
    cases ls with
    | nil => exact isB_ne ht (by decide)
    | cons v ls => exact wordB_no (word3 (hl v (by simp))) _
   simp [h3]
  ·exact chB_cons ht (by decide) (by decide) rfl
theorem readK_dep {st : List Itm} {p : List Tok} {stop : Int} {last : Bool} (h : (readK st p stop last).2.2 = 0) (hs : st ≠ []) :
  ∃ r, lineK st.length p stop last = r /\ RowK st.length p r /\ (readK st p stop last).1 = (readR st r).1 /\
   (if clP p then 2 <= st.length else True) /\ (readK st p stop last).1.length = (if clP p then st.length - 1 else st.length) + (if opP p then 1 else 0) /\ (opP p = true -> st.length <= 64) := by
 have hl := List.length_pos_iff.2 hs; rcases rowK_of st.length p stop last with ⟨a, e, h1, h2⟩ | hk
 ·rw [readK_R, h2] at h
  exact absurd h h1
 ·refine ⟨_, rfl, hk, by rw [readK_R], ?_⟩
  rw [readK_R] at h ⊢; have hf := hk.facts
  have h64 : opP p = true -> st.length <= 64 := fun ho => by
   obtain ⟨x, hx⟩ := hf.op.1 ho; rw [hx] at hk
   cases hk with
   | begins _ _ _ hn => exact hn
  refine ⟨?_, ?_, h64⟩
  ·split
   ·next hc =>
    have hx := hf.cl.1 hc; have := lineK_fin hx; omega
   ·trivial
  ·obtain ⟨f1, f2, -, -, -⟩ := hf
   generalize lineK st.length p stop last = r at *
   cases r with
   | wrong a e => cases hk
   | empty =>
    have c : clP p = false := by simpa using f1
    have o : opP p = false := by simpa using f2
    rw [c, o]; rfl
   | attr x =>
    have c : clP p = false := by simpa using f1
    have o : opP p = false := by simpa using f2
    rw [c, o]; simp [readR, addTop_len]
   | begins x =>
    have c : clP p = false := by simpa using f1
    have o : opP p = true := f2.2 ⟨x, rfl⟩; rw [c, o]; simp [readR]
   | bare x =>
    have c : clP p = false := by simpa using f1
    have o : opP p = false := by simpa using f2
    rw [c, o]; simp [readR, addTop_len]
   | fin =>
    have c : clP p = true := f1.2 rfl; have o : opP p = false := by simpa using f2
    rw [c, o]; simp [readR, addTop_len]
def n0 (t : Tok) : Tok := ⟨t.kind, t.text, 0⟩
theorem n0_kt : KT n0 := fun _ => ⟨rfl, rfl⟩
def WqL (a b : LnR) : Prop := (∃ e x y, a = .wrong x e /\ b = .wrong y e) \/ a = b
theorem lackR_kt (f : Tok -> Tok) (row : List Tok) (s s2 : Int) (last : Bool) (i : Nat) : WqL (lackR (row.map f) s2 last i) (lackR row s last i) := by
 unfold lackR; rw [List.getElem?_map]
 cases row[i]? with
 | some t => exact .inl ⟨_, _, _, rfl, rfl⟩
 | none => cases last <;> exact .inl ⟨_, _, _, rfl, rfl⟩
theorem lineK_kt {f : Tok -> Tok} (hf : KT f) (n : Nat) (row : List Tok) (s s2 : Int) (last : Bool) : WqL (lineK n (row.map f) s2 last) (lineK n row s last) := by
 cases row with
 | nil => exact .inr rfl
 | cons t r =>
  have e1 := isS_map hf (t :: r); have e2 := lackR_kt f (t :: r) s s2 last; simp only [List.map_cons] at e1 e2; simp only [List.map_cons, lineK, e1, isS_map hf, (hf t).1, (hf t).2, List.length_cons, List.length_map]; split
  ·split
   ·exact e2 _
   ·split
    ·exact e2 _
    ·exact .inr rfl
  ·split
   ·exact e2 _
   ·split
    ·unfold attrK
     rw [<- List.map_cons, <- List.map_drop, parE_map hf, List.length_map, List.getElem?_map]; split
     ·exact e2 _
     ·split
      ·exact .inr rfl
      ·cases (t :: r)[2 + (parE ((t :: r).drop 2)).2.1]? with
       | some t => exact .inl ⟨_, _, _, rfl, rfl⟩
       | none => exact .inr rfl
    ·unfold blockK
     rw [<- List.map_cons]; simp only [<- List.map_drop, labs_map hf, isS_map hf, List.length_map, List.getElem?_map]; split
     ·exact e2 _
     ·split
      ·cases (t :: r)[1 + (labs ((t :: r).drop 1)).length]? with
       | some t => exact .inl ⟨_, _, _, rfl, rfl⟩
       | none => exact .inr rfl
      ·split
       ·exact .inr rfl
       ·split
        ·exact e2 _
        ·split
         ·exact e2 _
         ·exact .inr rfl
theorem lineK_wq {n : Nat} {row : List Tok} {s s2 : Int} {last last2 : Bool} : (∃ a e b e2, e ≠ 0 /\ e2 ≠ 0 /\ lineK n (row.map n0) s2 last2 = .wrong a e /\ lineK n row s last = .wrong b e2) \/ lineK n (row.map n0) s2 last2 = lineK n row s last := by
 rcases lineK_last n row s s last last2 with h | ⟨a, e, h1, h2⟩
 ·rcases lineK_kt n0_kt n row s s2 last2 with ⟨e, x, y, h3, h4⟩ | h3
  ·rcases rowK_of n row s last2 with ⟨a, e', h5, h6⟩ | h5
   ·rw [h4] at h6
    cases h6
    exact .inl ⟨_, _, _, _, h5, h5, h3, by rw [<- h, h4]⟩
   ·rw [h4] at h5; cases h5
  ·exact .inr (by rw [h3, h])
 ·rcases lineK_last n row s s last2 last with h3 | ⟨b, e2, h3, h4⟩
  ·rcases lineK_kt n0_kt n row s s2 last2 with ⟨e3, x, y, h5, h6⟩ | h5
   ·rw [<- h3, h2] at h6
    cases h6
    exact .inl ⟨_, _, _, _, h1, h1, h5, h2⟩
   ·rw [<- h3, h2] at h5
    exact .inl ⟨_, _, _, _, h1, h1, h5, h2⟩
  ·rcases lineK_kt n0_kt n row s s2 last2 with ⟨e3, x, y, h5, h6⟩ | h5
   ·rw [h4] at h6
    cases h6
    exact .inl ⟨_, _, _, _, h3, h1, h5, h2⟩
   ·rw [h4] at h5
    exact .inl ⟨_, _, _, _, h3, h1, h5, h2⟩
theorem readK_n0 (st : List Itm) (row : List Tok) (s s2 : Int) (last last2 : Bool) : ((readK st row s last).2.2 = 0 ↔ (readK st (row.map n0) s2 last2).2.2 = 0) /\ (readK st row s last).1 = (readK st (row.map n0) s2 last2).1 := by
 rw [readK_R, readK_R]; rcases lineK_wq (n := st.length) (row := row) (s := s) (s2 := s2) (last := last) (last2 := last2) with ⟨a, e, b, e2, h1, h2, h3, h4⟩ | h
 ·rw [h3, h4]
  exact ⟨⟨fun h => absurd h h2, fun h => absurd h h1⟩, rfl⟩
 ·rw [h]; exact ⟨Iff.rfl, rfl⟩
def runK : List (List Tok) -> List Itm -> Option (List Itm)
 | [], st => some st
 | r :: l, st => if (readK st (plR r) 0 true).2.2 = 0 then runK l (readK st (plR r) 0 true).1 else none
def lexN (a : Bs) : List Tok := (lexL a 0).1.map n0
def rowsN (l : Bs) : List (List Tok) := (cutL l).map lexN
theorem lexL_n0 (a : Bs) (p : Nat) : (lexL a p).1.map n0 = lexN a /\ ((lexL a p).2.2 = (lexL a 0).2.2) := by
 have h := lex_shift a.length a 0 p (Nat.le_refl _); rw [Nat.zero_add] at h; rw [h]; refine ⟨?_, rfl⟩; unfold lexN; simp only [List.map_map]; rfl
theorem plR_n0 (r : List Tok) : plR (r.map n0) = (plR r).map n0 := by
 unfold plR; rw [List.filter_map]; rfl
theorem plR_app (a b : List Tok) : plR (a ++ b) = plR a ++ plR b := List.filter_append ..
theorem comB_iff (t : Tok) : comB t = true ↔ t.kind = 6 \/ t.kind = 7 := by unfold comB; simp
theorem linesF_cons (size : Int) (t : Tok) (r : List Tok) (st : List Itm) (row : List Tok) (h5 : t.kind ≠ 5) : linesF size (t :: r) st row = if t.kind = 6 \/ t.kind = 7 then linesF size r st row else linesF size r st (row ++ [t]) := by
 rw [linesF, if_neg h5]
theorem linesF_line (size : Int) (x : ByteArray) (q : Int) (tb : List Tok) : ∀ (ta : List Tok) (st : List Itm) (row : List Tok), (∀ t ∈ ta, t.kind ≠ 5) ->
  linesF size (ta ++ ⟨5, x, q⟩ :: tb) st row = if (readK st (row ++ plR ta) q false).2.2 ≠ 0 then ([], (readK st (row ++ plR ta) q false).2) else linesF size tb (readK st (row ++ plR ta) q false).1 []
 | [], st, row, _ => by
  rw [List.nil_append, linesF, if_neg (by show ¬ ((5 : Int) = 6 \/ (5 : Int) = 7); decide), if_pos rfl]
  simp [plR]
 | t :: ta, st, row, h => by
  have h5 := h t (by simp)
  have ih := fun r => linesF_line size x q tb ta st r (fun u hu => h u (by simp [hu]))
  rw [List.cons_append, linesF]
  by_cases h6 : t.kind = 6 \/ t.kind = 7
  ·rw [if_pos h6, ih, show plR (t :: ta) = plR ta by unfold plR; rw [List.filter_cons_of_neg (by rw [(comB_iff t).2 h6]; decide)]]
  ·have hc : comB t = false := by rw [<- Bool.not_eq_true]; exact fun e => h6 ((comB_iff t).1 e)
   rw [if_neg h6, if_neg h5, ih, show plR (t :: ta) = t :: plR ta by unfold plR; rw [List.filter_cons_of_pos (by rw [hc]; rfl)]]
   simp
theorem linesF_last (size : Int) : ∀ (ta : List Tok) (st : List Itm) (row : List Tok), (∀ t ∈ ta, t.kind ≠ 5) -> linesF size ta st row = linesF size [] st (row ++ plR ta)
 | [], st, row, _ => by simp [plR]
 | t :: ta, st, row, h => by
  have h5 := h t (by simp)
  have ih := fun r => linesF_last size ta st r (fun u hu => h u (by simp [hu]))
  rw [linesF_cons size t ta st row h5]
  by_cases h6 : t.kind = 6 \/ t.kind = 7
  ·rw [if_pos h6, ih, show plR (t :: ta) = plR ta by unfold plR; rw [List.filter_cons_of_neg (by rw [(comB_iff t).2 h6]; decide)]]
  ·have hc : comB t = false := by rw [<- Bool.not_eq_true]; exact fun e => h6 ((comB_iff t).1 e)
   rw [if_neg h6, ih, show plR (t :: ta) = t :: plR ta by unfold plR; rw [List.filter_cons_of_pos (by rw [hc]; rfl)]]
   simp
theorem linesF_run (size : Int) (l : Bs) : ∀ (p : Nat) (st : List Itm), (lexL l p).2.2 = 0 -> st ≠ [] ->
  ((linesF size (lexL l p).1 st []).2.2 = 0 /\ ∃ x, runK (rowsN l) st = some [x] /\ linesF size (lexL l p).1 st [] = (x.items, -1, 0)) \/ ((linesF size (lexL l p).1 st []).2.2 ≠ 0 /\ ∀ x, runK (rowsN l) st ≠ some [x]) := by
 refine cut_ind (P := fun l => ∀ (p : Nat) (st : List Itm), (lexL l p).2.2 = 0 -> st ≠ [] ->
  ((linesF size (lexL l p).1 st []).2.2 = 0 /\ ∃ x, runK (rowsN l) st = some [x] /\ linesF size (lexL l p).1 st [] = (x.items, -1, 0)) \/ ((linesF size (lexL l p).1 st []).2.2 ≠ 0 /\ ∀ x, runK (rowsN l) st ≠ some [x])) ?_ ?_ l
 ·intro a ha p st h hs
  rw [linesF_last _ _ _ _ (lex_noline a.length a p (Nat.le_refl _) ha), List.nil_append, linesF]; unfold rowsN; rw [cutL_one a ha, List.map_singleton, runK, runK]; have hn := readK_n0 st (plR (lexL a p).1) size 0 true true; rw [<- plR_n0, (lexL_n0 a p).1] at hn; have hne := readK_ne hs (plR (lexN a)) 0 true; rw [hn.2]
  by_cases h0 : (readK st (plR (lexL a p).1) size true).2.2 = 0
  ·rw [if_neg (fun q => q h0), if_pos (hn.1.1 h0)]
   generalize (readK st (plR (lexN a)) 0 true).1 = S at *
   match S, hne with
   | [x], _ => exact .inl ⟨rfl, x, rfl, rfl⟩
   | x :: y :: S, _ => exact .inr ⟨by simp, fun z hz => by simp at hz⟩
  ·rw [if_pos h0, if_neg (fun q => h0 (hn.1.2 q))]
   exact .inr ⟨h0, fun z hz => by cases hz⟩
 ·intro a b ha ih p st h hs
  obtain ⟨h1, h2, h3⟩ := lex_lines a b p h; rw [h3]; simp only; rw [linesF_line _ _ _ _ _ _ _ (lex_noline a.length a p (Nat.le_refl _) ha), List.nil_append]; unfold rowsN; rw [cutL_nl a b ha, List.map_cons, runK]; have hn := readK_n0 st (plR (lexL a p).1) ((p + a.length : Nat) : Int) 0 false true; rw [<- plR_n0, (lexL_n0 a p).1] at hn; have hne := readK_ne hs (plR (lexN a)) 0 true
  by_cases h0 : (readK st (plR (lexL a p).1) ((p + a.length : Nat) : Int) false).2.2 = 0
  ·rw [if_neg (fun q => q h0), if_pos (hn.1.1 h0), hn.2]
   exact ih _ _ h2 hne
  ·rw [if_pos h0, if_neg (fun q => h0 (hn.1.2 q))]
   exact .inr ⟨h0, fun z hz => by cases hz⟩
theorem linesP_run (l : Bs) : ((linesP l).2.2 = 0 /\ (lexL l 0).2.2 = 0 /\ ∃ x, runK (rowsN l) [zeroI] = some [x] /\ linesP l = (x.items, -1, 0)) \/ ((linesP l).2.2 ≠ 0 /\ ((lexL l 0).2.2 = 0 -> ∀ x, runK (rowsN l) [zeroI] ≠ some [x])) := by
 by_cases h : (lexL l 0).2.2 = 0
 ·rw [linesP_of h]
  rcases linesF_run l.length l 0 [zeroI] h (by simp) with ⟨h1, h2⟩ | ⟨h1, h2⟩
  ·exact .inl ⟨h1, h, h2⟩
  ·exact .inr ⟨h1, fun _ => h2⟩
 ·rw [linesP_bad h]
  exact .inr ⟨h, fun q => absurd q h⟩
end Go.Proofs.YtbcdaaobbebooaaGreatDoor
namespace Go.Proofs.YtbcdaaobbebooaaGreatDoor
set_option maxRecDepth 100000
set_option maxHeartbeats 20000000
open Go.RowKit Go.Tab
def nxD (n : Nat) (r : List Tok) : Nat := (if clR r then n - 1 else n) + (if opR r then 1 else 0)
def runD : List (List Tok) -> Nat -> Prop
 | [], _ => True
 | r :: l, n => (clR r = true -> 1 <= n) /\ nxD n r <= 64 /\ runD l (nxD n r)
theorem depR_nat {n : Nat} {r : List Tok} (h : clR r = true -> 1 <= n) : depR n r = ((if clR r then n - 1 else n : Nat) : Int) := by
 unfold depR
 cases hc : clR r with
 | true => have := h hc; simp; omega
 | false => simp
theorem nxtO_nat {n : Nat} {r : List Tok} (h : clR r = true -> 1 <= n) : nxtO n r = (nxD n r : Int) := by
 unfold nxtO nxD; rw [depR_nat h]; cases opR r <;> simp
theorem runK_runD : ∀ (l : List (List Tok)) (st S : List Itm), st ≠ [] -> st.length <= 65 -> runK l st = some S -> runD l (st.length - 1) /\ ∀ r ∈ l, clR r = true -> opR r = false
 | [], st, S, _, _, _ => ⟨trivial, fun r h => by cases h⟩
 | r :: l, st, S, hs, hst, h => by
  rw [runK] at h
  by_cases h0 : (readK st (plR r) 0 true).2.2 = 0
  ·rw [if_pos h0] at h
   obtain ⟨r', h1, h2, h3, h4, h5, h6⟩ := readK_dep h0 hs; have hl := List.length_pos_iff.2 hs
   have hx : (readK st (plR r) 0 true).1.length - 1 = nxD (st.length - 1) r := by
    rw [h5]; unfold nxD; rw [clR_P, opR_P]; cases hc : clP (plR r) <;> cases ho : opP (plR r) <;> simp [hc] at h4 ⊢ <;> omega
   have hlen : 0 < (readK st (plR r) 0 true).1.length /\ (readK st (plR r) 0 true).1.length <= 65 := by
    rw [h5]; cases hc : clP (plR r) <;> cases ho : opP (plR r) <;> simp [hc, ho] at h4 h6 ⊢ <;> omega
   obtain ⟨i1, i2⟩ := runK_runD l _ S (List.length_pos_iff.1 hlen.1) hlen.2 h; rw [hx] at i1
   have hlo : clR r = true -> opR r = false := by
    intro hc; rw [clR_P] at hc; obtain ⟨t, ht⟩ := h2.facts.fin (h2.facts.cl.1 hc); rw [opR_P, ht]; rw [ht] at hc
    cases hq : opP [t] with
    | false => rfl
    | true =>
     simp only [clP, opP] at hc hq; have hc : isB t sRc = true := by simpa using hc
     have hq : isB t sLc = true := by simpa using hq
     have := isB_ne (v := sRc) (w := sLc) hc (by decide)
     rw [hq] at this; cases this
   refine ⟨⟨fun hc => ?_, by rw [<- hx]; omega, i1⟩, fun q hq => ?_⟩
   ·rw [clR_P] at hc
    rw [hc] at h4; simp at h4
    omega
   ·rcases List.mem_cons.1 hq with rfl | hq
    ·exact hlo
    ·exact i2 q hq
  ·rw [if_neg h0] at h; cases h
theorem runD_drop : ∀ (l : List (List Tok)) (n : Nat) (x : List Tok) (q : List (List Tok)), runD l n -> dropE l = x :: q -> (clR x = true -> 1 <= n) /\ nxD n x <= 64 /\ runD q (nxD n x)
 | [], n, x, q, _, h => by cases h
 | [] :: l, n, x, q, hr, h => by
  rw [dropE] at h; exact runD_drop l n x q hr.2.2 h
 | (t :: r) :: l, n, x, q, hr, h => by
  rw [dropE] at h; cases h
  exact hr
theorem isB_com {t : Tok} {v : ByteArray} (h : isB t v = true) : comB t = false := by
 cases hc : comB t with
 | false => rfl
 | true =>
  have := (comB_iff t).1 hc; unfold isB at h; simp at h
  omega
theorem lastR_op {r : List Tok} (h : lastR r = true) : opR r = true /\ plR r ≠ [] := by
 unfold lastR at h
 cases hg : r.getLast? with
 | none => rw [hg] at h; cases h
 | some t =>
  rw [hg] at h
  obtain ⟨l, rfl⟩ : ∃ l, r = l ++ [t] := by
   have hne : r ≠ [] := by rintro rfl; cases hg
   rw [List.getLast?_eq_some_getLast hne] at hg; exact ⟨r.dropLast, by rw [<- Option.some.inj hg, List.dropLast_concat_getLast]⟩
  have hp : plR (l ++ [t]) = plR l ++ [t] := by rw [plR_app]; simp [plR, isB_com h]
  unfold opR; rw [hp, List.getLast?_concat]; exact ⟨h, by simp⟩
theorem headR_cl {r : List Tok} (h : headR r = true) : clR r = true /\ plR r ≠ [] := by
 cases r with
 | nil => cases h
 | cons t q =>
  have h : isB t sRc = true := h; have hp : plR (t :: q) = t :: plR q := by simp [plR, isB_com h]
  unfold clR; rw [hp]; exact ⟨h, by simp⟩
theorem clR_app {a b : List Tok} (h : plR a ≠ []) : clR (a ++ b) = clR a := by
 unfold clR; rw [plR_app]
 cases hp : plR a with
 | nil => exact absurd hp h
 | cons t q => rfl
theorem opR_app {a b : List Tok} (h : plR b ≠ []) : opR (a ++ b) = opR b := by
 unfold opR; rw [plR_app, List.getLast?_append]
 cases hp : (plR b).getLast? with
 | none => exact absurd (List.getLast?_eq_none_iff.1 hp) h
 | some t => rfl
theorem mrg_dep : ∀ (f : Nat) (gap : Bool) (l : List (List Tok)) (n : Nat) (pv : Option Bool), runD l n -> (∀ r ∈ l, clR r = true -> opR r = false) -> n <= 64 -> ∀ q ∈ mrgF (effM f gap l) n pv, 0 <= q.dep /\ q.dep <= 64
 | 0, _, l, n, pv, _, _, _, q, hq => by cases hq
 | f + 1, _, [], n, pv, _, _, _, q, hq => by cases hq
 | f + 1, gap, [] :: l, n, pv, hr, hc, hn, q, hq => by
  rw [effM] at hq; exact mrg_dep f true l n pv hr.2.2 (fun r h => hc r (by simp [h])) hn q hq
 | f + 1, gap, (t :: r) :: l, n, pv, hr, hc, hn, q, hq => by
  rw [effM, mrgF] at hq; simp only at hq
  have key : ∃ n2 l2, jnR (t :: r) l = ((jnR (t :: r) l).1, l2) /\ nxtO n (jnR (t :: r) l).1 = ((n2 : Nat) : Int) /\ n2 <= 64 /\ runD l2 n2 /\ (∀ r ∈ l2, clR r = true -> opR r = false) /\ clR (jnR (t :: r) l).1 = clR (t :: r) := by
   unfold jnR
   by_cases hl : lastR (t :: r) = true
   ·rw [if_pos hl]
    cases hd : dropE l with
    | nil => exact ⟨nxD n (t :: r), l, rfl, nxtO_nat hr.1, hr.2.1, hr.2.2, fun r h => hc r (by simp [h]), rfl⟩
    | cons x q2 =>
     simp only
     by_cases hh : headR x = true
     ·rw [if_pos hh]
      obtain ⟨d1, d2, d3⟩ := runD_drop l _ x q2 hr.2.2 hd; obtain ⟨o1, o2⟩ := lastR_op hl; obtain ⟨c1, c2⟩ := headR_cl hh; have hxm : x ∈ l := (dropE_cons hd).2.2 x (.inl rfl); have ox : opR x = false := hc x (by simp [hxm]) c1
      have hcl := clR_app (a := t :: r) (b := x) o2; refine ⟨nxD (nxD n (t :: r)) x, q2, rfl, ?_, d2, d3, fun r h => hc r (by simp [(dropE_cons hd).2.2 r (.inr h)]), hcl⟩
      unfold nxtO; rw [opR_app c2, ox]; have : depR n (t :: r ++ x) = depR n (t :: r) := by unfold depR; rw [hcl]
      rw [if_neg (by simp), this, depR_nat hr.1]
      unfold nxD; rw [o1, c1, ox]; simp
     ·rw [if_neg hh]
      exact ⟨nxD n (t :: r), l, rfl, nxtO_nat hr.1, hr.2.1, hr.2.2, fun r h => hc r (by simp [h]), rfl⟩
   ·rw [if_neg hl]
    exact ⟨nxD n (t :: r), l, rfl, nxtO_nat hr.1, hr.2.1, hr.2.2, fun r h => hc r (by simp [h]), rfl⟩
  obtain ⟨n2, l2, e1, e2, h1, h2, h3, h4⟩ := key; rw [e1] at hq; simp only [e2] at hq; rcases List.mem_append.1 hq with hq | hq
  ·split at hq
   ·rw [List.mem_singleton.1 hq]; exact ⟨by decide, by decide⟩
   ·cases hq
  ·rcases List.mem_cons.1 hq with rfl | hq
   ·simp only
    have : depR n (jnR (t :: r) l).1 = depR n (t :: r) := by unfold depR; rw [h4]
    rw [this, depR_nat hr.1]; cases clR (t :: r) <;> simp <;> omega
   ·exact mrg_dep f false l2 n2 _ h2 h3 h1 q hq
end Go.Proofs.YtbcdaaobbebooaaGreatDoor
namespace Go.Proofs.YtbcdaaobbebooaaGreatDoor
set_option maxRecDepth 100000
set_option maxHeartbeats 20000000
theorem lex_blanks : ∀ (l r : Bs) (p : Nat), (∀ x ∈ l, blankB x = true) -> lexL (l ++ r) p = lexL r (p + l.length)
 | [], r, p, _ => rfl
 | c :: l, r, p, h => by
  rw [List.cons_append, lexL_blank (h c (by simp)), lex_blanks l r (p + 1) (fun x hx => h x (by simp [hx])), List.length_cons]
  congr 1
  omega
end Go.Proofs.YtbcdaaobbebooaaGreatDoor
namespace Go.Proofs.YtbcdaaobbebooaaGreatDoor
set_option maxRecDepth 100000
set_option maxHeartbeats 20000000
abbrev m0 (r : List Tok) : List Tok := r.map n0
theorem lastR_n0 (r : List Tok) : lastR (m0 r) = lastR r := by
 unfold lastR; rw [List.getLast?_map]; cases r.getLast? <;> rfl
theorem headR_n0 (r : List Tok) : headR (m0 r) = headR r := by cases r <;> rfl
theorem clR_n0 (r : List Tok) : clR (m0 r) = clR r := by
 unfold clR; rw [plR_n0]; cases plR r <;> rfl
theorem opR_n0 (r : List Tok) : opR (m0 r) = opR r := by
 unfold opR; rw [plR_n0, List.getLast?_map]; cases (plR r).getLast? <;> rfl
theorem dropE_n0 : ∀ l : List (List Tok), dropE (l.map m0) = (dropE l).map m0
 | [] => rfl
 | [] :: l => by
  rw [List.map_cons, show m0 ([] : List Tok) = [] from rfl, dropE, dropE]; exact dropE_n0 l
 | (t :: q) :: l => rfl
theorem jnR_n0 (r : List Tok) (l : List (List Tok)) : jnR (m0 r) (l.map m0) = (m0 (jnR r l).1, (jnR r l).2.map m0) := by
 unfold jnR; rw [lastR_n0, dropE_n0]; split
 ·cases dropE l with
  | nil => rfl
  | cons x q =>
   simp only [List.map_cons, headR_n0]; split
   ·simp [m0]
   ·rfl
 ·rfl
def fn0 (f : FRow) : FRow := ⟨m0 f.toks, f.after⟩
def gn0 (r : TRow) : TRow := ⟨m0 r.toks, r.dep⟩
theorem effM_n0 : ∀ (n : Nat) (gap : Bool) (l : List (List Tok)), effM n gap (l.map m0) = (effM n gap l).map fn0
 | 0, _, _ => rfl
 | n + 1, _, [] => rfl
 | n + 1, gap, [] :: l => by
  rw [List.map_cons, show m0 ([] : List Tok) = [] from rfl, effM, effM]; exact effM_n0 n true l
 | n + 1, gap, (t :: q) :: l => by
  have h := jnR_n0 (t :: q) l; rw [List.map_cons, show m0 (t :: q) = n0 t :: m0 q from rfl, effM, effM, <- show m0 (t :: q) = n0 t :: m0 q from rfl, h, List.map_cons, effM_n0 n false]; rfl
theorem mrgF_n0 : ∀ (l : List FRow) (d : Int) (pv : Option Bool), mrgF (l.map fn0) d pv = (mrgF l d pv).map gn0
 | [], _, _ => rfl
 | f :: l, d, pv => by
  have e1 : clR (fn0 f).toks = clR f.toks := clR_n0 _; have e2 : opR (fn0 f).toks = opR f.toks := opR_n0 _; have e3 : depR d (fn0 f).toks = depR d f.toks := by unfold depR; rw [e1]
  have e4 : nxtO d (fn0 f).toks = nxtO d f.toks := by unfold nxtO; rw [e2, e3]
  rw [List.map_cons, mrgF, mrgF, e1, e2, e3, e4, mrgF_n0 l, List.map_append, List.map_cons]
  congr 1
  show (if f.after && (pv.isSome && (!clR f.toks && pv != some true)) then [(⟨[], 0⟩ : TRow)] else []) = _; split <;> rfl
theorem behL_n0 : ∀ l : List Tok, behL (m0 l) = behL l
 | [] => rfl
 | t :: l => by
  show (if comB t then behL (m0 l) else _) = _; rw [behL_n0 l]; rfl
theorem gapN_n0 (r : List Tok) (i : Nat) : gapN (m0 r) i = gapN r i := by
 cases i with
 | zero => rfl
 | succ i =>
  have e : behB (m0 r) i = behB r i := by
   unfold behB; rw [<- List.map_take, <- List.map_reverse, behL_n0]
  simp only [gapN, List.getElem?_map, e]
  cases r[i]? with
  | none => rfl
  | some a => cases r[i + 1]? with
   | none => rfl
   | some b => rfl
theorem pcsR_n0 (r : List Tok) (ind : Nat) : pcsR (m0 r) ind = (pcsR r ind).map fun x => (x.1, n0 x.2) := by
 refine List.ext_getElem (by rw [pcsR_len, List.length_map, List.length_map, pcsR_len]) fun i h1 h2 => ?_
 rw [pcsR_len, List.length_map] at h1; rw [List.getElem_map, pcsR_at h1, pcsR_at (by rw [List.length_map]; exact h1), List.getElem_map]
 unfold gapAt; rw [gapN_n0]
theorem catQ_n0 (l : List (Nat × Tok)) : catQ (l.map fun x => (x.1, n0 x.2)) = catQ l := by
 unfold catQ; rw [List.flatMap_map]; rfl
theorem partB_n0 (r : List Tok) (ind fr en : Nat) : partB (m0 r) ind fr en = partB r ind fr en := by
 unfold partB; rw [pcsR_n0, <- List.map_take, <- List.map_drop, catQ_n0]
theorem plF_n0 : ∀ (r : List Tok) (i n : Nat), plF (m0 r) i n = plF r i n
 | [], _, _ => rfl
 | t :: r, i, 0 => by
  show (if comB t then plF (m0 r) (i + 1) 0 else some i) = _; rw [plF_n0 r]; rfl
 | t :: r, i, n + 1 => by
  show (if comB t then plF (m0 r) (i + 1) (n + 1) else plF (m0 r) (i + 1) n) = _; rw [plF_n0 r, plF_n0 r]; rfl
theorem eqR_n0 (r : List Tok) : eqR (m0 r) = eqR r := by
 unfold eqR; rw [plF_n0]
 cases plF r 0 1 with
 | none => rfl
 | some i =>
  simp only [List.getElem?_map]; cases r[i]? <;> rfl
theorem eq_n0 (r : TRow) : (gn0 r).eq = r.eq := by unfold TRow.eq; rw [show (gn0 r).toks = m0 r.toks from rfl, eqR_n0]
theorem headB_n0 (r : TRow) : headB (gn0 r) = headB r := by
 unfold headB; rw [eq_n0]; exact partB_n0 _ _ _ _
theorem rowB_n0 (r : TRow) : rowB (gn0 r) = rowB r := by
 unfold rowB; rw [show (gn0 r).toks = m0 r.toks from rfl, partB_n0, List.length_map]; rfl
theorem lineA_n0 (W : Nat) (r : TRow) : lineA W (gn0 r) = lineA W r := by
 unfold lineA; rw [headB_n0, eq_n0, show (gn0 r).toks = m0 r.toks from rfl, partB_n0, List.length_map, List.getElem?_map]; cases r.toks[r.eq]? <;> rfl
theorem widB_n0 (l : List TRow) : widB (l.map gn0) = widB l := by
 unfold widB; rw [List.foldl_map]; simp only [headB_n0]
theorem alnB_n0 (l : List TRow) : alnB (l.map gn0) = alnB l := by
 unfold alnB; rw [List.flatMap_map, widB_n0]
 congr 1
 funext r
 exact lineA_n0 _ r
theorem runsF_n0 : ∀ (l run : List TRow), runsF (l.map gn0) (run.map gn0) = runsF l run
 | [], run => alnB_n0 run
 | r :: l, run => by
  have h1 := runsF_n0 l (run ++ [r]); have h2 := runsF_n0 l []; rw [List.map_append, List.map_singleton] at h1; rw [List.map_nil] at h2; rw [List.map_cons, runsF, runsF, show (gn0 r).toks = m0 r.toks from rfl, eqR_n0, h1, h2, alnB_n0, rowB_n0]
theorem tidyR_n0 (l : List (List Tok)) : tidyR (l.map m0) = (tidyR l).map gn0 := by
 unfold tidyR; rw [List.length_map, effM_n0, mrgF_n0]
theorem tidyB_n0 (l : List (List Tok)) : tidyB (l.map m0) = tidyB l := by
 unfold tidyB; rw [tidyR_n0]; exact runsF_n0 _ []
theorem dropE_nil : ∀ l : List (List Tok), dropE (l ++ [[]]) = if dropE l = [] then [] else dropE l ++ [[]]
 | [] => rfl
 | [] :: l => by
  rw [List.cons_append, dropE, dropE]; exact dropE_nil l
 | (t :: q) :: l => by
  rw [List.cons_append, dropE, dropE]; simp
theorem jnR_nil (r : List Tok) (l : List (List Tok)) : jnR r (l ++ [[]]) = ((jnR r l).1, (jnR r l).2 ++ [[]]) := by
 unfold jnR; rw [dropE_nil]; split
 ·cases dropE l with
  | nil => rfl
  | cons x q =>
   simp only [List.cons_append, reduceCtorEq, if_false]; split <;> rfl
 ·rfl
theorem jnR_len (r : List Tok) (l : List (List Tok)) : (jnR r l).2.length <= l.length := by
 unfold jnR; split
 ·cases hd : dropE l with
  | nil => exact Nat.le_refl _
  | cons x q =>
   have := (dropE_cons hd).2.1; simp only; split
   ·simp only; omega
   ·exact Nat.le_refl _
 ·exact Nat.le_refl _
theorem effM_nil : ∀ (n m : Nat) (gap : Bool) (l : List (List Tok)), l.length <= n -> l.length + 1 <= m -> effM m gap (l ++ [[]]) = effM n gap l
 | n, 0, _, _, _, h => by omega
 | n, m + 1, gap, [], _, _ => by
  rw [List.nil_append, effM]; cases m <;> cases n <;> rfl
 | 0, m + 1, gap, r :: l, h, _ => by simp at h
 | n + 1, m + 1, gap, [] :: l, h1, h2 => by
  simp only [List.length_cons] at h1 h2; rw [List.cons_append, effM, effM]; exact effM_nil n m true l (by omega) (by omega)
 | n + 1, m + 1, gap, (t :: q) :: l, h1, h2 => by
  simp only [List.length_cons] at h1 h2; have := jnR_len (t :: q) l; rw [List.cons_append, effM, effM, jnR_nil]; simp only; rw [effM_nil n m false _ (by omega) (by omega)]
theorem tidyR_nil (l : List (List Tok)) : tidyR (l ++ [[]]) = tidyR l := by
 unfold tidyR; rw [effM_nil l.length _ false l (Nat.le_refl _) (by simp)]
theorem tidyB_nil (l : List (List Tok)) : tidyB (l ++ [[]]) = tidyB l := by
 unfold tidyB; rw [tidyR_nil]
theorem rowsL_N : ∀ (ls : List Bs) (p : Nat) (o : Int), ls.map lexN = (rowsL ls p o).map (fun r => m0 r.toks) \/ ls.map lexN = (rowsL ls p o).map (fun r => m0 r.toks) ++ [[]]
 | [], _, _ => .inl rfl
 | [a], p, o => by
  rw [rowsL]
  by_cases h : a = []
  ·subst h
   right
   rw [if_pos rfl]; rfl
  ·left
   rw [if_neg h]; show [lexN a] = [(lexL a p).1.map n0]; rw [(lexL_n0 a p).1]
 | a :: b :: r, p, o => by
  have e : m0 (endR o (lexL a p).1 p ((p + a.length : Nat) : Int)).toks = lexN a := (lexL_n0 a p).1; rw [rowsL, List.map_cons (l := b :: r), List.map_cons (f := fun r : RowD => m0 r.toks), e]; rcases rowsL_N (b :: r) (p + a.length + 1) (nxtO o (lexL a p).1) with h | h
  ·left; rw [h]
  ·right; rw [h]; rfl
theorem rowsN_P {l : Bs} (h : (lexL l 0).2.2 = 0) : rowsN l = ((rowsP l).map (·.toks)).map m0 \/ rowsN l = ((rowsP l).map (·.toks)).map m0 ++ [[]] := by
 rw [List.map_map, rowsP_lines h]; exact rowsL_N (cutL l) 0 0
theorem tidyB_N {l : Bs} (h : (lexL l 0).2.2 = 0) : tidyB ((rowsP l).map (·.toks)) = tidyB (rowsN l) := by
 rcases rowsN_P h with e | e
 ·rw [e, tidyB_n0]
 ·rw [e, tidyB_nil, tidyB_n0]
theorem tidyR_N {l : Bs} (h : (lexL l 0).2.2 = 0) : (tidyR ((rowsP l).map (·.toks))).map gn0 = tidyR (rowsN l) := by
 rcases rowsN_P h with e | e
 ·rw [e, tidyR_n0]
 ·rw [e, tidyR_nil, tidyR_n0]
theorem lines_lex {l : Bs} (h : (linesP l).2.2 = 0) : (lexL l 0).2.2 = 0 /\ ∃ x, runK (rowsN l) [zeroI] = some [x] := by
 rcases linesP_run l with ⟨_, h2, x, h3, _⟩ | ⟨h1, _⟩
 ·exact ⟨h2, x, h3⟩
 ·exact absurd h h1
theorem lines_of {l : Bs} {x : Itm} (h1 : (lexL l 0).2.2 = 0) (h2 : runK (rowsN l) [zeroI] = some [x]) : (linesP l).2.2 = 0 /\ linesP l = (x.items, -1, 0) := by
 rcases linesP_run l with ⟨h, _, y, h3, h4⟩ | ⟨_, h⟩
 ·rw [h2] at h3
  cases h3
  exact ⟨h, h4⟩
 ·exact absurd h2 (h h1 x)
theorem tidyP_N {l : Bs} (h : (linesP l).2.2 = 0) : tidyP l = (tidyB (rowsN l), -1, 0) := by
 unfold tidyP; rw [if_pos h, tidyB_N (lines_lex h).1]
theorem lexL_ok (l : Bs) : ∀ p, (lexL l p).2.2 = 0 ↔ ∀ a ∈ cutL l, (lexL a 0).2.2 = 0 := by
 refine cut_ind (P := fun l => ∀ p, (lexL l p).2.2 = 0 ↔ ∀ a ∈ cutL l, (lexL a 0).2.2 = 0) ?_ ?_ l
 ·intro a ha p
  rw [cutL_one a ha, (lexL_n0 a p).2]; simp
 ·intro a b ha ih p
  rw [cutL_nl a b ha]; constructor
  ·intro h
   obtain ⟨h1, h2, _⟩ := lex_lines a b p h; rw [(lexL_n0 a p).2] at h1; intro x hx; rcases List.mem_cons.1 hx with rfl | hx
   ·exact h1
   ·exact (ih _).1 h2 x hx
  ·intro h
   have h1 := h a (by simp)
   rw [<- (lexL_n0 a p).2] at h1; have h2 := (ih (p + a.length + 1)).2 fun x hx => h x (by simp [hx])
   have h3 := lex_nl a.length a p b (Nat.le_refl _) h1; rw [h3]; exact h2
def Blk (bl : Bs) : Prop := ∀ c ∈ bl, blankB c = true
theorem Blk.nl {bl : Bs} (h : Blk bl) : 10 ∉ bl := fun hm => by have := h 10 hm; revert this; decide
theorem lexN_blanks {bl : Bs} (h : Blk bl) (a : Bs) : lexN (bl ++ a) = lexN a /\ (lexL (bl ++ a) 0).2.2 = (lexL a 0).2.2 := by
 unfold lexN; rw [lex_blanks bl a 0 h]; exact ⟨(lexL_n0 a _).1, (lexL_n0 a _).2⟩
def setB (bl : Bs) (l : Bs) : Bs := l.flatMap fun c => if c = 10 then 10 :: bl else [c]
theorem setB_app (bl a b : Bs) : setB bl (a ++ b) = setB bl a ++ setB bl b := List.flatMap_append
theorem setB_one {a : Bs} (bl : Bs) (h : 10 ∉ a) : setB bl a = a := by
 induction a with
 | nil => rfl
 | cons c a ih =>
  simp only [List.mem_cons, not_or] at h; have ih := ih h.2; unfold setB at ih ⊢; rw [List.flatMap_cons, ih, if_neg (fun e => h.1 e.symm)]; rfl
theorem cut_blanks {bl : Bs} (hb : Blk bl) (l : Bs) : cutL (bl ++ (setB bl l ++ 10 :: 10 :: bl)) = (cutL l).map (bl ++ ·) ++ [[], bl] := by
 refine cut_ind (P := fun l => cutL (bl ++ (setB bl l ++ 10 :: 10 :: bl)) = (cutL l).map (bl ++ ·) ++ [[], bl]) ?_ ?_ l
 ·intro a ha
  rw [setB_one bl ha, cutL_one a ha, <- List.append_assoc, cutL_nl _ _ (by simp [hb.nl, ha])]
  have := cutL_nl [] bl (by simp)
  rw [List.nil_append] at this; rw [this, cutL_one bl hb.nl]; rfl
 ·intro a b ha ih
  have e : setB bl (a ++ 10 :: b) = a ++ 10 :: (bl ++ setB bl b) := by
   rw [setB_app, setB_one bl ha]; rfl
  rw [e, cutL_nl a b ha, show bl ++ (a ++ 10 :: (bl ++ setB bl b) ++ 10 :: 10 :: bl) = (bl ++ a) ++ 10 :: (bl ++ (setB bl b ++ 10 :: 10 :: bl)) by simp, cutL_nl _ _ (by simp [hb.nl, ha]), ih]
  rfl
theorem runK_nil : ∀ (l : List (List Tok)) (st : List Itm), runK (l ++ [[]]) st = runK l st
 | [], st => by
  rw [List.nil_append, runK, runK]; have : readK st (plR []) 0 true = (st, (readK st (plR []) 0 true).2) := by rw [readK_R]; rfl
  have h0 : (readK st (plR []) 0 true).2.2 = 0 := by rw [readK_R]; rfl
  rw [if_pos h0, this, runK]
 | r :: l, st => by
  rw [List.cons_append, runK, runK, runK_nil l]
theorem tidy_blanks {l bl : Bs} (hb : Blk bl) (h : (linesP l).2.2 = 0) : (linesP (bl ++ (setB bl l ++ 10 :: 10 :: bl))).2.2 = 0 /\ tidyP (bl ++ (setB bl l ++ 10 :: 10 :: bl)) = tidyP l := by
 obtain ⟨h1, x, h2⟩ := lines_lex h; have hc := cut_blanks hb l
 have hn : rowsN (bl ++ (setB bl l ++ 10 :: 10 :: bl)) = rowsN l ++ [[]] ++ [[]] := by
  unfold rowsN; rw [hc, List.map_append, List.map_map]
  have e1 : lexN bl = [] := by
   have := (lexN_blanks hb []).1; rw [List.append_nil] at this; rw [this]; rfl
  have e2 : (cutL l).map (lexN ∘ (bl ++ ·)) = (cutL l).map lexN := List.map_congr_left fun a _ => (lexN_blanks hb a).1; rw [e2, List.map_cons, List.map_singleton, e1, show lexN [] = [] from rfl, List.append_assoc]; rfl
 have hl : (lexL (bl ++ (setB bl l ++ 10 :: 10 :: bl)) 0).2.2 = 0 := by
  refine (lexL_ok _ 0).2 ?_; rw [hc]; have := (lexL_ok l 0).1 h1; intro a ha; simp only [List.mem_append, List.mem_map, List.mem_cons, List.not_mem_nil, or_false] at ha; rcases ha with ⟨c, hc, rfl⟩ | rfl | rfl
  ·rw [(lexN_blanks hb c).2]; exact this c hc
  ·rfl
  ·have := (lexN_blanks hb []).2
   rw [List.append_nil] at this; rw [this]; rfl
 have hk := lines_of (x := x) hl (by rw [hn, runK_nil, runK_nil]; exact h2)
 exact ⟨hk.1, by rw [tidyP_N hk.1, tidyP_N h, hn, tidyB_nil, tidyB_nil]⟩
end Go.Proofs.YtbcdaaobbebooaaGreatDoor
namespace Go.Proofs.YtbcdaaobbebooaaGreatDoor
set_option maxRecDepth 100000
set_option maxHeartbeats 20000000
def wtR (r : List Tok) : Nat := (r.map fun t => 1 + (txB t).length).sum
def wtL (l : List (List Tok)) : Nat := (l.map wtR).sum
theorem wtR_app (a b : List Tok) : wtR (a ++ b) = wtR a + wtR b := by simp [wtR]
theorem wtR_cons (t : Tok) (r : List Tok) : wtR (t :: r) = 1 + (txB t).length + wtR r := by simp [wtR]
theorem wtL_cons (r : List Tok) (l : List (List Tok)) : wtL (r :: l) = wtR r + wtL l := by simp [wtL]
theorem wtR_len (r : List Tok) : r.length <= wtR r := by
 induction r with
 | nil => exact Nat.le_refl _
 | cons t r ih => rw [wtR_cons, List.length_cons]; omega
theorem wtR_mem {r : List Tok} {t : Tok} (h : t ∈ r) : (txB t).length <= wtR r := by
 induction r with
 | nil => cases h
 | cons u r ih =>
  rw [wtR_cons]; rcases List.mem_cons.1 h with rfl | h
  ·omega
  ·have := ih h; omega
theorem lexL_wt : ∀ (k : Nat) (l : Bs) (p : Nat), l.length <= k -> wtR (lexL l p).1 <= 2 * l.length
 | 0, l, p, h => by
  obtain rfl := List.eq_nil_of_length_eq_zero (Nat.le_zero.1 h); exact Nat.le_refl _
 | k + 1, [], p, _ => Nat.le_refl _
 | k + 1, c :: r, p, h => by
  simp only [List.length_cons] at h
  by_cases hb : blankB c = true
  ·rw [lexL_blank hb]
   have := lexL_wt k r (p + 1) (by omega)
   simp only [List.length_cons]; omega
  ·have hb' : blankB c = false := by simpa using hb
   cases ho : one1 (c :: r) with
   | bad off e => rw [lexL_bad hb' ho]; simp [wtR]
   | tok kd sz =>
    rw [lexL_tok hb' ho]; have hs := one1_size ho; have := lexL_wt k ((c :: r).drop sz) (p + sz) (by rw [List.length_drop, List.length_cons]; omega)
    rw [List.length_drop] at this; rw [wtR_cons]; simp only [txB, strL, List.length_take, List.length_cons] at this hs ⊢; omega
theorem rowsF_wt (size : Int) : ∀ (toks cur : List Tok) (fr o : Int), wtL ((rowsF size toks cur fr o).map (·.toks)) <= wtR cur + wtR toks /\ (rowsF size toks cur fr o).length <= toks.length + 1 /\ ∀ r ∈ rowsF size toks cur fr o, r.toks.length <= cur.length + toks.length
 | [], cur, fr, o => by
  rw [rowsF]; split
  ·refine ⟨by simp [wtL, endR], by simp, fun r hr => ?_⟩
   rw [List.mem_singleton.1 hr]; simp [endR]
  ·exact ⟨by simp [wtL], by simp, fun r hr => by cases hr⟩
 | t :: toks, cur, fr, o => by
  rw [rowsF, wtR_cons, List.length_cons]; split
  ·obtain ⟨h1, h2, h3⟩ := rowsF_wt size toks [] (t.pos + 1) (nxtO o cur)
   rw [List.map_cons, wtL_cons, List.length_cons]; have e : (endR o cur fr t.pos).toks = cur := rfl; rw [e]; refine ⟨by simp only [wtR, List.map_nil, List.sum_nil] at h1 ⊢; omega, by omega, fun r hr => ?_⟩
   rcases List.mem_cons.1 hr with rfl | hr
   ·rw [e]; omega
   ·have := h3 r hr; simp only [List.length_nil] at this; omega
  ·obtain ⟨h1, h2, h3⟩ := rowsF_wt size toks (cur ++ [t]) fr o
   rw [wtR_app, wtR_cons] at h1; refine ⟨by simp only [wtR, List.map_nil, List.sum_nil] at h1 ⊢; omega, by omega, fun r hr => ?_⟩
   have := h3 r hr; simp only [List.length_append, List.length_cons, List.length_nil] at this; omega
theorem rowsP_wt (l : Bs) : wtL ((rowsP l).map (·.toks)) <= 2 * l.length /\ (rowsP l).length <= l.length + 1 /\ ∀ r ∈ rowsP l, r.toks.length <= l.length := by
 unfold rowsP lexP; split
 ·have h := rowsF_wt l.length (lexL l 0).1 [] 0 0
  have h2 := lexL_wt l.length l 0 (Nat.le_refl _); have h3 := lexL_len l.length l 0 (Nat.le_refl _); refine ⟨?_, ?_, fun r hr => ?_⟩
  ·have := h.1
   simp only [wtR, List.map_nil, List.sum_nil] at this h2 ⊢; simp only [if_true] at this ⊢; omega
  ·have := h.2.1; simp only [if_true] at this ⊢; omega
  ·have := h.2.2 r (by simpa using hr)
   simp only [List.length_nil] at this; omega
 ·exact ⟨by simp [wtL], by simp, fun r hr => by cases hr⟩
theorem dropE_wt : ∀ l : List (List Tok), wtL (dropE l) = wtL l
 | [] => rfl
 | [] :: l => by rw [dropE, wtL_cons, dropE_wt l]; simp [wtR]
 | (t :: q) :: l => rfl
theorem jnR_wt (r : List Tok) (l : List (List Tok)) : wtR (jnR r l).1 + wtL (jnR r l).2 <= wtR r + wtL l := by
 unfold jnR; split
 ·cases hd : dropE l with
  | nil => exact Nat.le_refl _
  | cons x q =>
   have h := dropE_wt l; rw [hd, wtL_cons] at h; simp only; split
   ·simp only [wtR_app]; omega
   ·exact Nat.le_refl _
 ·exact Nat.le_refl _
theorem effM_wt : ∀ (n : Nat) (gap : Bool) (l : List (List Tok)), (∀ f ∈ effM n gap l, wtR f.toks <= wtL l) /\ (effM n gap l).length <= l.length
 | 0, _, l => ⟨fun f hf => (by cases hf), Nat.zero_le _⟩
 | n + 1, _, [] => ⟨fun f hf => (by cases hf), Nat.zero_le _⟩
 | n + 1, gap, [] :: l => by
  obtain ⟨h1, h2⟩ := effM_wt n true l; rw [effM]; exact ⟨fun f hf => by have := h1 f hf; rw [wtL_cons]; omega, by simp only [List.length_cons]; omega⟩
 | n + 1, gap, (t :: q) :: l => by
  obtain ⟨h1, h2⟩ := effM_wt n false (jnR (t :: q) l).2; have h3 := jnR_wt (t :: q) l; have h4 := jnR_len (t :: q) l; rw [effM, wtL_cons]; refine ⟨fun f hf => ?_, by simp only [List.length_cons]; omega⟩
  rcases List.mem_cons.1 hf with rfl | hf
  ·simp only; omega
  ·have := h1 f hf; omega
theorem mrgF_wt {M : Nat} : ∀ (l : List FRow) (d : Int) (pv : Option Bool), (∀ f ∈ l, wtR f.toks <= M) -> (∀ r ∈ mrgF l d pv, wtR r.toks <= M) /\ (mrgF l d pv).length <= 2 * l.length
 | [], _, _, _ => ⟨fun r hr => (by cases hr), Nat.le_refl _⟩
 | f :: l, d, pv, h => by
  obtain ⟨h1, h2⟩ := mrgF_wt l (nxtO d f.toks) (some (opR f.toks)) fun g hg => h g (by simp [hg])
  rw [mrgF, List.length_append, List.length_cons, List.length_cons]; refine ⟨fun r hr => ?_, ?_⟩
  ·rcases List.mem_append.1 hr with hr | hr
   ·split at hr
    ·rw [List.mem_singleton.1 hr]; simp [wtR]
    ·cases hr
   ·rcases List.mem_cons.1 hr with rfl | hr
    ·exact h f (by simp)
    ·exact h1 r hr
  ·split
   ·simp only [List.length_singleton]; omega
   ·simp only [List.length_nil]; omega
theorem tidyR_wt (l : List (List Tok)) : (∀ r ∈ tidyR l, wtR r.toks <= wtL l) /\ (tidyR l).length <= 2 * l.length := by
 unfold tidyR; have h := effM_wt l.length false l; have h2 := mrgF_wt (effM l.length false l) 0 none h.1; exact ⟨h2.1, by omega⟩
theorem partB_wt (row : List Tok) (ind : Nat) : ∀ k, k <= row.length -> (partB row ind 0 k).length <= ind + wtR (row.take k)
 | 0, _ => by rw [partB_nil]; exact Nat.zero_le _
 | k + 1, h => by
  have ih := partB_wt row ind k (by omega)
  have hk : k < row.length := h; rw [partB_go (Nat.zero_le _) hk, List.take_add_one, List.getElem?_eq_getElem hk, wtR_app, List.length_append, List.length_append]; have e : wtR (some row[k]).toList = 1 + (txB row[k]).length := by simp [wtR]
  rw [e]; unfold gapAt; split
  ·next h0 =>
   subst h0; rw [partB_nil]; simp only [spB, List.length_replicate, List.length_nil, List.take_zero]; omega
  ·have := gapN_le row k
   simp only [spB, List.length_replicate]; omega
theorem partB_full (row : List Tok) (ind : Nat) : (partB row ind 0 row.length).length <= ind + wtR row := by
 have := partB_wt row ind row.length (Nat.le_refl _)
 rwa [List.take_length] at this
theorem catQ_drop (l : List (Nat × Tok)) (k : Nat) : (catQ (l.drop k)).length <= (catQ l).length := by
 have := catQ_app (l.take k) (l.drop k); rw [List.take_append_drop] at this; rw [this, List.length_append]; omega
theorem partB_fr (row : List Tok) (ind fr en : Nat) : (partB row ind fr en).length <= (partB row ind 0 en).length := by
 unfold partB; rw [List.drop_zero]; exact catQ_drop _ _
theorem rows_dep {l : Bs} (h : (linesP l).2.2 = 0) : ∀ r ∈ tidyR ((rowsP l).map (·.toks)), 0 <= r.dep /\ r.dep <= 64 := by
 obtain ⟨h1, x, h2⟩ := lines_lex h; obtain ⟨d1, d2⟩ := runK_runD (rowsN l) [zeroI] [x] (by simp) (by simp) h2
 have h3 := mrg_dep (rowsN l).length false (rowsN l) 0 none d1 d2 (by omega)
 intro r hr
 have := h3 (gn0 r) (by
  rw [<- show tidyR (rowsN l) = mrgF (effM (rowsN l).length false (rowsN l)) (0 : Nat) none from rfl, <- tidyR_N h1]
  exact List.mem_map_of_mem hr)
 exact this
theorem rows_fit {l : Bs} (h : (linesP l).2.2 = 0) (hl : l.length <= 400000) : ∀ r ∈ tidyR ((rowsP l).map (·.toks)), FitW r := by
 intro r hr; have hd := rows_dep h r hr; have hw := (tidyR_wt ((rowsP l).map (·.toks))).1 r hr; have h2 := (rowsP_wt l).1; refine ⟨⟨hd.1, by omega⟩, by have := wtR_len r.toks; omega, ?_⟩
 have := partB_full r.toks r.ind; unfold TRow.ind at this ⊢; omega
theorem lineA_len {M W : Nat} {r : TRow} (h1 : r.ind + wtR r.toks <= M) (hW : W <= M) : (lineA W r).length <= 4 * M + 2 := by
 have hp := partB_full r.toks r.ind
 have hh : (headB r).length <= M := Nat.le_trans (partB_wt r.toks r.ind r.eq (eq_le r)) (by
  have := wtR_app (r.toks.take r.eq) (r.toks.drop r.eq); rw [List.take_append_drop] at this
  omega)
 have ht := partB_fr r.toks r.ind (r.eq + 1) r.toks.length
 have hx : (txB (r.toks[r.eq]?.getD ⟨0, ⟨#[]⟩, 0⟩)).length <= M := by
  cases hq : r.toks[r.eq]? with
  | none => exact Nat.zero_le _
  | some t => have := wtR_mem (List.mem_of_getElem? hq); simp only [Option.getD_some]; omega
 unfold lineA; simp only [List.length_append, spB, List.length_replicate, List.length_singleton]; omega
theorem rowB_len {M : Nat} {r : TRow} (h1 : r.ind + wtR r.toks <= M) : (rowB r).length <= 4 * M + 2 := by
 have hp := partB_full r.toks r.ind; unfold rowB; simp only [List.length_append, List.length_singleton]; omega
theorem widW_le {M : Nat} (run : List TRow) (h : ∀ r ∈ run, r.ind + wtR r.toks <= M) : widB run <= M := by
 unfold widB
 have hk : ∀ (l : List TRow) (a : Nat), a <= M -> (∀ r ∈ l, r.ind + wtR r.toks <= M) -> l.foldl (fun m r => max m (cntB (headB r))) a <= M := by
  intro l
  induction l with
  | nil => intro a ha _; exact ha
  | cons r l ih =>
   intro a ha hl; refine ih _ (Nat.max_le.2 ⟨ha, ?_⟩) fun q hq => hl q (by simp [hq])
   have h0 := hl r (by simp)
   have h1 := cntB_le (headB r); have hh := partB_wt r.toks r.ind r.eq (eq_le r); have := wtR_app (r.toks.take r.eq) (r.toks.drop r.eq); rw [List.take_append_drop] at this; unfold headB at h1 ⊢; omega
 exact hk run 0 (Nat.zero_le _) h
theorem alnB_len {M : Nat} (run : List TRow) (h : ∀ r ∈ run, r.ind + wtR r.toks <= M) : (alnB run).length <= run.length * (4 * M + 2) := by
 unfold alnB; have hW := widW_le run h; generalize widB run = W at *
 induction run with
 | nil => exact Nat.zero_le _
 | cons r run ih =>
  rw [List.flatMap_cons, List.length_append, List.length_cons, Nat.succ_mul]; have := lineA_len (h r (by simp)) hW
  have := ih fun q hq => h q (by simp [hq])
  omega
theorem runsF_len {M : Nat} : ∀ (l run : List TRow), (∀ r ∈ l, r.ind + wtR r.toks <= M) -> (∀ r ∈ run, r.ind + wtR r.toks <= M) -> (runsF l run).length <= (l.length + run.length) * (4 * M + 2)
 | [], run, _, h => by rw [runsF, List.length_nil, Nat.zero_add]; exact alnB_len run h
 | r :: l, run, h1, h2 => by
  have hr := h1 r (by simp)
  have hl : ∀ q ∈ l, q.ind + wtR q.toks <= M := fun q hq => h1 q (by simp [hq])
  rw [runsF]; split
  ·have := runsF_len l (run ++ [r]) hl (fun q hq => by
    rcases List.mem_append.1 hq with hq | hq
    ·exact h2 q hq
    ·rw [List.mem_singleton.1 hq]; exact hr)
   rw [List.length_append, List.length_singleton] at this; rw [List.length_cons, show l.length + 1 + run.length = l.length + (run.length + 1) by omega]
   exact this
  ·have e1 := alnB_len run h2
   have e2 := rowB_len hr; have e3 := runsF_len l [] hl (fun q hq => by cases hq)
   rw [List.length_nil, Nat.add_zero] at e3; rw [List.length_append, List.length_append, List.length_cons, Nat.add_mul, Nat.add_mul, Nat.one_mul]; omega
theorem tidyB_len {l : Bs} (h : (linesP l).2.2 = 0) : (tidyB ((rowsP l).map (·.toks))).length <= (2 * (l.length + 1)) * (4 * (128 + 2 * l.length) + 2) := by
 have h1 := rowsP_wt l; have h2 := tidyR_wt ((rowsP l).map (·.toks)); have h3 := rows_dep h
 have := runsF_len (M := 128 + 2 * l.length) (tidyR ((rowsP l).map (·.toks))) [] (fun r hr => by
  have a := h2.1 r hr; have b := h3 r hr; unfold TRow.ind
  omega) (fun q hq => by cases hq)
 rw [List.length_nil, Nat.add_zero] at this; unfold tidyB; refine Nat.le_trans this (Nat.mul_le_mul_right _ ?_); have := h2.2; rw [List.length_map] at this; omega
end Go.Proofs.YtbcdaaobbebooaaGreatDoor
namespace Go.Proofs.YtbcdaaobbebooaaGreatDoor
set_option maxRecDepth 100000
set_option maxHeartbeats 20000000
open Go.RowKit Go.Tab
theorem LexT.tabB {w : World} (h : LexT w) : TabB w.heap.size w := fun _ hW => (h.below hW).utf
theorem tidy_len {l : Bs} (h : (linesP l).2.2 = 0) (hl : l.length <= 4500) : (tidyB ((rowsP l).map (·.toks))).length <= 400000000 := by
 have := tidyB_len h; have h2 : (2 * (l.length + 1)) * (4 * (128 + 2 * l.length) + 2) <= (2 * (4500 + 1)) * (4 * (128 + 2 * 4500) + 2) := Nat.mul_le_mul (by omega) (by omega)
 omega
theorem tidy_any (s : ByteArray) (w : World) (hT : LexT w) (hs : s.size <= 4500) :
  Calls Tryz.prog 13 #[.string s] w fun e w' => e = .returned (.tuple #[.string (strL (tidyP s.data.toList).1), .int .i64 (tidyP s.data.toList).2.1, .int .i64 (tidyP s.data.toList).2.2]) /\ Below w.heap.size w w' := by
 have hl : s.data.toList.length = s.size := size_list2 s; have h1 := rowsP_wt s.data.toList; refine tdTidy_any s w hT hT.tabB (by omega) (by omega) (fun r hr => by have := h1.2.2 r hr; omega) (fun h => ⟨rows_fit h (by omega), tidy_len h (by omega), ?_⟩)
 have := (tidyR_wt ((rowsP s.data.toList).map (·.toks))).2; rw [List.length_map] at this; omega
abbrev ex16 : Bs := [97, 61, 49, 10, 98, 32, 32, 123, 10, 125, 10]
theorem tidy_ex16 : tidyP ex16 = ([97, 32, 61, 32, 49, 10, 98, 32, 123, 125, 10], -1, 0) := by kernel_rfl
theorem wakes16_any (w : World) (hT : LexT w) : Calls Tryz.prog 12 #[] w fun e w' => e = .returned (.bool true) /\ Below w.heap.size w w' := by
 have hA := tidy_any (strL ex16) w hT (by decide)
 rw [strL_list, tidy_ex16] at hA; have e1 : strL [97, 32, 61, 32, 49, 10, 98, 32, 123, 125, 10] = ⟨#[97, 32, 61, 32, 49, 10, 98, 32, 123, 125, 10]⟩ := rfl; have e2 : strL ex16 = ⟨#[97, 61, 49, 10, 98, 32, 32, 123, 10, 125, 10]⟩ := rfl; rw [e2] at hA; simp only [e1] at hA; clear e1 e2; go_enter Tryz.func12, Tryz.ntmps12; go_wp2_with fail; refine hA.mono ?_; clear hA; rintro _ w2 ⟨rfl, hb2⟩; have HB := Lib.hid hb2; clear hb2; go_wp2; go_ret; exact ⟨rfl, HB.out⟩
abbrev blS : ByteArray := ⟨#[32, 32, 9, 32, 13]⟩
theorem ext_list3 (s : ByteArray) (i j : Nat) : (s.extract i j).data.toList = (s.data.toList.take j).drop i := by
 simp [ByteArray.data_extract, Array.toList_extract, List.extract, List.drop_take]
theorem blk_ext (m : Nat) (h : m <= 5) : Blk (blS.extract 0 m).data.toList /\ (blS.extract 0 m).size = m := by
 constructor
 ·intro c hc
  rw [ext_list3, List.drop_zero] at hc; have hm : c ∈ ([32, 32, 9, 32, 13] : Bs) := List.mem_of_mem_take hc; clear hc; simp only [List.mem_cons, List.not_mem_nil, or_false] at hm; rcases hm with rfl | rfl | rfl | rfl | rfl <;> decide
 ·rw [ByteArray.size_extract]
  show min m 5 - 0 = m; omega
theorem setB_step (bl : Bs) (s : ByteArray) (k : Nat) (h : k < s.size) (S : ByteArray) (hS : S.data.toList = bl ++ setB bl (s.data.toList.take k)) :
  (s[k] ≠ 10 -> (S ++ s.extract k (k + 1)).data.toList = bl ++ setB bl (s.data.toList.take (k + 1))) /\ (s[k] = 10 -> ∀ b : ByteArray, b.data.toList = bl -> (S ++ s.extract k (k + 1) ++ b).data.toList = bl ++ setB bl (s.data.toList.take (k + 1))) := by
 have hl : s.data.toList.length = s.size := size_list2 s
 have e : s.data.toList.take (k + 1) = s.data.toList.take k ++ [s[k]] := by
  rw [List.take_succ_eq_append_getElem (by omega)]
  rfl
 have e2 : (s.extract k (k + 1)).data.toList = [s[k]] := by
  rw [ext_list3, e, List.drop_left' (by rw [List.length_take]; omega)]
 rw [e, setB_app]; constructor
 ·intro h10
  rw [app_list, hS, e2, List.append_assoc]
  congr 2
  unfold setB; rw [List.flatMap_singleton, if_neg h10]
 ·intro h10 b hb
  rw [app_list, app_list, hS, e2, hb, List.append_assoc, List.append_assoc]
  congr 2
  unfold setB; rw [List.flatMap_singleton, if_pos h10, h10]; rfl
theorem blank_all {s : ByteArray} {b S : ByteArray} (hb : Blk b.data.toList) (hS : S.data.toList = b.data.toList ++ setB b.data.toList s.data.toList) (h : (linesP s.data.toList).2.2 = 0) :
  tidyP (S ++ ⟨#[10, 10]⟩ ++ b).data.toList = tidyP s.data.toList := by
 have := (tidy_blanks hb h).2; rw [<- this, app_list, app_list, hS]
 congr 1
 simp
theorem tidyP_err (l : Bs) : (tidyP l).2.2 = (linesP l).2.2 := by
 unfold tidyP; split
 ·next h => rw [h]
 ·rfl
theorem TidyBlanks_walk (a0 : ByteArray) (a1 : Int) (w : World) (w0 : a0.size <= maxLen) (w1 : (Lit.int .u8 a1).wf = true) (hT : LexT w) :
  Calls Tryz.prog 5 #[.string a0, .int .u8 a1] w fun e w' => e = .returned (.bool true) /\ Below w.heap.size w w' := by
 have hW := wakes16_any w hT; unfold maxLen at w0
 have r1 : 0 <= a1 /\ a1 < 256 := by
  rw [Lit.wf, Bool.and_eq_true, decide_eq_true_eq, decide_eq_true_eq] at w1; have e1 : IntKind.u8.min = 0 := rfl; have e2 : IntKind.u8.max = 255 := rfl; omega
 obtain ⟨q, rfl⟩ : ∃ q : Nat, a1 = q := ⟨a1.toNat, by omega⟩
 clear w1; go_enter Tryz.func5, Tryz.ntmps5; go_wp2_with fail; refine hW.mono ?_; clear hW; rintro _ v1 ⟨rfl, hb1⟩; have hT1 := hT.below hb1; have HB1 := Lib.hid hb1; clear hb1 hT
 by_cases h0 : 700 < a0.size
 ·go_wp2
  go_ret; exact ⟨rfl, HB1.out⟩
 have HT1 := Lib.hid hT1; have hA := tidy_any a0 v1 hT1 (by omega)
 have HE := Lib.hid (tidyP_err a0.data.toList); obtain ⟨X, hX⟩ : ∃ x, x = tidyP a0.data.toList := ⟨_, rfl⟩; rw [<- hX] at hA HE; have HX := Lib.hid hX; clear hX hT1; obtain ⟨X1, X2, X3⟩ := X; simp only at hA HE; go_wp2_with fail; refine hA.mono ?_; clear hA; rintro _ v2 ⟨rfl, hb2⟩; have HT2 := Lib.hid (HT1.out.below hb2); have HB2 := Lib.hid (HB1.out.trans (hb2.mono HB1.out.size)); clear hb2
 by_cases he : X3 = 0
 ·subst he
  have hmod : Int.tmod (q : Int) 6 = ((q % 6 : Nat) : Int) := by rw [Int.tmod_eq_emod_of_nonneg (by omega)]; simp
  have hm : q % 6 <= 5 := by omega
  generalize q % 6 = m at *; obtain ⟨hbk, hbz⟩ := blk_ext m hm; obtain ⟨b, hb⟩ : ∃ b, blS.extract 0 m = b := ⟨_, rfl⟩; rw [hb] at hbk hbz; have HBK := Lib.hid hbk; have hbz5 : b.size <= 5 := by omega
  clear hbk hbz; have hm2 : (0 : Int) <= (m : Int) /\ (m : Int) <= 5 := by omega
  have hb : (⟨#[32, 32, 9, 32, 13]⟩ : ByteArray).extract 0 m = b := hb; go_wp2_with fail; go_loopw [9, 10, 34] (fun x _ i wr => ∃ (k : Nat) (S : ByteArray), k <= a0.size /\ i = .int .i64 (k : Int) /\ x = .string S /\ Hid (S.data.toList = b.data.toList ++ setB b.data.toList (a0.data.toList.take k)) /\ S.size <= 5 + 6 * k /\ wr = v2) (fun _ _ i _ => a0.size - (intOf i).toNat)
  case atStart => exact ⟨0, b, Nat.zero_le _, rfl, rfl, Lib.hid (by simp [setB]), by omega, rfl⟩
  case round =>
   obtain ⟨k, S, hk, rfl, rfl, HS, hSz, rfl⟩ := hrel
   by_cases hkl : k < a0.size
   ·have hst := Lib.hid (setB_step b.data.toList a0 k hkl S HS.out)
    clear HS; have hz1 : (a0.extract k (k + 1)).size = 1 := by rw [ByteArray.size_extract]; omega
    obtain ⟨c, hc⟩ : ∃ c : Nat, (a0[k]'hkl).toNat = c := ⟨_, rfl⟩; have hc256 : c < 256 := by rw [<- hc]; exact UInt8.toNat_lt _
    obtain ⟨o, ho⟩ : ∃ o, a0.extract k (k + 1) = o := ⟨_, rfl⟩; rw [ho] at hz1 hst
    by_cases h10 : c = 10
    ·have HS2 := Lib.hid (hst.out.2 (UInt8.toNat_inj.1 (by rw [hc, h10]; rfl)) b rfl)
     subst h10; clear hst; go_wp2; go_roundw
     case rel => exact ⟨k + 1, S ++ o ++ b, hkl, by go_num, rfl, HS2, by rw [ByteArray.size_append, ByteArray.size_append]; omega, by first | trivial | rfl⟩
     case measure => simp [intOf]; omega
    ·have HS2 := Lib.hid (hst.out.1 (fun e => h10 (by rw [<- hc, e]; rfl)))
     have e10 : ((c : Int) == 10) = false := by simp; omega
     clear hst; go_wp2; go_roundw
     case rel => exact ⟨k + 1, S ++ o, hkl, by go_num, rfl, HS2, by rw [ByteArray.size_append]; omega, by first | trivial | rfl⟩
     case measure => simp [intOf]; omega
   ·obtain rfl : k = a0.size := by omega
    have hfull : S.data.toList = b.data.toList ++ setB b.data.toList a0.data.toList := by
     have := HS.out
     rwa [List.take_of_length_le (Nat.le_of_eq (size_list2 a0))] at this
    have hres := blank_all HBK.out hfull HE.out.symm; rw [<- HX.out] at hres; have hB := tidy_any (S ++ ⟨#[10, 10]⟩ ++ b) wr HT2.out (by rw [ByteArray.size_append, ByteArray.size_append]; show _ + 2 + _ <= _; omega)
    rw [hres] at hB; clear hres hfull HS hm; go_wp2_with fail; refine hB.mono ?_; clear hB; rintro _ v3 ⟨rfl, hb3⟩; have HB3 := Lib.hid (HB2.out.trans (hb3.mono HB2.out.size)); clear hb3; go_wp2; go_ret; exact ⟨rfl, HB3.out⟩
 ·have e0 : (X3 != 0) = true := by simpa using he
  clear he; go_wp2; go_ret; exact ⟨rfl, HB2.out⟩
end Go.Proofs.YtbcdaaobbebooaaGreatDoor
namespace Go.Tab
set_option maxRecDepth 100000
set_option maxHeartbeats 20000000
open Go.Lib
def LaidAt (P : Program) (W : World) (n : String) (d : DataW Unit) : Prop :=
 ∃ g t cs fuel p, P.globalNamed n = some g /\ (P.globals[g]?).map (·.type) = some t /\ W.var? P n = some cs /\ DataW.trod (fun _ => ()) P W 0 (fun _ => true) false fuel t cs.toList = some (d, p)
theorem laid_vars {P : Program} {W : World} : ∀ {L : List (String × DataW Unit)} {ps : List MemPlace}, DataW.LaidVars P W L ps -> ∀ n d, (n, d) ∈ L -> LaidAt P W n d
 | [], _, _, _, _, h => by cases h
 | (n', d') :: L, _, h0, n, d, h => by
  obtain ⟨g, t, cs, fuel, p, q, h1, h2, h3, h4, h5, _⟩ := h0; rcases List.mem_cons.1 h with h | h
  ·cases h; exact ⟨g, t, cs, fuel, p, h1, h2, h3, h4⟩
  ·exact laid_vars h5 n d h
theorem laid_of_met {P : Program} {W : World} {L : List (String × DataW Unit)} (h : laidMet P L W) {n : String} {d : DataW Unit} (hm : (n, d) ∈ L) : LaidAt P W n d := by
 obtain ⟨ps, h1, _⟩ := h; exact laid_vars h1 n d hm
theorem LaidAt.tab {P : Program} {W : World} {name : String} {k : IntKind} {zs : List Int} {g : Nat} {t e : TypeId} {n : Nat}
  (hg : P.globalNamed name = some g) (hty : (P.globals[g]?).map (·.type) = some t) (ht : P.underlying t = some (.array n e)) (he : P.underlying e = some (.int k)) (hce : P.cellsOf e = 1) (hct : P.cellsOf t = n)
  (h : LaidAt P W name (tabData k zs)) : TabIs P W name k zs := by
 obtain ⟨g', t', cs, fuel, p, hg', ht', hvar, hd⟩ := h; obtain rfl := Option.some.inj (hg.symm.trans hg'); obtain rfl := Option.some.inj (hty.symm.trans ht'); unfold TabIs; rw [hvar, <- cells_of_tab ht he hce hct hd]
theorem cells_of_tabs {H : Type} {enc : TypeId × Value -> H} {P : Program} {w : World} {base : Nat} {sp : Nat -> Bool} {held : Bool} {fuel : Nat} {t e i : TypeId} {n m : Nat} {k : IntKind} {cs : List Value} {zss : List (List Int)} {p : List MemPlace}
  (ht : P.underlying t = some (.array n e)) (he : P.underlying e = some (.array m i)) (hi : P.underlying i = some (.int k)) (hci : P.cellsOf i = 1) (hce : P.cellsOf e = m) (hct : P.cellsOf t = n * m)
  (h : DataW.trod enc P w base sp held fuel t cs = some (.agg (zss.map fun zs => tabData k zs), p)) : ∀ a (ha : a < zss.length), ((cs.drop (a * m)).take m) = zss[a].map fun z => Value.int k z := by
 cases fuel with
 | zero => simp [DataW.trod] at h
 | succ fuel =>
  simp only [DataW.trod, ht, hce] at h; split at h
  ·rename_i hl
   obtain ⟨xs, hm, hx⟩ := Option.map_eq_some_iff.1 h
   have hxs : xs.map (·.1) = zss.map fun zs => (tabData k zs : DataW H) := by
    have := congrArg Prod.fst hx
    simpa using this
   have hxl : xs.length = n := by simpa using mapM_length hm
   have hzl : zss.length = n := by
    have := congrArg List.length hxs; simp at this
    omega
   intro a ha; obtain ⟨b, hb, hf⟩ := mapM_at hm a a (by simp [hzl ▸ ha])
   have h2 : (xs.map (·.1))[a]? = some b.1 := by simp [hb]
   rw [hxs] at h2; simp only [List.getElem?_map] at h2; rw [List.getElem?_eq_getElem ha] at h2; have h3 : b.1 = tabData k zss[a] := (Option.some.inj h2).symm; have h4 : DataW.trod enc P w base sp held fuel e ((cs.drop (a * m)).take m) = some (tabData k zss[a], b.2) := by rw [hf, <- h3]
   exact cells_of_tab he hi hci hce h4
  ·cases h
theorem LaidAt.tabs {P : Program} {W : World} {name : String} {k : IntKind} {zss : List (List Int)} {g : Nat} {t e i : TypeId} {n m : Nat}
  (hg : P.globalNamed name = some g) (hty : (P.globals[g]?).map (·.type) = some t) (ht : P.underlying t = some (.array n e)) (he : P.underlying e = some (.array m i)) (hi : P.underlying i = some (.int k)) (hci : P.cellsOf i = 1) (hce : P.cellsOf e = m) (hct : P.cellsOf t = n * m)
  (h : LaidAt P W name (.agg (zss.map fun zs => tabData k zs))) (a b : Nat) (ha : a < zss.length) (hb : b < zss[a].length) (hbm : b < m) : W.cell? ⟨g, a * m + b, none⟩ = some (.int k zss[a][b]) := by
 obtain ⟨g', t', cs, fuel, p, hg', ht', hvar, hd⟩ := h; obtain rfl := Option.some.inj (hg.symm.trans hg'); obtain rfl := Option.some.inj (hty.symm.trans ht'); have h1 := cells_of_tabs ht he hi hci hce hct hd a ha
 have h2 : cs[a * m + b]? = some (.int k zss[a][b]) := by
  have := congrArg (·[b]?) h1; simp only [List.getElem?_take, List.getElem?_drop, List.getElem?_map] at this; rw [if_pos hbm, List.getElem?_eq_getElem hb] at this
  simpa using this
 have h3 := World.var?_cell hg hvar (a * m + b); rw [h3, h2]
end Go.Tab
namespace Go.Tab
set_option maxRecDepth 100000
set_option maxHeartbeats 20000000
theorem met_of {P : Program} {L : List (String × DataW Unit)} {W : World} (h : laidMetH P L W) (hf : (L.filter fun x => x.2.handleName?.isSome) = []) : laidMet P L W := by
 unfold laidMetH at h; rw [hf] at h; exact h
end Go.Tab
namespace Go.Tab
set_option maxRecDepth 100000
set_option maxHeartbeats 20000000
open Go.Lib
theorem cells_of_strs {H : Type} {enc : TypeId × Value -> H} {P : Program} {w : World} {base : Nat} {sp : Nat -> Bool} {held : Bool} {fuel : Nat} {t e : TypeId} {n : Nat} {cs : List Value} {zs : List (List UInt8)} {p : List MemPlace}
  (ht : P.underlying t = some (.array n e)) (he : P.underlying e = some .string) (hce : P.cellsOf e = 1) (hct : P.cellsOf t = n)
  (h : DataW.trod enc P w base sp held fuel t cs = some (.agg (zs.map fun z => (.lit (.string z) : DataW H)), p)) : ∀ i (hi : i < zs.length), cs[i]? = some (Value.string ⟨zs[i].toArray⟩) := by
 cases fuel with
 | zero => simp [DataW.trod] at h
 | succ fuel =>
  simp only [DataW.trod, ht, hce, hct, Nat.mul_one] at h; split at h
  ·rename_i hl
   obtain ⟨xs, hm, hx⟩ := Option.map_eq_some_iff.1 h
   have hxs : xs.map (·.1) = zs.map fun z => (DataW.lit (.string z) : DataW H) := by
    have := congrArg Prod.fst hx
    simpa using this
   have hxl : xs.length = n := by simpa using mapM_length hm
   have hzl : zs.length = n := by
    have := congrArg List.length hxs; simp at this
    omega
   intro i hi; obtain ⟨b, hb, hf⟩ := mapM_at hm i i (by simp [hzl ▸ hi])
   obtain ⟨s, hc, rfl, _⟩ := DataW.trod_string he hf
   have h1 : cs[i]? = some (.string s) := by
    have := congrArg (·[0]?) hc
    simpa [List.getElem?_take, List.getElem?_drop] using this
   have h2 : (xs.map (·.1))[i]? = some (DataW.lit (.string s.data.toList) : DataW H) := by simp [hb]
   rw [hxs] at h2; simp only [List.getElem?_map, List.getElem?_eq_getElem hi, Option.map_some, Option.some.injEq, DataW.lit.injEq, Lit.string.injEq] at h2; rw [h1, h2]
  ·cases h
theorem LaidAt.strs {P : Program} {W : World} {name : String} {zs : List (List UInt8)} {g : Nat} {t e : TypeId} {n : Nat}
  (hg : P.globalNamed name = some g) (hty : (P.globals[g]?).map (·.type) = some t) (ht : P.underlying t = some (.array n e)) (he : P.underlying e = some .string) (hce : P.cellsOf e = 1) (hct : P.cellsOf t = n)
  (h : LaidAt P W name (.agg (zs.map fun z => .lit (.string z)))) (i : Nat) (hi : i < zs.length) : W.cell? ⟨g, i, none⟩ = some (.string ⟨zs[i].toArray⟩) := by
 obtain ⟨g', t', cs, fuel, p, hg', ht', hvar, hd⟩ := h; obtain rfl := Option.some.inj (hg.symm.trans hg'); obtain rfl := Option.some.inj (hty.symm.trans ht'); have h2 := cells_of_strs ht he hce hct hd i hi; have h3 := World.var?_cell hg hvar i; rw [h3]
 simpa using h2
def flatS : Nat -> DataW Unit -> List Value
 | 0, _ => []
 | _ + 1, .lit (.int k z) => [.int k z]
 | _ + 1, .lit (.string s) => [.string ⟨s.toArray⟩]
 | n + 1, .agg xs => xs.flatMap (flatS n)
 | _, _ => []
def layVarS (P : Program) (h : Array Obj) (nd : String × DataW Unit) : Array Obj :=
 match P.globalNamed nd.1, flatS 4 nd.2 with
 | some g, v :: vs => h.modify g fun o => match o with
  | .cells _ t f => .cells (v :: vs).toArray t f
  | o => o
 | _, _ => h
def layAllS (P : Program) (L : List (String × DataW Unit)) (h : Array Obj) : Array Obj := L.foldl (layVarS P) h
end Go.Tab
namespace Go.Proofs.YtbcdaaobbebooaaGreatDoor
set_option maxRecDepth 100000
set_option maxHeartbeats 20000000
open Go.RowKit Go.Tab
def stepsZ : List (List Int) := [[1, 9, 2, 3, 9, 9, 9], [9, 9, 2, 3, 9, 9, 9], [9, 9, 9, 9, 4, 6, 9], [9, 9, 3, 3, 4, 6, 9], [9, 9, 5, 5, 9, 9, 9], [9, 9, 5, 5, 9, 6, 9], [7, 7, 8, 8, 9, 9, 9], [9, 9, 8, 8, 9, 9, 9], [9, 9, 8, 8, 9, 9, 9]]
theorem steps_are : ∀ j : Fin 63, ((stepsZ.getD (j.val / 7) []).getD (j.val % 7) 0) = ((stepsN.getD j.val 9 : Nat) : Int) := by decide +kernel
theorem gSteps : Tryz.prog.globalNamed "tabularium/num.steps" = some 3 := by kernel_rfl
theorem tSteps : (Tryz.prog.globals[3]?).map (·.type) = some 203 := by kernel_rfl
theorem c1 : Tryz.prog.cellsOf 3 = 1 := by kernel_rfl
theorem c7 : Tryz.prog.cellsOf 202 = 7 := by kernel_rfl
theorem c63 : Tryz.prog.cellsOf 203 = 9 * 7 := by kernel_rfl
theorem dSteps : (Rows.laid_tabularium_num_steps : DataW Unit) = .agg (stepsZ.map fun zs => Lib.tabData .i64 zs) := by kernel_rfl
theorem rows7 : ∀ a : Fin 9, (stepsZ.getD a.val []).length = 7 := by decide +kernel
theorem gTab : Tryz.prog.globalNamed "tabularium/utf.sizes" = some 1 := by kernel_rfl
theorem gTabType : (Tryz.prog.globals[1]?).map (·.type) = some 192 := by kernel_rfl
theorem cellsTab : Tryz.prog.cellsOf 192 = 32 := by kernel_rfl
def sizesZ : List Int := [1, 1, 1, 1, 1, 1, 1, 1, 1, 1, 1, 1, 1, 1, 1, 1, 0, 0, 0, 0, 0, 0, 0, 0, 2, 2, 2, 2, 3, 3, 4, 0]
theorem sizes_are : ∀ j : Fin 32, sizesZ.getD j.val 0 = ((sizeOf8 (8 * j.val) : Nat) : Int) := by decide +kernel
theorem dSizes : (Rows.laid_tabularium_utf_sizes : DataW Unit) = Lib.tabData .i64 sizesZ := by kernel_rfl
theorem gDbl : Tryz.prog.globalNamed "tabularium/lex.doubles" = some 0 := by kernel_rfl
theorem tDbl : (Tryz.prog.globals[0]?).map (·.type) = some 186 := by kernel_rfl
theorem cStr1 : Tryz.prog.cellsOf 9 = 1 := by kernel_rfl
theorem c6 : Tryz.prog.cellsOf 186 = 6 := by kernel_rfl
theorem dDbl : (Rows.laid_tabularium_lex_doubles : DataW Unit) = .agg (dbls.map fun z => .lit (.string z)) := by kernel_rfl
theorem dbl6 : dbls.length = 6 := by decide +kernel
theorem lexT_of {L : List (String × DataW Unit)} {W : World} (hL : laidMetH Tryz.prog L W) (hf : (L.filter fun x => x.2.handleName?.isSome) = []) (hsh : W.ShapedOpen Tryz.prog)
  (h1 : ("tabularium/utf.sizes", Rows.laid_tabularium_utf_sizes) ∈ L) (h2 : ("tabularium/num.steps", Rows.laid_tabularium_num_steps) ∈ L) (h3 : ("tabularium/lex.doubles", Rows.laid_tabularium_lex_doubles) ∈ L) : LexT W := by
 have met := met_of hL hf; have l1 := laid_of_met met h1; have l2 := laid_of_met met h2; have l3 := laid_of_met met h3; rw [dSizes] at l1; rw [dSteps] at l2; rw [dDbl] at l3; refine ⟨fun j hj => ?_, fun j hj => ?_, fun j hj => ?_, ?_⟩
 ·have t := l1.tab gTab gTabType Tryz.underlying192 Tryz.underlying3 c1 cellsTab
  have hc := t.cell gTab j (by simpa [sizesZ] using hj)
  rw [hc, show sizesZ.getD j 0 = _ from sizes_are ⟨j, hj⟩]
 ·have ha : j / 7 < stepsZ.length := by show j / 7 < 9; omega
  have hg : stepsZ.getD (j / 7) [] = stepsZ[j / 7] := by rw [List.getD_eq_getElem?_getD, List.getElem?_eq_getElem ha]; rfl
  have hr := rows7 ⟨j / 7, ha⟩; simp only [hg] at hr; have hb : j % 7 < (stepsZ[j / 7]).length := by rw [hr]; omega
  have h3 := l2.tabs gSteps tSteps Tryz.underlying203 Tryz.underlying202 Tryz.underlying3 c1 c7 c63 (j / 7) (j % 7) ha hb (by omega)
  rw [show j / 7 * 7 + j % 7 = j by omega] at h3
  rw [h3]; have h4 := steps_are ⟨j, hj⟩; simp only [hg] at h4; rw [List.getD_eq_getElem?_getD, List.getElem?_eq_getElem hb] at h4; rw [<- h4]; rfl
 ·have h := l3.strs gDbl tDbl Tryz.underlying186 Tryz.underlying9 cStr1 c6 j (by rw [dbl6]; exact hj)
  rw [h, List.getD_eq_getElem?_getD, List.getElem?_eq_getElem (by rw [dbl6]; exact hj)]
  rfl
 ·exact cell_of_shapedOpen_int (t := 3) (zero := #[.int .i64 0]) hsh (by decide +kernel) (by kernel_rfl) rfl (by kernel_rfl) (by kernel_rfl) Tryz.underlying3
theorem tab_of_TidyBlanks {W : World} (hL : laidMetH Tryz.prog Rows.tidyBlanksRow.laid W) (hsh : W.ShapedOpen Tryz.prog) : LexT W := lexT_of hL (by kernel_rfl) hsh (.tail _ (.head _)) (.tail _ (.tail _ (.head _))) (.tail _ (.tail _ (.tail _ (.head _))))
end Go.Proofs.YtbcdaaobbebooaaGreatDoor
