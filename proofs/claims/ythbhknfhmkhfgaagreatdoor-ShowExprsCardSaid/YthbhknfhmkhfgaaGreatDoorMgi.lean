/- Texts of this claim, one behind the other: ShQ, ShM, ShR, LxK, BoP, BoQ, LxM, BoV. -/
import Derived.Test.YthbhknfhmkhfgaaGreatDoorMgb
import Derived.Test.YthbhknfhmkhfgaaGreatDoorMgf
import Derived.Test.YthbhknfhmkhfgaaGreatDoorMgg
import Derived.Test.YthbhknfhmkhfgaaGreatDoorMgh
set_option linter.unusedSimpArgs false
set_option linter.unusedVariables false
namespace Go.Proofs.YthbhknfhmkhfgaaGreatDoor
set_option maxRecDepth 100000
set_option maxHeartbeats 20000000
def StP (r : List Tok) : Prop := isS r sDot = false /\ isS r sLb = false /\ isS r sLp = false
def Stp (k : Nat) (r : List Tok) : Prop := StP r /\ ∀ lv, k <= lv -> lv <= 6 -> isL r lv = none
def StpC (r : List Tok) : Prop := Stp 1 r /\ isS r sQ = false
theorem Stp.up {k j : Nat} {r : List Tok} (h : Stp k r) (hj : k <= j) : Stp j r := ⟨h.1, fun lv h1 h2 => h.2 lv (by omega) h2⟩
def TermP (P : List Tok) (e : Exp) (lv : Nat) : Prop := ∀ d rest x m, Stp (lv + 1) rest -> Tells (.tloop lv e) rest d x m -> Tells (.term lv) (P ++ rest) d x (P.length + m)
def TightP (P : List Tok) (e : Exp) : Prop := ∀ d rest, StP rest -> Tells .tight (P ++ rest) d e P.length
def PostP (P : List Tok) (e : Exp) : Prop := ∀ d rest x m, isS rest sLp = false -> Tells (.ploop e) rest d x m -> Tells .post (P ++ rest) d x (P.length + m)
def ChoiceP (P : List Tok) (e : Exp) : Prop := ∀ d rest, StpC rest -> Tells .choice (P ++ rest) d e P.length
def Hd8 (P : List Tok) : Prop := ∃ t r, P = t :: r /\ (t.kind = 1 \/ t.kind = 2 \/ t.kind = 3 \/ t = tS sLp \/ t = tS sLb)
def Hd (P : List Tok) : Prop := ∃ t r, P = t :: r /\ (t.kind = 1 \/ t.kind = 2 \/ t.kind = 3 \/ t = tS sLp \/ t = tS sLb \/ t = tS sBang \/ t = tS sMinus)
theorem Hd8.hd {P : List Tok} (h : Hd8 P) : Hd P := by
 obtain ⟨t, r, e, h⟩ := h; refine ⟨t, r, e, ?_⟩; rcases h with h | h | h | h | h
 ·exact .inl h
 ·exact .inr (.inl h)
 ·exact .inr (.inr (.inl h))
 ·exact .inr (.inr (.inr (.inl h)))
 ·exact .inr (.inr (.inr (.inr (.inl h))))
theorem Hd8.app {P Q : List Tok} (h : Hd8 P) : Hd8 (P ++ Q) := by
 obtain ⟨t, r, rfl, h⟩ := h; exact ⟨t, r ++ Q, rfl, h⟩
theorem Hd.app {P Q : List Tok} (h : Hd P) : Hd (P ++ Q) := by
 obtain ⟨t, r, rfl, h⟩ := h; exact ⟨t, r ++ Q, rfl, h⟩
theorem isS_kind {t : Tok} {r : List Tok} {w : ByteArray} (h : t.kind ≠ 4) : isS (t :: r) w = false := by
 simp only [isS, decide_eq_false h, Bool.false_and]
theorem Hd8.no {P rest : List Tok} (h : Hd8 P) : isS (P ++ rest) sBang = false /\ isS (P ++ rest) sMinus = false := by
 obtain ⟨t, r, rfl, h⟩ := h; rw [List.cons_append]; rcases h with h | h | h | h | h
 ·exact ⟨isS_kind (by omega), isS_kind (by omega)⟩
 ·exact ⟨isS_kind (by omega), isS_kind (by omega)⟩
 ·exact ⟨isS_kind (by omega), isS_kind (by omega)⟩
 ·subst h; exact ⟨by rw [isS_tS]; decide, by rw [isS_tS]; decide⟩
 ·subst h; exact ⟨by rw [isS_tS]; decide, by rw [isS_tS]; decide⟩
theorem Hd.shut {P rest : List Tok} (h : Hd P) {s : ByteArray} (hs : s = sRp \/ s = sRb) : isS (P ++ rest) s = false := by
 obtain ⟨t, r, rfl, h⟩ := h; rw [List.cons_append]; rcases h with h | h | h | h | h | h | h
 ·exact isS_kind (by omega)
 ·exact isS_kind (by omega)
 ·exact isS_kind (by omega)
 all_goals
  subst h; rcases hs with rfl | rfl
  ·rfl
  ·rfl
theorem drop_len {P r : List Tok} : (P ++ r).drop P.length = r := List.drop_left ..
theorem drop_len1 {P r : List Tok} {t : Tok} : (P ++ t :: r).drop (P.length + 1) = r := by
 rw [<- List.drop_drop, drop_len]; rfl
theorem Tells.tail0 {P rest : List Tok} {lv d : Nat} {e : Exp} (hT : TermP P e lv) (hs : Stp lv rest) (h6 : lv <= 6) : Tells (.term lv) (P ++ rest) d e P.length :=
 hT d rest e 0 (hs.up (by omega)) (T_tend (hs.2 lv (Nat.le_refl _) h6))
theorem TermP.down {P : List Tok} {e : Exp} {lv : Nat} (h : TermP P e (lv + 1)) (h6 : lv + 1 <= 6) : TermP P e lv := fun d rest x m hs ht =>
 T_term (by omega) (Tells.tail0 h hs h6) (by rw [drop_len]; exact ht)
theorem TightP.term {P : List Tok} {e : Exp} (h : TightP P e) : TermP P e 6 := fun d rest x m hs ht =>
 T_term (by omega) (T_term7 (by omega) (h d rest hs.1)) (by rw [drop_len]; exact ht)
theorem TermP.below {P : List Tok} {e : Exp} {L : Nat} (h : TermP P e L) (h6 : L <= 6) : ∀ j lv, lv + j = L -> TermP P e lv
  | 0, lv, hj => by obtain rfl : lv = L := by omega
                    exact h
  | j + 1, lv, hj => by
    have := TermP.below h h6 j (lv + 1) (by omega)
    exact this.down (by omega)
theorem PostP.tight {P : List Tok} {e : Exp} (h : PostP P e) (hh : Hd8 P) : TightP P e := fun d rest hs =>
 T_tight0 hh.no.1 hh.no.2 (h d rest e 0 hs.2.2 (T_pend hs.1 hs.2.1))
theorem TermP.choice {P : List Tok} {e : Exp} (h : TermP P e 1) : ChoiceP P e := fun d rest hs =>
 T_choice1 (Tells.tail0 h hs.1 (by omega)) (by rw [drop_len]; exact hs.2)
theorem stpC_sign {r : List Tok} {w : ByteArray} (h : w = sRp \/ w = sRb \/ w = sComma \/ w = sCo) : StpC (tS w :: r) := by
 have hl : ∀ lv : Nat, 1 <= lv -> isL (tS w :: r) lv = none := fun lv h1 => by
  simp only [isL]; rw [if_neg]; rintro ⟨-, h2⟩; have h3 : lvN w = -1 := by rcases h with rfl | rfl | rfl | rfl <;> kernel_rfl
  rw [show (tS w).text = w from rfl, h3] at h2; omega
 refine ⟨⟨⟨?_, ?_, ?_⟩, fun lv h1 _ => hl lv h1⟩, ?_⟩
 all_goals
  rcases h with rfl | rfl | rfl | rfl <;> rfl
def Par (P : List Tok) : List Tok := tS sLp :: (P ++ [tS sRp])
theorem ChoiceP.post {P : List Tok} {e : Exp} (h : ChoiceP P e) : PostP (Par P) e := fun d rest x m hs ht => by
 have e1 : Par P ++ rest = tS sLp :: (P ++ tS sRp :: rest) := by simp [Par]
 have e2 : (Par P).length = 1 + P.length + 1 := by simp [Par]; omega
 rw [e1, e2]; refine T_post (T_paren (h (d + 1) (tS sRp :: rest) (stpC_sign (.inl rfl))) (by rw [drop_len, isS_tS]; decide)) ?_
 rw [show 1 + P.length + 1 = (P.length + 1) + 1 by omega, List.drop_succ_cons, drop_len1]
 exact ht
theorem Par.hd8 (P : List Tok) : Hd8 (Par P) := ⟨_, _, rfl, .inr (.inr (.inr (.inl rfl)))⟩
structure RT (e : Exp) : Prop where
 choice : ChoiceP (prX e) e
 term : ∀ lv : Nat, 1 <= lv -> lv <= 6 -> TermP (lst (lv : Int) e) e lv
 tight : TightP (lst 7 e) e
 post : PostP (lst 8 e) e
 hd : Hd (prX e)
 hd8 : Hd8 (lst 8 e)
theorem lst_le {n : Int} {e : Exp} (h : n <= lvN e.op) : lst n e = prX e := if_pos h
theorem lst_gt {n : Int} {e : Exp} (h : ¬ n <= lvN e.op) : lst n e = Par (prX e) := if_neg h
theorem ChoiceP.all {P : List Tok} {e : Exp} (h : ChoiceP P e) : PostP (Par P) e /\ TightP (Par P) e /\ ∀ lv, lv <= 6 -> TermP (Par P) e lv := by
 have h1 := h.post; have h2 := h1.tight (Par.hd8 _); exact ⟨h1, h2, fun lv hl => h2.term.below (Nat.le_refl _) (6 - lv) lv (by omega)⟩
theorem RT.of8 {e : Exp} (hL : lvN e.op = 8) (h : PostP (prX e) e) (hh : Hd8 (prX e)) : RT e := by
 have h2 := h.tight hh; have h3 : ∀ lv, lv <= 6 -> TermP (prX e) e lv := fun lv hl => h2.term.below (Nat.le_refl _) (6 - lv) lv (by omega)
 refine ⟨(h3 1 (by omega)).choice, fun lv _ h6 => ?_, ?_, ?_, hh.hd, ?_⟩
 ·rw [lst_le (by omega)]; exact h3 lv h6
 ·rw [lst_le (by omega)]; exact h2
 ·rw [lst_le (by omega)]; exact h
 ·rw [lst_le (by omega)]; exact hh
theorem RT.of7 {e : Exp} (hL : lvN e.op = 7) (h2 : TightP (prX e) e) (hh : Hd (prX e)) : RT e := by
 have h3 : ∀ lv, lv <= 6 -> TermP (prX e) e lv := fun lv hl => h2.term.below (Nat.le_refl _) (6 - lv) lv (by omega)
 have hc := (h3 1 (by omega)).choice
 refine ⟨hc, fun lv _ h6 => ?_, ?_, ?_, hh, ?_⟩
 ·rw [lst_le (by omega)]; exact h3 lv h6
 ·rw [lst_le (by omega)]; exact h2
 ·rw [lst_gt (by omega)]; exact hc.all.1
 ·rw [lst_gt (by omega)]; exact Par.hd8 _
theorem RT.ofL {e : Exp} {L : Nat} (hL : lvN e.op = (L : Int)) (h1 : 1 <= L) (h6 : L <= 6) (h : TermP (prX e) e L) (hh : Hd (prX e)) : RT e := by
 have h3 : ∀ lv, lv <= L -> TermP (prX e) e lv := fun lv hl => h.below h6 (L - lv) lv (by omega)
 have hc := (h3 1 h1).choice; refine ⟨hc, fun lv _ h6 => ?_, ?_, ?_, hh, ?_⟩
 ·by_cases hl : lv <= L
  ·rw [lst_le (by omega)]; exact h3 lv hl
  ·rw [lst_gt (by omega)]; exact hc.all.2.2 lv h6
 ·rw [lst_gt (by omega)]; exact hc.all.2.1
 ·rw [lst_gt (by omega)]; exact hc.all.1
 ·rw [lst_gt (by omega)]; exact Par.hd8 _
theorem RT.of0 {e : Exp} (hL : lvN e.op = 0) (hc : ChoiceP (prX e) e) (hh : Hd (prX e)) : RT e := by
 refine ⟨hc, fun lv _ h6 => ?_, ?_, ?_, hh, ?_⟩
 ·rw [lst_gt (by omega)]; exact hc.all.2.2 lv h6
 ·rw [lst_gt (by omega)]; exact hc.all.2.1
 ·rw [lst_gt (by omega)]; exact hc.all.1
 ·rw [lst_gt (by omega)]; exact Par.hd8 _
theorem RT.lstHd {e : Exp} (h : RT e) (n : Int) : Hd (lst n e) := by
 unfold lst; split
 ·exact h.hd
 ·exact ⟨_, _, rfl, .inr (.inr (.inr (.inl rfl)))⟩
theorem com_hd : ∀ {l : List Exp}, l ≠ [] -> (∀ k ∈ l, RT k) -> Hd (comT l)
 | [a], _, h => (h a (by simp)).hd
 | a :: b :: r, _, h => (h a (by simp)).hd.app
theorem com_tells (s : ByteArray) (hs : s = sRp \/ s = sRb) : ∀ (l acc : List Exp) (d : Nat) (rest : List Tok), l ≠ [] -> (∀ k ∈ l, RT k) -> Tells (.mloop s acc) (comT l ++ tS s :: rest) d (.mk oNo oNo (acc ++ l)) ((comT l).length + 1)
 | [a], acc, d, rest, _, h => by
  refine T_mend (a := a) ((h a (by simp)).choice (d + 1) (tS s :: rest) (stpC_sign (hs.elim .inl (fun e => .inr (.inl e))))) ?_ ?_
  ·rw [drop_len]; rcases hs with rfl | rfl <;> rfl
  ·rw [drop_len, isS_tS]; rcases hs with rfl | rfl <;> decide
 | a :: b :: r, acc, d, rest, _, h => by
  have ih := com_tells s hs (b :: r) (acc ++ [a]) d rest (by simp) (fun k hk => h k (by simp [hk]))
  have e1 : comT (a :: b :: r) ++ tS s :: rest = prX a ++ tS sComma :: (comT (b :: r) ++ tS s :: rest) := by simp [comT]
  rw [e1]; have hn := T_mgo (s := s) (l := acc) ((h a (by simp)).choice (d + 1) (tS sComma :: (comT (b :: r) ++ tS s :: rest)) (stpC_sign (.inr (.inr (.inl rfl))))) (by rw [drop_len, isS_tS]; decide) (by rw [drop_len1]; exact ih)
  rw [List.append_assoc] at hn; refine hn.eq ?_; simp [comT]; omega
theorem many_tells (o s : ByteArray) (hs : s = sRp \/ s = sRb) (l : List Exp) (d : Nat) (rest : List Tok) (h : ∀ k ∈ l, RT k) : Tells (.many s) (tS o :: (comT l ++ tS s :: rest)) d (.mk oNo oNo l) ((comT l).length + 2) := by
 cases l with
 | nil => exact T_many0 (by show isS (tS s :: rest) s = true; rw [isS_tS]; simp)
 | cons a r =>
  refine (T_many ((com_hd (by simp) h).shut hs) (com_tells s hs (a :: r) [] d rest (by simp) h)).eq ?_
  omega
theorem printQ_byt2 {l : List Nat} (h : Byt l) : Byt (printQ l) := fun x hx => by
 unfold printQ at hx; rcases List.mem_cons.1 hx with rfl | h1
 ·omega
 ·rcases List.mem_append.1 h1 with h2 | h2
  ·exact flat_byt h x h2
  ·simp at h2; omega
theorem quoX_print {t : ByteArray} (h : validB t = true) : quoX (quoS t) = some t := by
 have ht : Txt (bs t) := ⟨bs_lt, by unfold validB at h; simpa using h⟩
 have h1 := scan_print (m := []) ht (by intro x hx; cases hx)
 rw [List.append_nil] at h1
 have hb : nb (quoS t).data.toList = printQ (bs t) := by
  show bs (quoS t) = _; unfold quoS; exact bs_un (printQ_byt2 ht.1)
 unfold quoX; rw [hb, h1]; have hsz : (printQ (bs t)).length = (quoS t).size := by rw [<- bs_length (quoS t)]; exact congrArg List.length hb.symm
 rw [if_pos ⟨rfl, hsz⟩]
 congr 1
 refine str_ext ?_; rw [strL_list]; unfold bs; rw [List.map_map]
 conv => rhs; rw [<- List.map_id t.data.toList]
 exact List.map_congr_left (fun x _ => by simp)
theorem rt_step (o t : ByteArray) (ks : List Exp) (hs : Shp o t ks) (h : ∀ k ∈ ks, RT k) : RT (.mk o t ks) := by
 cases hs with
 | name _ ha =>
  refine RT.of8 (by kernel_rfl) ?_ ?_
  ·rw [pr_name]
   intro d rest x m h1 h2; exact T_post (T_name (t := ⟨1, t, 0⟩) rfl h1) h2
  ·rw [pr_name]; exact ⟨_, _, rfl, .inl rfl⟩
 | num _ ha =>
  refine RT.of8 (by kernel_rfl) ?_ ?_
  ·rw [pr_num]
   intro d rest x m h1 h2; exact T_post (T_num (t := ⟨2, t, 0⟩) rfl) h2
  ·rw [pr_num]; exact ⟨_, _, rfl, .inr (.inl rfl)⟩
 | text _ ha =>
  refine RT.of8 (by kernel_rfl) ?_ ?_
  ·rw [pr_text]
   intro d rest x m h1 h2; exact T_post (T_text (t := ⟨3, quoS t, 0⟩) rfl (quoX_print ha)) h2
  ·rw [pr_text]; exact ⟨_, _, rfl, .inr (.inr (.inl rfl))⟩
 | call _ _ ha =>
  refine RT.of8 (by kernel_rfl) ?_ ?_
  ·rw [pr_call]
   intro d rest x m h1 h2; have hm := T_call (t := ⟨1, t, 0⟩) rfl (many_tells sLp sRp (.inl rfl) ks d rest h); have e1 : (⟨1, t, 0⟩ :: tS sLp :: (comT ks ++ [tS sRp]) : List Tok) ++ rest = ⟨1, t, 0⟩ :: tS sLp :: (comT ks ++ tS sRp :: rest) := by simp
   rw [e1]; refine (T_post (n := m) (x := x) hm ?_).eq (by simp; omega)
   rw [show 1 + ((comT ks).length + 2) = (((comT ks).length + 1) + 1) + 1 by omega, List.drop_succ_cons, List.drop_succ_cons, drop_len1]
   exact h2
  ·rw [pr_call]; exact ⟨_, _, rfl, .inl rfl⟩
 | list _ =>
  refine RT.of8 (by kernel_rfl) ?_ ?_
  ·rw [pr_list]
   intro d rest x m h1 h2; have hm := T_list (many_tells sLb sRb (.inr rfl) ks d rest h); have e1 : (tS sLb :: (comT ks ++ [tS sRb]) : List Tok) ++ rest = tS sLb :: (comT ks ++ tS sRb :: rest) := by simp
   rw [e1]; refine (T_post (n := m) (x := x) hm ?_).eq (by simp)
   rw [show (comT ks).length + 2 = ((comT ks).length + 1) + 1 by omega, List.drop_succ_cons, drop_len1]
   exact h2
  ·rw [pr_list]; exact ⟨_, _, rfl, .inr (.inr (.inr (.inr rfl)))⟩
 | get _ a ha =>
  have hA := h a (by simp)
  refine RT.of8 (by kernel_rfl) ?_ ?_
  ·rw [pr_get]
   intro d rest x m h1 h2; rw [List.append_assoc]; refine (hA.post d ([tS sDot, ⟨1, t, 0⟩] ++ rest) x (2 + m) (by rfl) (T_pget (t := ⟨1, t, 0⟩) rfl h2)).eq ?_
   simp; omega
  ·rw [pr_get]; exact hA.hd8.app
 | at_ a b =>
  have hA := h a (by simp)
  have hB := h b (by simp)
  refine RT.of8 (by kernel_rfl) ?_ ?_
  ·rw [pr_at]
   intro d rest x m h1 h2; have e1 : (lst 8 a ++ tS sLb :: (prX b ++ [tS sRb])) ++ rest = lst 8 a ++ tS sLb :: (prX b ++ tS sRb :: rest) := by simp
   rw [e1]; refine (hA.post d (tS sLb :: (prX b ++ tS sRb :: rest)) x (1 + (prX b).length + 1 + m) (by rfl) (T_pat (hB.choice (d + 1) (tS sRb :: rest) (stpC_sign (.inr (.inl rfl)))) (by rw [drop_len, isS_tS]; decide) (by rw [drop_len1]; exact h2))).eq ?_
   simp; omega
  ·rw [pr_at]; exact hA.hd8.app
 | bang a =>
  have hA := h a (by simp)
  refine RT.of7 (by kernel_rfl) ?_ ?_
  ·rw [pr_bang]
   intro d rest h1; refine (T_tight1 (a := a) (n := (lst 7 a).length) (r := tS sBang :: (lst 7 a ++ rest)) (by rw [isS_tS, isS_tS]; decide) (hA.tight (d + 1) rest h1)).eq ?_
   simp; omega
  ·rw [pr_bang]; exact ⟨_, _, rfl, .inr (.inr (.inr (.inr (.inr (.inl rfl)))))⟩
 | neg a =>
  have hA := h a (by simp)
  refine RT.of7 (by kernel_rfl) ?_ ?_
  ·rw [pr_neg]
   intro d rest h1; refine (T_tight1 (a := a) (n := (lst 7 a).length) (r := tS sMinus :: (lst 7 a ++ rest)) (by rw [isS_tS, isS_tS]; decide) (hA.tight (d + 1) rest h1)).eq ?_
   simp; omega
  ·rw [pr_neg]; exact ⟨_, _, rfl, .inr (.inr (.inr (.inr (.inr (.inr rfl)))))⟩
 | choice a b c =>
  have hA := h a (by simp)
  have hB := h b (by simp)
  have hC := h c (by simp)
  refine RT.of0 (by kernel_rfl) ?_ ?_
  ·rw [pr_choice]
   intro d rest h1; have e1 : (lst 1 a ++ tS sQ :: (prX b ++ tS sCo :: prX c)) ++ rest = lst 1 a ++ tS sQ :: (prX b ++ tS sCo :: (prX c ++ rest)) := by simp
   rw [e1]
   have hst : Stp 1 (tS sQ :: (prX b ++ tS sCo :: (prX c ++ rest))) := by
    refine ⟨⟨by rfl, by rfl, by rfl⟩, fun lv h1 _ => ?_⟩
    simp only [isL]; rw [if_neg]; rintro ⟨-, h2⟩; rw [show (tS sQ).text = sQ from rfl, lvv0] at h2; omega
   have hT := Tells.tail0 (d := d) (hA.term 1 (Nat.le_refl _) (by omega)) hst (by omega)
   have e2 : (lst 1 a).length + 1 + (prX b).length = (lst 1 a ++ tS sQ :: prX b).length := by simp; omega
   have e3 : lst 1 a ++ tS sQ :: (prX b ++ tS sCo :: (prX c ++ rest)) = (lst 1 a ++ tS sQ :: prX b) ++ tS sCo :: (prX c ++ rest) := by simp
   refine (T_choice3 (c := c) (m2 := (prX c).length) hT (by rw [drop_len, isS_tS]; decide) (by rw [drop_len1]; exact hB.choice (d + 1) (tS sCo :: (prX c ++ rest)) (stpC_sign (.inr (.inr (.inr rfl))))) ?_ ?_).eq ?_
   ·show isS ((lst ((1 : Nat) : Int) a ++ _).drop ((lst ((1 : Nat) : Int) a).length + 1 + (prX b).length)) sCo = true
    rw [show ((1 : Nat) : Int) = 1 from rfl, e2, e3, drop_len, isS_tS]; decide
   ·show Tells .choice ((lst ((1 : Nat) : Int) a ++ _).drop ((lst ((1 : Nat) : Int) a).length + 1 + (prX b).length + 1)) _ _ _
    rw [show ((1 : Nat) : Int) = 1 from rfl, e2, e3, drop_len1]; exact hC.choice (d + 1) rest h1
   ·show (lst ((1 : Nat) : Int) a).length + 1 + (prX b).length + 1 + (prX c).length = _
    rw [show ((1 : Nat) : Int) = 1 from rfl]; simp; omega
  ·rw [pr_choice]; exact (hA.lstHd 1).app
 | two _ lv a b hl h1 h6 hne hmem =>
  have hA := h a (by simp)
  have hB := h b (by simp)
  refine RT.ofL (L := lv) hl h1 h6 ?_ ?_
  ·rw [pr_two _ a b hne, hl]
   intro d rest x m hs ht; have e1 : (lst (lv : Int) a ++ tS o :: lst ((lv : Int) + 1) b) ++ rest = lst (lv : Int) a ++ tS o :: (lst ((lv : Int) + 1) b ++ rest) := by simp
   rw [e1]
   have hdot : o ≠ sDot /\ o ≠ sLb /\ o ≠ sLp := by
    refine ⟨fun e => ?_, fun e => ?_, fun e => ?_⟩
    ·rw [e, show lvN sDot = -1 by kernel_rfl] at hl; omega
    ·rw [e, show lvN sLb = -1 by kernel_rfl] at hl; omega
    ·rw [e, show lvN sLp = -1 by kernel_rfl] at hl; omega
   have hsg : ∀ (q : List Tok) (w : ByteArray), o ≠ w -> isS (tS o :: q) w = false := fun q w hw => by simp [isS, tS, hw]
   have hst : Stp (lv + 1) (tS o :: (lst ((lv : Int) + 1) b ++ rest)) := by
    refine ⟨⟨hsg _ _ hdot.1, hsg _ _ hdot.2.1, hsg _ _ hdot.2.2⟩, fun v hv _ => ?_⟩; simp only [isL]; rw [if_neg]; rintro ⟨-, h2⟩; rw [show (tS o).text = o from rfl, hl] at h2; omega
   have hgo : isL (tS o :: (lst ((lv : Int) + 1) b ++ rest)) lv = some o := by
    simp only [isL]; rw [if_pos ⟨rfl, hl⟩]; rfl
   have hb : Tells (.term (lv + 1)) (lst ((lv : Int) + 1) b ++ rest) d b (lst ((lv : Int) + 1) b).length := by
    by_cases h7 : lv + 1 <= 6
    ·exact Tells.tail0 (hB.term (lv + 1) (by omega) h7) hs h7
    ·obtain rfl : lv = 6 := by omega
     exact T_term7 (by omega) (hB.tight d rest hs.1)
   refine (hA.term lv h1 h6 d _ x (1 + (lst ((lv : Int) + 1) b).length + m) hst (T_tgo hgo hb ?_)).eq (by simp; omega)
   rw [Nat.add_comm 1, List.drop_succ_cons, drop_len]; exact ht
  ·rw [pr_two _ a b hne]; exact (hA.lstHd _).app
theorem rt_upto : ∀ (n : Nat) (e : Exp), e.bulk <= n -> rightX e = true -> RT e
 | 0, e, hb, _ => by have := bulkX_pos e; omega
 | n + 1, .mk o t ks, hb, hr => by
  obtain ⟨h1, h2⟩ := Shp.ok hr; refine rt_step o t ks h1 (fun k hk => ?_); obtain ⟨j, hj, rfl⟩ := List.mem_iff_getElem.1 hk; have hbk := bulkX_kid hj; simp only [Exp.bulk] at hb; exact rt_upto n _ (by omega) (h2 _ hk)
theorem rt_all (e : Exp) (h : rightX e = true) : RT e := rt_upto _ e (Nat.le_refl _) h
theorem Tells.par {r : List Tok} {x : Exp} {n : Nat} (h : Tells .choice r 0 x n) : Or5 (parX (fuelX .choice r) .choice r 0) (x, n, 0) := by
 obtain ⟨N, h⟩ := h; have h1 := (parX_fine _ .choice r 0 (Nat.le_refl _) trivial).1; have h2 := h (N + fuelX .choice r) (Nat.le_add_right _ _)
 rwa [parX_fuel (Nat.le_add_left (fuelX .choice r) N) h1] at h2
theorem parE_print {e : Exp} (h : rightX e = true) : parE (prX e) = (e, (prX e).length, 0) \/ (parE (prX e)).2.2 = 4 \/ (parE (prX e)).2.2 = 5 := by
 have hc := (rt_all e h).choice 0 [] ⟨⟨⟨rfl, rfl, rfl⟩, fun _ _ _ => rfl⟩, rfl⟩; rw [List.append_nil] at hc; have hp := hc.par; unfold parE; split
 ·exact .inr (.inl rfl)
 ·rcases hp with hp | hp
  ·rw [hp]; exact .inl rfl
  ·rw [if_neg (by rw [hp]; decide)]
   exact .inr (.inr hp)
end Go.Proofs.YthbhknfhmkhfgaaGreatDoor
namespace Go.Proofs.YthbhknfhmkhfgaaGreatDoor
set_option maxRecDepth 100000
set_option maxHeartbeats 20000000
theorem lst_len (n : Int) (e : Exp) : (prX e).length <= (lst n e).length /\ (lst n e).length <= (prX e).length + 2 := by
 unfold lst; split
 ·exact ⟨Nat.le_refl _, by omega⟩
 ·simp only [List.length_cons, List.length_append, List.length_nil]; omega
theorem lst_up {n m : Int} (h : n <= m) (e : Exp) : (lst n e).length <= (lst m e).length := by
 by_cases h1 : m <= lvN e.op
 ·rw [lst_le h1, lst_le (by omega)]; exact Nat.le_refl _
 ·by_cases h2 : n <= lvN e.op
  ·rw [lst_le h2]; exact (lst_len m e).1
  ·rw [lst_gt h1, lst_gt h2]; exact Nat.le_refl _
theorem com_snoc : ∀ (l : List Exp) (a : Exp), (comT (l ++ [a])).length = (comT l).length + (if l = [] then 0 else 1) + (prX a).length
 | [], a => by simp [comT]
 | [b], a => by simp [comT]; omega
 | b :: c :: r, a => by
  have := com_snoc (c :: r) a; simp only [List.cons_append, comT, List.length_append, List.length_cons] at this ⊢; rw [this]; simp only [List.cons_ne_nil, if_false, reduceCtorEq]; omega
def Few : Nt -> GotX -> Prop
 | .choice, g => (prX g.1).length <= g.2.1
 | .term lv, g => 1 <= lv -> lv <= 7 -> (lst (lv : Int) g.1).length <= g.2.1
 | .tloop lv a, g => 1 <= lv -> lv <= 6 -> (lst (lv : Int) g.1).length <= (lst (lv : Int) a).length + g.2.1
 | .tight, g => (lst 7 g.1).length <= g.2.1
 | .post, g => (lst 8 g.1).length <= g.2.1
 | .ploop a, g => (lst 8 g.1).length <= (lst 8 a).length + g.2.1
 | .prime, g => (lst 8 g.1).length <= g.2.1
 | .many _, g => (comT g.1.kids).length + 2 <= g.2.1
 | .mloop _ l, g => (comT g.1.kids).length + 1 <= (comT l).length + (if l = [] then 0 else 1) + g.2.1
theorem andX_zero {g : GotX} {f : Exp -> Nat -> GotX} (h : (andX g f).2.2 = 0) : g.2.2 = 0 /\ andX g f = f g.1 g.2.1 := by
 by_cases he : g.2.2 = 0
 ·exact ⟨he, andX_ok he⟩
 ·rw [andX_bad he] at h; exact absurd h he
theorem badX_zero {r : List Tok} {n : Nat} : (badX r n).2.2 ≠ 0 := by unfold badX; split <;> simp
theorem isL_lv {r : List Tok} {lv : Nat} {o : ByteArray} (h : isL r lv = some o) : lvN o = (lv : Int) := by
 unfold isL at h; split at h
 ·cases h
 ·split at h
  ·next hc => cases h; exact hc.2
  ·cases h
theorem op_two {o : ByteArray} {lv : Nat} (h : lvN o = (lv : Int)) (h6 : lv <= 6) : o ≠ oName /\ o ≠ oNum /\ o ≠ oText /\ o ≠ oCall /\ o ≠ oList /\ o ≠ oAt := by
 have hk : ∀ w : ByteArray, lvN w = 8 -> o ≠ w := fun w hw e => by subst e; omega
 exact ⟨hk _ (by kernel_rfl), hk _ (by kernel_rfl), hk _ (by kernel_rfl), hk _ (by kernel_rfl), hk _ (by kernel_rfl), hk _ (by kernel_rfl)⟩
theorem lst8 {e : Exp} (h : lvN e.op = 8) : lst 8 e = prX e := lst_le (by omega)
theorem few : ∀ (n : Nat) (t : Nt) (r : List Tok) (d : Nat), (parX n t r d).2.2 = 0 -> Few t (parX n t r d) := by
 intro n
 induction n with
 | zero => intro t r d h; simp [parX] at h
 | succ n ih =>
  intro t r d h
  cases t with
  | choice =>
   simp only [parX] at h ⊢; obtain ⟨h1, h2⟩ := andX_zero h; rw [h2] at h ⊢; have i1 := ih (.term 1) r d h1; simp only [Few] at i1; have i1 := i1 (Nat.le_refl _) (by omega)
   have j1 := (lst_len 1 (parX n (.term 1) r d).1).1
   by_cases hq : isS (r.drop (parX n (.term 1) r d).2.1) sQ = false
   ·rw [if_pos hq] at h ⊢
    simp only [Few]; show (prX (parX n (.term 1) r d).1).length <= (parX n (.term 1) r d).2.1; exact Nat.le_trans j1 i1
   ·rw [if_neg hq] at h ⊢
    split at h
    ·next hd => simp [deepX] at h
    ·next hd =>
     rw [if_neg hd]; obtain ⟨h3, h4⟩ := andX_zero h; rw [h4] at h ⊢; have i2 := ih .choice (r.drop ((parX n (.term 1) r d).2.1 + 1)) (d + 1) h3; simp only [Few] at i2; generalize parX n .choice (r.drop ((parX n (.term 1) r d).2.1 + 1)) (d + 1) = B at *; generalize parX n (.term 1) r d = A at *
     by_cases hc : isS (r.drop (upX (A.2.1 + 1) B).2.1) sCo = false
     ·rw [if_pos hc] at h; exact absurd h badX_zero
     ·rw [if_neg hc] at h ⊢
      obtain ⟨h5, h6⟩ := andX_zero h; rw [h6]; have i3 := ih .choice (r.drop ((upX (A.2.1 + 1) B).2.1 + 1)) (d + 1) h5; simp only [Few] at i3 ⊢; generalize parX n .choice (r.drop ((upX (A.2.1 + 1) B).2.1 + 1)) (d + 1) = C at *; rw [pr_choice]; simp only [List.length_append, List.length_cons, upX]; have : ((1 : Nat) : Int) = 1 := rfl; rw [this] at i1; omega
  | term lv =>
   simp only [parX] at h ⊢; intro l1 l7; split at h
   ·next h7 =>
    rw [if_pos h7]; obtain rfl : lv = 7 := by omega
    exact ih .tight r d h
   ·next h7 =>
    rw [if_neg h7]; obtain ⟨h1, h2⟩ := andX_zero h; rw [h2] at h ⊢; have i1 := ih (.term (lv + 1)) r d h1; simp only [Few] at i1; have i1 := i1 (by omega) (by omega)
    generalize parX n (.term (lv + 1)) r d = A at *; have i2 := ih (.tloop lv A.1) (r.drop A.2.1) d h; simp only [Few] at i2; have i2 := i2 l1 (by omega)
    generalize parX n (.tloop lv A.1) (r.drop A.2.1) d = B at *; have j := lst_up (n := (lv : Int)) (m := ((lv + 1 : Nat) : Int)) (by omega) A.1
    show (lst (lv : Int) B.1).length <= A.2.1 + B.2.1; omega
  | tloop lv a =>
   simp only [parX] at h ⊢; intro l1 l6; split at h
   ·next hl =>
    (try simp only [hl])
    exact Nat.le_add_right _ _
   ·next o hl =>
    (try simp only [hl])
    obtain ⟨h1, h2⟩ := andX_zero h; rw [h2] at h ⊢; have i1 := ih (.term (lv + 1)) (r.drop 1) d h1; simp only [Few] at i1; have i1 := i1 (by omega) (by omega)
    generalize parX n (.term (lv + 1)) (r.drop 1) d = A at *; simp only [upX] at h ⊢; have i2 := ih (.tloop lv (.mk o oNo [a, A.1])) (r.drop (1 + A.2.1)) d h; simp only [Few] at i2; have i2 := i2 l1 l6; have hlv := isL_lv hl
    have e1 : lst (lv : Int) (.mk o oNo [a, A.1]) = lst (lv : Int) a ++ tS o :: lst ((lv : Int) + 1) A.1 := by
     rw [lst_le (by show (lv : Int) <= lvN o; omega), pr_two _ _ _ (op_two hlv l6), hlv]
    rw [e1] at i2; simp only [List.length_append, List.length_cons] at i2; have e2 : ((lv + 1 : Nat) : Int) = (lv : Int) + 1 := by omega
    rw [e2] at i1; omega
  | tight =>
   simp only [parX] at h ⊢; split at h
   ·next hb =>
    rw [if_pos hb]; have i1 := ih .post r d h; simp only [Few] at i1 ⊢; exact Nat.le_trans (lst_up (by omega) _) i1
   ·next hb =>
    rw [if_neg hb]; split at h
    ·simp [deepX] at h
    ·next hd =>
     rw [if_neg hd]; obtain ⟨h1, h2⟩ := andX_zero h; rw [h2]; have i1 := ih .tight (r.drop 1) (d + 1) h1; simp only [Few] at i1 ⊢; generalize parX n .tight (r.drop 1) (d + 1) = A at *; simp only [upX]
     by_cases hs : isS r sBang = true
     ·rw [if_pos hs, lst_le (by show (7 : Int) <= lvN sBang; rw [lvv14]; omega), pr_bang]
      simp only [List.length_cons]; omega
     ·rw [if_neg hs, lst_le (by show (7 : Int) <= lvN oNeg; rw [lvv15]; omega), pr_neg]
      simp only [List.length_cons]; omega
  | post =>
   simp only [parX] at h ⊢; obtain ⟨h1, h2⟩ := andX_zero h; rw [h2] at h ⊢; have i1 := ih .prime r d h1; simp only [Few] at i1 ⊢; generalize parX n .prime r d = A at *; have i2 := ih (.ploop A.1) (r.drop A.2.1) d h; simp only [Few] at i2; simp only [upX]; omega
  | ploop a =>
   simp only [parX] at h ⊢; simp only [Few]; split at h
   ·next hdot =>
    rw [if_pos hdot]; split at h
    ·exact absurd h badX_zero
    ·next t q hq =>
     simp only [hq]; split at h
     ·next hk =>
      rw [if_pos hk]; have i1 := ih (.ploop (.mk oGet t.text [a])) (r.drop 2) d h; simp only [Few] at i1; rw [lst8 (e := .mk oGet t.text [a]) (by kernel_rfl), pr_get] at i1
      simp only [List.length_append, List.length_cons, List.length_nil] at i1; simp only [upX]; omega
     ·exact absurd h badX_zero
   ·next hdot =>
    rw [if_neg hdot]; split at h
    ·next hlb =>
     rw [if_pos hlb]; split at h
     ·simp [deepX] at h
     ·next hd =>
      rw [if_neg hd]; obtain ⟨h1, h2⟩ := andX_zero h; rw [h2] at h ⊢; have i1 := ih .choice (r.drop 1) (d + 1) h1; simp only [Few] at i1; generalize parX n .choice (r.drop 1) (d + 1) = A at *
      by_cases hc : isS (r.drop (upX 1 A).2.1) sRb = false
      ·rw [if_pos hc] at h; exact absurd h badX_zero
      ·rw [if_neg hc] at h ⊢
       have i2 := ih (.ploop (.mk oAt oNo [a, A.1])) (r.drop (1 + A.2.1 + 1)) d h; simp only [upX]; simp only [Few] at i2; rw [lst8 (e := .mk oAt oNo [a, A.1]) (by kernel_rfl), pr_at] at i2
       simp only [List.length_append, List.length_cons, List.length_nil] at i2; omega
    ·next hlb =>
     rw [if_neg hlb]; simp only; omega
  | prime =>
   cases r with
   | nil => simp only [parX] at h; exact absurd h badX_zero
   | cons t r =>
    simp only [parX] at h ⊢; simp only [Few]; split at h
    ·next h1 =>
     rw [if_pos h1]; split at h
     ·next hp =>
      rw [if_pos hp]; obtain ⟨h3, h4⟩ := andX_zero h; rw [h4]; have i1 := ih (.many sRp) r d h3; simp only [Few] at i1; generalize parX n (.many sRp) r d = A at *; rw [lst8 (by kernel_rfl), pr_call]
      simp only [List.length_append, List.length_cons, List.length_nil, upX]; omega
     ·next hp =>
      rw [if_neg hp, lst8 (by kernel_rfl), pr_name]
      simp
    ·next h1 =>
     rw [if_neg h1]; split at h
     ·next h2 => rw [if_pos h2, lst8 (by kernel_rfl), pr_num]; simp
     ·next h2 =>
      rw [if_neg h2]; split at h
      ·next h3 =>
       rw [if_pos h3]; split at h
       ·cases h
       ·next s hs => simp only [hs]; rw [lst8 (by kernel_rfl), pr_text]; simp
      ·next h3 =>
       rw [if_neg h3]; split at h
       ·next h4 =>
        rw [if_pos h4]; obtain ⟨h5, h6⟩ := andX_zero h; rw [h6]; have i1 := ih (.many sRb) (t :: r) d h5; simp only [Few] at i1; rw [lst8 (by kernel_rfl), pr_list]
        simp only [List.length_append, List.length_cons, List.length_nil]; omega
       ·next h4 =>
        rw [if_neg h4]; split at h
        ·next h5 =>
         rw [if_pos h5]; split at h
         ·simp [deepX] at h
         ·next h6 =>
          rw [if_neg h6]; obtain ⟨h7, h8⟩ := andX_zero h; rw [h8] at h ⊢; have i1 := ih .choice r (d + 1) h7; simp only [Few] at i1; generalize parX n .choice r (d + 1) = A at *
          by_cases hc : isS ((t :: r).drop (upX 1 A).2.1) sRp = false
          ·rw [if_pos hc] at h; exact absurd h badX_zero
          ·rw [if_neg hc] at h ⊢
           have := (lst_len 8 A.1).2; simp only [upX]; omega
        ·exact absurd h badX_zero
  | many s =>
   simp only [parX] at h ⊢; simp only [Few]; split at h
   ·simp [deepX] at h
   ·next hd =>
    rw [if_neg hd]; split at h
    ·next hs => rw [if_pos hs]; simp [Exp.kids, comT]
    ·next hs =>
     rw [if_neg hs]; have i1 := ih (.mloop s []) (r.drop 1) d h; simp only [Few] at i1; simp only [upX, comT, List.length_nil, if_true] at i1 ⊢; omega
  | mloop s l =>
   simp only [parX] at h ⊢; obtain ⟨h1, h2⟩ := andX_zero h; rw [h2] at h ⊢; simp only [Few]; have i1 := ih .choice r (d + 1) h1; simp only [Few] at i1; generalize parX n .choice r (d + 1) = A at *; have hc := com_snoc l A.1; split at h
   ·next hs =>
    rw [if_pos hs]; have i2 := ih (.mloop s (l ++ [A.1])) (r.drop (A.2.1 + 1)) d h; simp only [Few] at i2; rw [if_neg (by simp), hc] at i2
    simp only [upX]; omega
   ·next hs =>
    rw [if_neg hs]; split at h
    ·next h3 =>
     rw [if_pos h3]; simp only [Exp.kids]; rw [hc]; omega
    ·exact absurd h badX_zero
theorem parE_few {l : List Tok} (h : (parE l).2.2 = 0) : (prX (parE l).1).length <= (parE l).2.1 := by
 unfold parE at h ⊢; split at h
 ·cases h
 ·next hl =>
  rw [if_neg hl]; split at h
  ·next hz =>
   rw [if_pos hz]; exact few _ .choice l 0 hz
  ·next hz => exact absurd h hz
end Go.Proofs.YthbhknfhmkhfgaaGreatDoor
namespace Go.Proofs.YthbhknfhmkhfgaaGreatDoor
set_option maxRecDepth 100000
set_option maxHeartbeats 20000000
end Go.Proofs.YthbhknfhmkhfgaaGreatDoor
namespace Go.Proofs.YthbhknfhmkhfgaaGreatDoor
set_option maxRecDepth 100000
set_option maxHeartbeats 20000000
theorem digs_stop {s : Bs} (h : digs s = 0) : ∀ l : Bs, digs (l ++ s) = digs l
 | [] => h
 | c :: l => by simp only [List.cons_append, digs, digs_stop h l]
theorem idN_stop {s : Bs} (h : idN s = 0) : ∀ l : Bs, idN (l ++ s) = idN l
 | [] => h
 | c :: l => by simp only [List.cons_append, idN, idN_stop h l]
structure NumStop (s : Bs) : Prop where
 d : digs s = 0
 f : fracS s = 0
 p : powS s = 0
 g : sgS s = 0
theorem fracS_stop {s : Bs} (h : NumStop s) : ∀ l : Bs, fracS (l ++ s) = fracS l
 | [] => h.f
 | c :: l => by simp only [List.cons_append, fracS, digs_stop h.d l]
theorem sgS_stop {s : Bs} (h : NumStop s) : ∀ l : Bs, sgS (l ++ s) = sgS l
 | [] => h.g
 | c :: l => by simp only [List.cons_append, sgS]
theorem sgS_le : ∀ l : Bs, sgS l <= l.length
 | [] => Nat.le_refl _
 | c :: l => by rw [sgS]; split <;> simp
theorem powS_stop {s : Bs} (h : NumStop s) : ∀ l : Bs, powS (l ++ s) = powS l
 | [] => h.p
 | c :: l => by
  simp only [List.cons_append, powS, sgS_stop h l]; rw [List.drop_append_of_le_length (sgS_le l), digs_stop h.d]
theorem intS_stop {s : Bs} (h : NumStop s) : ∀ l : Bs, intS (l ++ s) = intS l
 | [] => by
  simp only [List.nil_append]
  cases s with
  | nil => rfl
  | cons c s =>
   have := h.d; show intS (c :: s) = 0; simp only [intS]; split
   ·next hc => subst hc; rw [digs, if_pos (by decide)] at this; omega
   ·exact this
 | c :: l => by
  simp only [List.cons_append, intS]; rw [<- List.cons_append, digs_stop h.d]
theorem fracS_le : ∀ l : Bs, fracS l <= l.length
 | [] => Nat.le_refl _
 | c :: l => by rw [fracS]; have := digs_le l; split <;> simp; omega
theorem intS_le : ∀ l : Bs, intS l <= l.length
 | [] => Nat.le_refl _
 | c :: l => by
  rw [intS]; split
  ·simp
  ·exact digs_le _
theorem tailS_stop {s : Bs} (h : NumStop s) (l : Bs) : tailS (l ++ s) = tailS l := by
 unfold tailS; rw [fracS_stop h, List.drop_append_of_le_length (fracS_le l), powS_stop h]
theorem mnS_le : ∀ l : Bs, mnS l <= l.length
 | [] => Nat.le_refl _
 | c :: l => by rw [mnS]; split <;> simp
theorem scanN_stop {s : Bs} (h : NumStop s) {l : Bs} (hl : l ≠ []) : scanN (l ++ s) = scanN l := by
 have hm : mnS (l ++ s) = mnS l := by cases l with | nil => exact absurd rfl hl | cons c l => rfl
 unfold scanN; have hi := intS_le (l.drop (mnS l)); rw [List.length_drop] at hi; have hml := mnS_le l; rw [hm, List.drop_append_of_le_length hml, intS_stop h, List.drop_append_of_le_length (by omega), tailS_stop h]
theorem nb_app (a b : Bs) : nb (a ++ b) = nb a ++ nb b := by unfold nb; rw [List.map_append]
theorem quo1_app {l s : Bs} {k n : Nat} (h : quo1 l = .tok k n) : quo1 (l ++ s) = .tok k n := by
 unfold quo1 at h ⊢; split at h
 ·next hz =>
  have hsz := scanQ_size (nb_byt l) hz
  have hm := scanQ_more (l := nb l) (m := (nb l).drop (scanQ (nb l)).2.1 ++ nb s) (nb_byt l) (fun x hx => by
   rcases List.mem_append.1 hx with hx | hx
   ·exact nb_byt l x (List.mem_of_mem_drop hx)
   ·exact nb_byt s x hx) hz
  rw [<- List.append_assoc, List.take_append_drop, <- nb_app] at hm; rw [hm, if_pos hz]; exact h
 ·cases h
theorem num1_app {l s : Bs} {k n : Nat} (h : num1 l = .tok k n) (hl : l ≠ []) (hs : NumStop s) : num1 (l ++ s) = .tok k n := by
 unfold num1 at h ⊢; rw [scanN_stop hs hl, List.take_append_of_le_length (scanN_le l)]; exact h
end Go.Proofs.YthbhknfhmkhfgaaGreatDoor
namespace Go.Proofs.YthbhknfhmkhfgaaGreatDoor
set_option maxRecDepth 100000
set_option maxHeartbeats 20000000
end Go.Proofs.YthbhknfhmkhfgaaGreatDoor
namespace Go.Proofs.YthbhknfhmkhfgaaGreatDoor
set_option maxRecDepth 100000
set_option maxHeartbeats 20000000
end Go.Proofs.YthbhknfhmkhfgaaGreatDoor
namespace Go.Proofs.YthbhknfhmkhfgaaGreatDoor
set_option maxRecDepth 100000
set_option maxHeartbeats 20000000
end Go.Proofs.YthbhknfhmkhfgaaGreatDoor
namespace Go.Proofs.YthbhknfhmkhfgaaGreatDoor
set_option maxRecDepth 100000
set_option maxHeartbeats 20000000
def KT (f : Tok -> Tok) : Prop := ∀ t, (f t).kind = t.kind /\ (f t).text = t.text
section
variable {f : Tok -> Tok} (hf : KT f)
include hf
theorem isS_map (r : List Tok) (w : ByteArray) : isS (r.map f) w = isS r w := by
 cases r with
 | nil => rfl
 | cons t r => simp only [List.map_cons, isS, (hf t).1, (hf t).2]
theorem isL_map (r : List Tok) (lv : Nat) : isL (r.map f) lv = isL r lv := by
 cases r with
 | nil => rfl
 | cons t r => simp only [List.map_cons, isL, (hf t).1, (hf t).2]
omit hf in
theorem badX_map (r : List Tok) (n : Nat) : badX (r.map f) n = badX r n := by cases r <;> rfl
theorem parX_map : ∀ (n : Nat) (t : Nt) (r : List Tok) (d : Nat), parX n t (r.map f) d = parX n t r d := by
 intro n
 induction n with
 | zero => intros; rfl
 | succ n ih =>
  intro t r d
  cases t with
  | ploop a =>
   simp only [parX, <- List.map_drop, isS_map hf, badX_map, ih]
   cases hq : r.drop 1 with
   | nil => rfl
   | cons t q => simp only [List.map_cons, (hf t).1, (hf t).2]
  | prime =>
   cases r with
   | nil => rfl
   | cons t r => 
    have e1 := isS_map hf (t :: r); have e2 := badX_map (f := f) (t :: r); have e3 := ih (.many sRb) (t :: r); have e4 := fun k => List.map_drop (l := t :: r) (i := k) (f := f); simp only [List.map_cons] at e1 e2 e3 e4; simp only [List.map_cons, parX, (hf t).1, (hf t).2, e1, e2, e3, <- e4, isS_map hf, badX_map, ih]
  | _ => simp only [parX, <- List.map_drop, isS_map hf, isL_map hf, badX_map, ih]
theorem parE_map (r : List Tok) : parE (r.map f) = parE r := by
 unfold parE fuelX; simp only [List.length_map, parX_map hf]
end
end Go.Proofs.YthbhknfhmkhfgaaGreatDoor
