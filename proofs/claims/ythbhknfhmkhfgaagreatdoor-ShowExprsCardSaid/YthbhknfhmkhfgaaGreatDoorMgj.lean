/- Texts of this claim, one behind the other: ShL, PnA, QuoK, QuoL, QuoM, PnB, ShW, QuoN, RoA, PnC. -/
import Derived.Test.YthbhknfhmkhfgaaGreatDoorMgb
import Derived.Test.YthbhknfhmkhfgaaGreatDoorMgd
import Derived.Test.YthbhknfhmkhfgaaGreatDoorMgg
import Derived.Test.YthbhknfhmkhfgaaGreatDoorMgh
import Derived.Test.YthbhknfhmkhfgaaGreatDoorMgi
import Derived.StillTailTactics
set_option linter.unusedSimpArgs false
set_option linter.unusedVariables false
namespace Go.Proofs.YthbhknfhmkhfgaaGreatDoor
set_option maxRecDepth 100000
set_option maxHeartbeats 20000000
abbrev bT (t : ByteArray) : Bs := t.data.toList
def catP : Pcs -> Bs
 | [] => []
 | none :: r => 32 :: catP r
 | some t :: r => bT t.text ++ catP r
theorem catP_app : ∀ (P Q : Pcs), catP (P ++ Q) = catP P ++ catP Q
 | [], _ => rfl
 | none :: r, Q => by simp only [List.cons_append, catP, catP_app r Q]
 | some t :: r, Q => by simp only [List.cons_append, catP, catP_app r Q, List.append_assoc]
def np (t : Tok) : Tok := ⟨t.kind, t.text, 0⟩
def Lx (P : Pcs) (s : Bs) : Prop := ∀ p, ∃ toks : List Tok, lexL (catP P ++ s) p = (toks ++ (lexL s (p + (catP P).length)).1, (lexL s (p + (catP P).length)).2) /\ toks.map np = tkP P
theorem Lx.app {P Q : Pcs} {s : Bs} (h1 : Lx P (catP Q ++ s)) (h2 : Lx Q s) : Lx (P ++ Q) s := fun p => by
 obtain ⟨a, e1, e2⟩ := h1 p; obtain ⟨b, e3, e4⟩ := h2 (p + (catP P).length); refine ⟨a ++ b, ?_, by rw [List.map_append, e2, e4, tkP_app]⟩
 rw [catP_app, List.append_assoc, e1, e3, List.length_append, Nat.add_assoc, List.append_assoc]
theorem Lx.blank (s : Bs) : Lx [none] s := fun p => ⟨[], by simp only [catP, List.cons_append, List.nil_append]; rw [lexL_blank rfl]; rfl, rfl⟩
theorem Lx.tok {t : Tok} {s : Bs} {k : Nat} (hp : t.pos = 0) (hk : t.kind = (k : Int)) (h0 : ∃ c r, bT t.text = c :: r /\ blankB c = false) (h : one1 (bT t.text ++ s) = .tok k (bT t.text).length) : Lx [some t] s := fun p => by
 obtain ⟨c, r, e, hb⟩ := h0; obtain ⟨kd, tx, ps⟩ := t; simp only at hp hk e h; subst hp hk; refine ⟨[⟨(k : Nat), tx, (p : Nat)⟩], ?_, rfl⟩; simp only [catP, List.append_nil]; rw [e] at h ⊢; rw [List.cons_append] at h ⊢; rw [lexL_tok hb h, <- List.cons_append, List.take_left, List.drop_left, <- e]; rfl
def StopB (s : Bs) : Prop := s = [] \/ ∃ c b, s = c :: b /\ (c = 32 \/ c = 41 \/ c = 44 \/ c = 93 \/ c = 91 \/ (c = 46 /\ ∃ x y, b = x :: y /\ letB x = true))
def NoD (s : Bs) : Prop := ∀ c b, s = c :: b -> c ≠ 61 /\ c ≠ 38 /\ c ≠ 124 /\ c ≠ 47 /\ c ≠ 42
theorem let_dg {x : UInt8} (h : letB x = true) : dg x = false := by
 unfold letB at h; unfold dg dig; simp only [Bool.or_eq_true, decide_eq_true_eq] at h; have : x.toNat < 256 := UInt8.toNat_lt x; simp
 omega
theorem StopB.num {s : Bs} (h : StopB s) : NumStop s := by
 rcases h with rfl | ⟨c, b, rfl, h⟩
 ·exact ⟨rfl, rfl, rfl, rfl⟩
 ·rcases h with rfl | rfl | rfl | rfl | rfl | ⟨rfl, x, y, rfl, hx⟩
  ·exact ⟨by simp [digs, show dg 32 = false from rfl], by simp [fracS], by simp [powS], by simp [sgS]⟩
  ·exact ⟨by simp [digs, show dg 41 = false from rfl], by simp [fracS], by simp [powS], by simp [sgS]⟩
  ·exact ⟨by simp [digs, show dg 44 = false from rfl], by simp [fracS], by simp [powS], by simp [sgS]⟩
  ·exact ⟨by simp [digs, show dg 93 = false from rfl], by simp [fracS], by simp [powS], by simp [sgS]⟩
  ·exact ⟨by simp [digs, show dg 91 = false from rfl], by simp [fracS], by simp [powS], by simp [sgS]⟩
  ·have hd := let_dg hx
   exact ⟨by simp [digs, show dg 46 = false from rfl], by simp [fracS, digs, hd], by simp [powS], by simp [sgS]⟩
theorem StopB.id {s : Bs} (h : StopB s) : idN s = 0 := by
 rcases h with rfl | ⟨c, b, rfl, h⟩
 ·rfl
 ·have hi : idB c = false := by rcases h with rfl | rfl | rfl | rfl | rfl | ⟨rfl, -⟩ <;> rfl
  simp [idN, hi]
theorem StopB.nod {s : Bs} (h : StopB s) : NoD s := by
 intro c b e; rcases h with rfl | ⟨c', b', rfl, h⟩
 ·cases e
 ·cases e
  rcases h with rfl | rfl | rfl | rfl | rfl | ⟨rfl, -⟩ <;> decide
theorem alone_one {t : ByteArray} {k : Int} (h : aloneB t k = true) : ∃ (c : UInt8) (r : Bs) (kn : Nat), bT t = c :: r /\ blankB c = false /\ k = (kn : Int) /\ one1 (c :: r) = .tok kn (bT t).length := by
 unfold aloneB at h
 cases hl : t.data.toList with
 | nil => rw [hl, lexL_nil] at h; cases h
 | cons c r =>
  rw [hl] at h
  by_cases hb : blankB c = true
  ·rw [lexL_blank hb] at h
   have ht := lexL_text r.length r (0 + 1) (Nat.le_refl _); split at h
   ·next x a e hx =>
    simp only [Bool.and_eq_true, decide_eq_true_eq] at h; have := ht x (by rw [hx]; simp)
    rw [h.2.2, <- size_list2, hl] at this; simp at this
    omega
   ·cases h
  ·have hb : blankB c = false := by simpa using hb
   cases ho : one1 (c :: r) with
   | bad o e => rw [lexL_bad hb ho] at h; cases h
   | tok kd sz =>
    have hs := one1_size ho; rw [lexL_tok hb ho] at h; split at h
    ·next x a e hx =>
     simp only [Bool.and_eq_true, decide_eq_true_eq] at h; simp only [Prod.mk.injEq, List.cons.injEq] at hx; obtain ⟨⟨rfl, -⟩, -⟩ := hx; simp only at h; have h2 := congrArg ByteArray.size h.2.2; rw [<- size_list2, strL_list, List.length_take, <- size_list2, hl] at h2; refine ⟨c, r, kd, hl, hb, h.2.1.symm, ?_⟩; rw [ho]; show _ = LR.tok kd (t.data.toList).length; rw [hl]
     congr 1
     omega
    ·cases h
theorem lx_ident {t : ByteArray} (h : aloneB t 1 = true) {s : Bs} (hs : idN s = 0) : Lx [some ⟨1, t, 0⟩] s /\ ∃ c r, bT t = c :: r /\ letB c = true := by
 obtain ⟨c, r, kn, e, hb, hk, ho⟩ := alone_one h; have hkn : kn = 1 := by omega
 subst hkn; have hlen : (bT t).length = r.length + 1 := by rw [e]; rfl
 have hlet : letB c = true := by
  by_cases hc : letB c = true
  ·exact hc
  ·exfalso
   rw [one1, if_neg hc] at ho
   have h4 : ∀ (q : Bs) (k : Nat), remT q k = .tok 1 (bT t).length -> k = 1 := fun q k hq => by
    unfold remT at hq; split at hq
    ·cases hq
    ·injection hq
   split at ho
   ·unfold num1 at ho; split at ho <;> cases ho
   split at ho
   ·unfold quo1 at ho; split at ho <;> cases ho
   split at ho
   ·cases ho
   split at ho
   ·exact absurd (h4 _ _ ho) (by decide)
   split at ho
   ·unfold aside1 at ho
    split at ho
    ·cases ho
    ·split at ho
     ·cases ho
     ·exact absurd (h4 _ _ ho) (by decide)
   split at ho
   ·cases ho
   ·cases ho
 refine ⟨Lx.tok rfl rfl ⟨c, r, e, hb⟩ ?_, c, r, e, hlet⟩; show one1 (bT t ++ s) = _; rw [e, List.cons_append]; rw [one1, if_pos hlet] at ho ⊢; rw [idN_stop hs, ho, e]
theorem lx_num {t : ByteArray} (h : aloneB t 2 = true) {s : Bs} (hs : NumStop s) : Lx [some ⟨2, t, 0⟩] s /\ ∃ c r, bT t = c :: r /\ dg c = true := by
 obtain ⟨c, r, kn, e, hb, hk, ho⟩ := alone_one h; have hkn : kn = 2 := by omega
 subst hkn
 have hlet : letB c = false := by
  by_cases hc : letB c = true
  ·rw [one1, if_pos hc] at ho; cases ho
  ·simpa using hc
 have hdg : dg c = true := by
  by_cases hd : dg c = true
  ·exact hd
  ·exfalso
   rw [one1, if_neg (by rw [hlet]; decide), if_neg hd] at ho
   have h4 : ∀ (q : Bs) (k : Nat), remT q k = .tok 2 (bT t).length -> k = 2 := fun q k hq => by
    unfold remT at hq; split at hq
    ·cases hq
    ·injection hq
   split at ho
   ·unfold quo1 at ho; split at ho <;> cases ho
   split at ho
   ·cases ho
   split at ho
   ·exact absurd (h4 _ _ ho) (by decide)
   split at ho
   ·unfold aside1 at ho
    split at ho
    ·cases ho
    ·split at ho
     ·cases ho
     ·exact absurd (h4 _ _ ho) (by decide)
   split at ho
   ·cases ho
   ·cases ho
 refine ⟨Lx.tok rfl rfl ⟨c, r, e, hb⟩ ?_, c, r, e, hdg⟩; show one1 (bT t ++ s) = _; rw [e, List.cons_append]; rw [one1, if_neg (by rw [hlet]; decide), if_pos hdg] at ho ⊢
 rw [<- List.cons_append, num1_app ho (by simp) hs, e]
theorem lx_text {t : ByteArray} (h : validB t = true) (s : Bs) : Lx [some ⟨3, quoS t, 0⟩] s /\ ∃ r, bT (quoS t) = 34 :: r := by
 have ht : Txt (bs t) := ⟨bs_lt, by unfold validB at h; simpa using h⟩
 have h1 := scan_print (m := []) ht (by intro x hx; cases hx)
 rw [List.append_nil] at h1
 have hb : nb (bT (quoS t)) = printQ (bs t) := by
  show bs (quoS t) = _; unfold quoS; exact bs_un (printQ_byt2 ht.1)
 obtain ⟨r, hr⟩ : ∃ r, bT (quoS t) = 34 :: r := by
  cases hq : bT (quoS t) with
  | nil => rw [hq] at hb; simp [printQ, nb] at hb
  | cons c r =>
   rw [hq] at hb; simp only [nb, List.map_cons, printQ, List.cons.injEq] at hb; have : c = 34 := UInt8.toNat_inj.1 hb.1; exact ⟨r, by rw [this]⟩
 refine ⟨Lx.tok rfl rfl ⟨34, r, hr, rfl⟩ ?_, r, hr⟩; show one1 (bT (quoS t) ++ s) = _
 have hq : quo1 (bT (quoS t)) = .tok 3 (bT (quoS t)).length := by
  unfold quo1; rw [hb, h1]; have : (printQ (bs t)).length = (bT (quoS t)).length := by rw [<- hb]; simp [nb]
  simp only [this]; rfl
 have ho : one1 (bT (quoS t) ++ s) = quo1 (bT (quoS t) ++ s) := by
  rw [hr, List.cons_append, one1, if_neg (by decide), if_neg (by decide), if_pos rfl]
 rw [ho, quo1_app hq]
def sgnL : List Bs := [[40], [41], [91], [93], [44], [46], [33], [45], [63], [58], [124, 124], [38, 38], [61, 61], [33, 61], [60], [62], [60, 61], [62, 61], [43], [42], [47], [37]]
theorem one1_sgn {w : Bs} (h : w ∈ sgnL) {s : Bs} (hs : NoD s) : one1 (w ++ s) = .tok 4 w.length /\ ∃ c r, w = c :: r /\ blankB c = false := by
 simp only [sgnL, List.mem_cons, List.not_mem_nil, or_false] at h
 cases s with
 | nil =>
  rcases h with rfl | rfl | rfl | rfl | rfl | rfl | rfl | rfl | rfl | rfl | rfl | rfl | rfl | rfl | rfl | rfl | rfl | rfl | rfl | rfl | rfl | rfl
  all_goals exact ⟨by kernel_rfl, _, _, rfl, rfl⟩
 | cons c b =>
  obtain ⟨h1, h2, h3, h4, h5⟩ := hs c b rfl; have g1 : (61 == c) = false := by rw [beq_eq_false_iff_ne]; exact fun e => h1 e.symm
  have g2 : (38 == c) = false := by rw [beq_eq_false_iff_ne]; exact fun e => h2 e.symm
  have g3 : (124 == c) = false := by rw [beq_eq_false_iff_ne]; exact fun e => h3 e.symm
  rcases h with rfl | rfl | rfl | rfl | rfl | rfl | rfl | rfl | rfl | rfl | rfl | rfl | rfl | rfl | rfl | rfl | rfl | rfl | rfl | rfl | rfl | rfl
  all_goals
   refine ⟨?_, _, _, rfl, rfl⟩; simp [one1, sgN, dbls, sgls, letB, dg, dig, List.isPrefixOf, g1, g2, g3, h4, h5]
theorem lx_sgn {w : ByteArray} (h : bT w ∈ sgnL) {s : Bs} (hs : NoD s) : Lx [pS w] s := by
 obtain ⟨h1, h2⟩ := one1_sgn h hs; exact Lx.tok (k := 4) rfl rfl h2 h1
theorem nod_cons {c : UInt8} (h : c ≠ 61 /\ c ≠ 38 /\ c ≠ 124 /\ c ≠ 47 /\ c ≠ 42) (b : Bs) : NoD (c :: b) := fun _ _ e => by cases e; exact h
theorem stop_c {c : UInt8} (h : c = 32 \/ c = 41 \/ c = 44 \/ c = 93 \/ c = 91) (b : Bs) : StopB (c :: b) := by
 refine .inr ⟨c, b, rfl, ?_⟩; rcases h with h | h | h | h | h
 ·exact .inl h
 ·exact .inr (.inl h)
 ·exact .inr (.inr (.inl h))
 ·exact .inr (.inr (.inr (.inl h)))
 ·exact .inr (.inr (.inr (.inr (.inl h))))
structure LxE (P : Pcs) : Prop where
 lx : ∀ s, StopB s -> Lx P s
 nod : ∀ s, NoD (catP P ++ s)
theorem LxE.brk {e : Exp} (h : LxE (pcX e)) (n : Int) : LxE (brk n (lvN e.op, pcX e)) := by
 unfold Go.Proofs.YthbhknfhmkhfgaaGreatDoor.brk; split
 ·exact h
 ·refine ⟨fun s hs => ?_, fun s => nod_cons (by decide) _⟩
  have h1 : Lx [pS sLp] (catP (pcX e ++ [pS sRp]) ++ s) := lx_sgn (by decide) (by rw [catP_app, List.append_assoc]; exact h.nod _)
  have h2 : Lx (pcX e) (catP [pS sRp] ++ s) := h.lx _ (stop_c (.inr (.inl rfl)) _); have h3 : Lx [pS sRp] s := lx_sgn (by decide) hs.nod
  exact h1.app (h2.app h3)
theorem coms_lx : ∀ (l : List Exp), (∀ k ∈ l, LxE (pcX k)) -> ∀ (c : UInt8) (b : Bs), c = 41 \/ c = 93 -> Lx (commas ((pcs l).map (·.2))) (c :: b) /\ NoD (catP (commas ((pcs l).map (·.2))) ++ c :: b)
 | [], _, c, b, hc => ⟨fun p => ⟨[], rfl, rfl⟩, nod_cons (by rcases hc with rfl | rfl <;> decide) b⟩
 | [a], h, c, b, hc => by
  have ha := h a (by simp)
  simp only [pcs, List.map_cons, List.map_nil, commas]; exact ⟨ha.lx _ (stop_c (hc.elim (fun e => .inr (.inl e)) (fun e => .inr (.inr (.inr (.inl e))))) b), ha.nod _⟩
 | a :: d :: r, h, c, b, hc => by
  have ha := h a (by simp)
  obtain ⟨i1, i2⟩ := coms_lx (d :: r) (fun k hk => h k (by simp [hk])) c b hc
  simp only [pcs, List.map_cons, commas] at i1 i2 ⊢; generalize commas (pcX d :: (pcs r).map (·.2)) = R at *; constructor
  ·have h1 : Lx (pcX a) (catP (pS sComma :: none :: R) ++ c :: b) := ha.lx _ (stop_c (.inr (.inr (.inl rfl))) _)
   have h2 : Lx [pS sComma] (catP (none :: R) ++ c :: b) := lx_sgn (by decide) (nod_cons (by decide) _)
   exact h1.app (h2.app ((Lx.blank _).app i1))
  ·rw [catP_app, List.append_assoc]
   exact ha.nod _
theorem pc_name (t : ByteArray) (ks : List Exp) : pcX (.mk oName t ks) = [some ⟨1, t, 0⟩] := by simp only [pcX, pcK, if_true]
theorem pc_num (t : ByteArray) (ks : List Exp) : pcX (.mk oNum t ks) = [some ⟨2, t, 0⟩] := by
 simp only [pcX, pcK]; rw [if_neg (by decide), if_pos trivial]
theorem pc_text (t : ByteArray) (ks : List Exp) : pcX (.mk oText t ks) = [some ⟨3, quoS t, 0⟩] := by
 simp only [pcX, pcK]; rw [if_neg (by decide), if_neg (by decide), if_pos trivial]
theorem pc_call (t : ByteArray) (ks : List Exp) : pcX (.mk oCall t ks) = some ⟨1, t, 0⟩ :: pS sLp :: (commas ((pcs ks).map (·.2)) ++ [pS sRp]) := by
 simp only [pcX, pcK]; rw [if_neg (by decide), if_neg (by decide), if_neg (by decide), if_pos trivial]
theorem pc_list (t : ByteArray) (ks : List Exp) : pcX (.mk oList t ks) = pS sLb :: (commas ((pcs ks).map (·.2)) ++ [pS sRb]) := by
 simp only [pcX, pcK]; rw [if_neg (by decide), if_neg (by decide), if_neg (by decide), if_neg (by decide), if_pos trivial]
theorem pc_get (t : ByteArray) (a : Exp) : pcX (.mk oGet t [a]) = brk 8 (lvN a.op, pcX a) ++ [pS sDot, some ⟨1, t, 0⟩] := by
 simp only [pcX, pcK, pcs]; rw [if_neg (by decide), if_neg (by decide), if_neg (by decide), if_neg (by decide), if_neg (by decide), if_pos trivial]
theorem pc_at (t : ByteArray) (a b : Exp) : pcX (.mk oAt t [a, b]) = brk 8 (lvN a.op, pcX a) ++ pS sLb :: (pcX b ++ [pS sRb]) := by
 simp only [pcX, pcK, pcs]; rw [if_neg (by decide), if_neg (by decide), if_neg (by decide), if_neg (by decide), if_neg (by decide), if_pos trivial]
theorem pc_neg (t : ByteArray) (a : Exp) : pcX (.mk oNeg t [a]) = pS sMinus :: brk 7 (lvN a.op, pcX a) := by
 simp only [pcX, pcK, pcs]; rw [if_neg (by decide), if_neg (by decide), if_neg (by decide), if_neg (by decide), if_neg (by decide), if_neg (by decide), if_pos trivial]
theorem pc_bang (t : ByteArray) (a : Exp) : pcX (.mk sBang t [a]) = pS sBang :: brk 7 (lvN a.op, pcX a) := by
 simp only [pcX, pcK, pcs]; rw [if_neg (by decide), if_neg (by decide), if_neg (by decide), if_neg (by decide), if_neg (by decide), if_neg (by decide), if_neg (by decide)]
theorem pc_choice (t : ByteArray) (a b c : Exp) : pcX (.mk sQ t [a, b, c]) = brk 1 (lvN a.op, pcX a) ++ none :: pS sQ :: none :: (pcX b ++ none :: pS sCo :: none :: pcX c) := by
 simp only [pcX, pcK, pcs]; rw [if_neg (by decide), if_neg (by decide), if_neg (by decide), if_neg (by decide), if_neg (by decide)]
theorem pc_two {o : ByteArray} (t : ByteArray) (a b : Exp) (h : o ≠ oName /\ o ≠ oNum /\ o ≠ oText /\ o ≠ oCall /\ o ≠ oList /\ o ≠ oAt) : pcX (.mk o t [a, b]) = brk (lvN o) (lvN a.op, pcX a) ++ none :: pS o :: none :: brk (lvN o + 1) (lvN b.op, pcX b) := by
 simp only [pcX, pcK, pcs]; rw [if_neg h.1, if_neg h.2.1, if_neg h.2.2.1, if_neg h.2.2.2.1, if_neg h.2.2.2.2.1, if_neg h.2.2.2.2.2]
theorem nod_let {c : UInt8} (h : letB c = true \/ dg c = true) (b : Bs) : NoD (c :: b) := by
 refine nod_cons ⟨?_, ?_, ?_, ?_, ?_⟩ b
 all_goals
  intro e; subst e
  revert h
  decide
theorem lx_step (o t : ByteArray) (ks : List Exp) (hs : Shp o t ks) (h : ∀ k ∈ ks, LxE (pcX k)) : LxE (pcX (.mk o t ks)) := by
 cases hs with
 | name _ ha =>
  rw [pc_name]; obtain ⟨-, c, r, e, hc⟩ := lx_ident ha (s := []) rfl; refine ⟨fun s hs => (lx_ident ha hs.id).1, fun s => ?_⟩; simp only [catP, e, List.append_nil, List.cons_append]; exact nod_let (.inl hc) _
 | num _ ha =>
  rw [pc_num]; obtain ⟨-, c, r, e, hc⟩ := lx_num ha (s := []) (StopB.num (.inl rfl)); refine ⟨fun s hs => (lx_num ha hs.num).1, fun s => ?_⟩; simp only [catP, e, List.append_nil, List.cons_append]; exact nod_let (.inr hc) _
 | text _ ha =>
  rw [pc_text]; obtain ⟨-, r, e⟩ := lx_text ha []; refine ⟨fun s hs => (lx_text ha s).1, fun s => ?_⟩; simp only [catP, e, List.append_nil, List.cons_append]; exact nod_cons (by decide) _
 | call _ _ ha =>
  rw [pc_call]; obtain ⟨-, c, r, e, hc⟩ := lx_ident ha (s := []) rfl; refine ⟨fun s hs => ?_, fun s => ?_⟩
  ·obtain ⟨i1, i2⟩ := coms_lx ks h 41 s (.inl rfl)
   have h1 : Lx [some ⟨1, t, 0⟩] (catP (pS sLp :: (commas ((pcs ks).map (·.2)) ++ [pS sRp])) ++ s) := (lx_ident ha (by show idN (40 :: (catP (commas ((pcs ks).map (·.2)) ++ [pS sRp]) ++ s)) = 0; simp [idN, show idB 40 = false from rfl])).1
   have h2 : Lx [pS sLp] (catP (commas ((pcs ks).map (·.2)) ++ [pS sRp]) ++ s) := lx_sgn (by decide) (by rw [catP_app, List.append_assoc]; exact i2)
   have h3 : Lx [pS sRp] s := lx_sgn (by decide) hs.nod
   have i1 : Lx (commas ((pcs ks).map (·.2))) (catP [pS sRp] ++ s) := i1; exact h1.app (h2.app (i1.app h3))
  ·simp only [catP, e, List.cons_append]
   exact nod_let (.inl hc) _
 | list _ =>
  rw [pc_list]; refine ⟨fun s hs => ?_, fun s => nod_cons (by decide) _⟩
  obtain ⟨i1, i2⟩ := coms_lx ks h 93 s (.inr rfl); have h2 : Lx [pS sLb] (catP (commas ((pcs ks).map (·.2)) ++ [pS sRb]) ++ s) := lx_sgn (by decide) (by rw [catP_app, List.append_assoc]; exact i2)
  have h3 : Lx [pS sRb] s := lx_sgn (by decide) hs.nod
  have i1 : Lx (commas ((pcs ks).map (·.2))) (catP [pS sRb] ++ s) := i1; exact h2.app (i1.app h3)
 | get _ a ha =>
  have hA := (h a (by simp)).brk 8
  rw [pc_get]; obtain ⟨-, c, r, e, hc⟩ := lx_ident ha (s := []) rfl; refine ⟨fun s hs => ?_, fun s => by rw [catP_app, List.append_assoc]; exact hA.nod _⟩
  have h1 : Lx (brk 8 (lvN a.op, pcX a)) (catP [pS sDot, some ⟨1, t, 0⟩] ++ s) := hA.lx _ (.inr ⟨46, bT t ++ s, by simp only [catP, List.append_nil, List.append_assoc]; rfl, .inr (.inr (.inr (.inr (.inr ⟨rfl, c, r ++ s, by rw [e]; rfl, hc⟩))))⟩)
  have h2 : Lx [pS sDot] (catP [some ⟨1, t, 0⟩] ++ s) := lx_sgn (by decide) (by simp only [catP, e, List.append_nil, List.cons_append]; exact nod_let (.inl hc) _)
  have h3 : Lx [some ⟨1, t, 0⟩] s := (lx_ident ha hs.id).1; exact h1.app (h2.app h3)
 | at_ a b =>
  have hA := (h a (by simp)).brk 8
  have hB := h b (by simp)
  rw [pc_at]; refine ⟨fun s hs => ?_, fun s => by rw [catP_app, List.append_assoc]; exact hA.nod _⟩
  have h1 : Lx (brk 8 (lvN a.op, pcX a)) (catP (pS sLb :: (pcX b ++ [pS sRb])) ++ s) := hA.lx _ (stop_c (.inr (.inr (.inr (.inr rfl)))) _); have h2 : Lx [pS sLb] (catP (pcX b ++ [pS sRb]) ++ s) := lx_sgn (by decide) (by rw [catP_app, List.append_assoc]; exact hB.nod _)
  have h3 : Lx (pcX b) (catP [pS sRb] ++ s) := hB.lx _ (stop_c (.inr (.inr (.inr (.inl rfl)))) _); have h4 : Lx [pS sRb] s := lx_sgn (by decide) hs.nod
  exact h1.app (h2.app (h3.app h4))
 | bang a =>
  have hA := (h a (by simp)).brk 7
  rw [pc_bang]; refine ⟨fun s hs => ?_, fun s => nod_cons (by decide) _⟩
  have h1 : Lx [pS sBang] (catP (brk 7 (lvN a.op, pcX a)) ++ s) := lx_sgn (by decide) (hA.nod _)
  exact h1.app (hA.lx s hs)
 | neg a =>
  have hA := (h a (by simp)).brk 7
  rw [pc_neg]; refine ⟨fun s hs => ?_, fun s => nod_cons (by decide) _⟩
  have h1 : Lx [pS sMinus] (catP (brk 7 (lvN a.op, pcX a)) ++ s) := lx_sgn (by decide) (hA.nod _)
  exact h1.app (hA.lx s hs)
 | choice a b c =>
  have hA := (h a (by simp)).brk 1
  have hB := h b (by simp)
  have hC := h c (by simp)
  rw [pc_choice]; refine ⟨fun s hs => ?_, fun s => by rw [catP_app, List.append_assoc]; exact hA.nod _⟩
  have h1 := hA.lx (catP (none :: pS sQ :: none :: (pcX b ++ none :: pS sCo :: none :: pcX c)) ++ s) (stop_c (.inl rfl) _); have h2 : Lx [pS sQ] (catP (none :: (pcX b ++ none :: pS sCo :: none :: pcX c)) ++ s) := lx_sgn (by decide) (nod_cons (by decide) _)
  have h3 := hB.lx (catP (none :: pS sCo :: none :: pcX c) ++ s) (stop_c (.inl rfl) _); have h4 : Lx [pS sCo] (catP (none :: pcX c) ++ s) := lx_sgn (by decide) (nod_cons (by decide) _)
  have h5 := hC.lx s hs; exact h1.app ((Lx.blank _).app (h2.app ((Lx.blank _).app (h3.app ((Lx.blank _).app (h4.app ((Lx.blank _).app h5)))))))
 | two _ lv a b hl h1 h6 hne hmem =>
  have hA := (h a (by simp)).brk (lvN o)
  have hB := (h b (by simp)).brk (lvN o + 1)
  have ho : bT o ∈ sgnL := by
   obtain ⟨x, hx, rfl⟩ := List.mem_map.1 hmem; show (strL x).data.toList ∈ sgnL; rw [strL_list]; simp only [List.mem_cons, List.not_mem_nil, or_false] at hx; rcases hx with rfl | rfl | rfl | rfl | rfl | rfl | rfl | rfl | rfl | rfl | rfl | rfl | rfl <;> decide
  rw [pc_two _ a b hne]; refine ⟨fun s hs => ?_, fun s => by rw [catP_app, List.append_assoc]; exact hA.nod _⟩
  have h1 := hA.lx (catP (none :: pS o :: none :: brk (lvN o + 1) (lvN b.op, pcX b)) ++ s) (stop_c (.inl rfl) _); have h2 : Lx [pS o] (catP (none :: brk (lvN o + 1) (lvN b.op, pcX b)) ++ s) := lx_sgn ho (nod_cons (by decide) _)
  exact h1.app ((Lx.blank _).app (h2.app ((Lx.blank _).app (hB.lx s hs))))
theorem lx_upto : ∀ (n : Nat) (e : Exp), e.bulk <= n -> rightX e = true -> LxE (pcX e)
 | 0, e, hb, _ => by have := bulkX_pos e; omega
 | n + 1, .mk o t ks, hb, hr => by
  obtain ⟨h1, h2⟩ := Shp.ok hr; refine lx_step o t ks h1 (fun k hk => ?_); obtain ⟨j, hj, rfl⟩ := List.mem_iff_getElem.1 hk; have hbk := bulkX_kid hj; simp only [Exp.bulk] at hb; exact lx_upto n _ (by omega) (h2 _ hk)
theorem lex_print {e : Exp} (h : rightX e = true) : ∃ toks : List Tok, lexP (catP (pcX e)) = (toks, -1, 0) /\ toks.map np = prX e := by
 obtain ⟨toks, h1, h2⟩ := (lx_upto _ e (Nat.le_refl _) h).lx [] (.inl rfl) 0; rw [List.append_nil, lexL_nil] at h1; refine ⟨toks, ?_, h2⟩; unfold lexP; rw [h1]; simp
theorem np_kt : KT np := fun _ => ⟨rfl, rfl⟩
theorem print_again {e : Exp} (h : rightX e = true) : ∃ toks : List Tok, lexP (catP (pcX e)) = (toks, -1, 0) /\ toks.length = (prX e).length /\ parE toks = parE (prX e) /\ (parE toks = (e, toks.length, 0) \/ (parE toks).2.2 = 4 \/ (parE toks).2.2 = 5) := by
 obtain ⟨toks, h1, h2⟩ := lex_print h; have h3 : parE toks = parE (prX e) := by rw [<- h2, parE_map np_kt]
 have h4 : toks.length = (prX e).length := by rw [<- h2, List.length_map]
 exact ⟨toks, h1, h4, h3, by rw [h3, h4]; exact parE_print h⟩
end Go.Proofs.YthbhknfhmkhfgaaGreatDoor
namespace Go.Proofs.YthbhknfhmkhfgaaGreatDoor
set_option maxRecDepth 100000
set_option maxHeartbeats 20000000
open Go.RowKit Go.Tab
theorem inPr : BldIn 60 4 0 := ⟨by decide, by kernel_rfl, by decide⟩
def BesP (g : Nat) (w w' : World) : Prop :=
 w.heap.size <= w'.heap.size /\ ∀ k o, k ≠ g -> w.heap[k]? = some o -> (∀ cs fr, o ≠ .cells cs 5 fr) -> (∀ cs fr, o ≠ .cells cs 36 fr) -> w'.heap[k]? = some o
theorem BesP.refl {g : Nat} {w : World} : BesP g w w := ⟨Nat.le_refl _, fun _ _ _ h _ _ => h⟩
theorem BesP.trans {g : Nat} {w w' w'' : World} (h : BesP g w w') (h2 : BesP g w' w'') : BesP g w w'' :=
 ⟨Nat.le_trans h.1 h2.1, fun k o hk ho h3 h4 => h2.2 k o hk (h.2 k o hk ho h3 h4) h3 h4⟩
theorem BesP.of {g : Nat} {w w' : World} (h : Beside 5 g w w') : BesP g w w' := ⟨h.1, fun k o hk ho h3 _ => h.2 k o hk ho h3⟩
theorem BesP.drew {g : Nat} {w w' : World} (h : BesP g w w') : BesP g w w'.drew := h
theorem BesP.alloc {g : Nat} {w w' : World} (h : BesP g w w') (o : Obj) : BesP g w (w'.alloc o) :=
 h.trans ⟨by simp, fun k o' _ ho _ _ => ((World.grownBy_alloc w' o none).block k (Array.getElem?_eq_some_iff.1 ho).1 (by simp)).trans ho⟩
theorem BesP.setCell {g : Nat} {w w' : World} (h : BesP g w w') (j : Nat) (v : Value) : BesP g w (w'.setCell ⟨g, j, none⟩ v) :=
 h.trans ⟨by simp [World.setCell], fun k o' hk ho _ _ => by rw [Below.heap_setCell _ _ _ _ hk]; exact ho⟩
theorem BesP.grown {g : Nat} {w w' w'' : World} {row : Option Nat} (h : BesP g w w') (hg : w'.grownBy w'' row) (hr : ∀ k, row = some k -> ∃ cs fr, w'.heap[k]? = some (.cells cs 36 fr)) : BesP g w w'' :=
 h.trans ⟨hg.size, fun k o hk ho _ hn => by
  refine (hg.block k (Array.getElem?_eq_some_iff.1 ho).1 ?_).trans ho; intro e; obtain ⟨cs, fr, hc⟩ := hr k e.symm
  rw [ho] at hc; cases hc; exact hn _ _ rfl⟩
theorem BesP.cells {g : Nat} {w w' : World} (h : BesP g w w') {k : Nat} {cs : Array Value} {t : TypeId} (hc : Cells w k cs t) (hk : k ≠ g) (h1 : t ≠ 5) (h2 : t ≠ 36) : Cells w' k cs t :=
 h.2 k _ hk hc (fun _ _ e => by cases e; exact h1 rfl) (fun _ _ e => by cases e; exact h2 rfl)
def wt (P : Pcs) : Nat := (catP P).length + P.length
theorem wt_app (P Q : Pcs) : wt (P ++ Q) = wt P + wt Q := by unfold wt; rw [catP_app, List.length_append, List.length_append]; omega
theorem tk_le (P : Pcs) : (tkP P).length <= P.length := List.length_filterMap_le _ _
def Prn (B : Nat) (w : World) (g : Nat) (P : Pcs) (n : Nat) : Prop :=
 ∃ (ad : Option Addr) (bv tv : Value) (ts : List Tok), Cells w g #[.pointer ad, bv, tv, .int .i64 (n : Nat)] 60 /\ (ad = none \/ ad = some ⟨g, 0, none⟩) /\ OwnU B w bv (catP P) /\ OwnT B w tv ts /\ ts.map np = tkP P
def Prt (B g : Nat) (P Q : Pcs) (n m : Nat) (w : World) (e : Ending) (w' : World) : Prop :=
 e = .returned (.tuple #[]) /\ Prn B w' g (P ++ Q) (n + m) /\ Below B w w' /\ BesP g w w'
theorem ownT_row {base : Nat} {w : World} {v : Value} {l : List Tok} (h : OwnT base w v l) : ∀ k, v.ownBlock = some k -> ∃ cs fr, w.heap[k]? = some (.cells cs 36 fr) := by
 intro k hk; rcases h.2 with ⟨rfl, _⟩ | ⟨b, cap, cur, rfl, _, hg, _⟩
 ·simp [Value.ownBlock] at hk
 ·simp only [Value.ownBlock, Option.some.injEq] at hk
  subst hk; exact ⟨_, _, hg⟩
theorem ownU_ne {base : Nat} {w : World} {v tv : Value} {l : List UInt8} {ts : List Tok} (h : OwnU base w v l) (h2 : OwnT base w tv ts) (k : Nat) (hk : v.ownBlock = some k) : tv.ownBlock ≠ some k := by
 intro e; obtain ⟨c1, f1, h3⟩ := own_is_row h k hk; obtain ⟨c2, f2, h4⟩ := ownT_row h2 k e; rw [h3] at h4; simp only [Option.some.injEq, Obj.cells.injEq] at h4; exact absurd h4.2.1 (by decide)
theorem ownT_box {base : Nat} {w : World} {v : Value} {l : List Tok} (h : OwnT base w v l) {g : Nat} {cs : Array Value} {t : TypeId} (hc : Cells w g cs t) (ht : t ≠ 36) : v.ownBlock ≠ some g := by
 intro e; obtain ⟨c1, f1, h3⟩ := ownT_row h g e; have hc' : w.heap[g]? = some (.cells cs t (0, 0)) := hc; rw [h3] at hc'; simp only [Option.some.injEq, Obj.cells.injEq] at hc'; exact ht hc'.2.1.symm
theorem Len_any (w : World) (g : Nat) (a : Option Addr) (n c : Nat) (h : w.cell? ⟨g, 1, none⟩ = some (.slice a n c)) : Calls Tryz.prog 24 #[.pointer (some ⟨g, 0, none⟩)] w fun e w' => e = .returned (.int .i64 n) /\ w = w' := by
 go_enter Tryz.func24, Tryz.ntmps24; go_wp2; go_ret; exact ⟨rfl, rfl⟩
theorem put_mid {B g n : Nat} {w W w3 : World} {P : Pcs} {ad : Option Addr} {bv tv : Value} {ts : List Tok} {g3 cap3 : Nat} {t : Tok} (hB : B <= g) (hc : Cells w g #[.pointer ad, bv, tv, .int .i64 (n : Nat)] 60) (hU : OwnU B w bv (catP P)) (hT : OwnT B w tv ts)
  (hW : ∀ k, k < w.heap.size -> W.heap[k]? = w.heap[k]?) (hb : Below w.heap.size w W) (h1 : w3.ownsRow B 36 3 (.slice (some ⟨g3, 0, none⟩) (ts.length + 1) cap3) (ts.length + 1) (ts.flatMap tokC ++ tokC t)) (h2 : W.grownBy w3 tv.ownBlock) :
  Cells (w3.setCell ⟨g, 2, none⟩ (.slice (some ⟨g3, 0, none⟩) (ts.length + 1) cap3)) g #[.pointer ad, bv, .slice (some ⟨g3, 0, none⟩) (ts.length + 1) cap3, .int .i64 (n : Nat)] 60 /\ OwnU B (w3.setCell ⟨g, 2, none⟩ (.slice (some ⟨g3, 0, none⟩) (ts.length + 1) cap3)) bv (catP P) /\
  OwnT B (w3.setCell ⟨g, 2, none⟩ (.slice (some ⟨g3, 0, none⟩) (ts.length + 1) cap3)) (.slice (some ⟨g3, 0, none⟩) (ts.length + 1) cap3) (ts ++ [t]) /\ Below B w (w3.setCell ⟨g, 2, none⟩ (.slice (some ⟨g3, 0, none⟩) (ts.length + 1) cap3)) /\ BesP g w (w3.setCell ⟨g, 2, none⟩ (.slice (some ⟨g3, 0, none⟩) (ts.length + 1) cap3)) := by
 have hgl := hc.lt; have hcW : Cells W g #[.pointer ad, bv, tv, .int .i64 (n : Nat)] 60 := (hW g hgl).trans hc; have hgT : tv.ownBlock ≠ some g := ownT_box hT hc (by decide)
 have hc3 := hcW.kept h2 (fun e => hgT e.symm); have hBw : B <= w.heap.size := by omega
 have hT1 : OwnT B w3 (.slice (some ⟨g3, 0, none⟩) (ts.length + 1) cap3) (ts ++ [t]) := by
  unfold OwnT; rw [List.length_append, List.flatMap_append]
  simpa using h1
 have hTw : ∀ k, tv.ownBlock = some k -> ∃ cs fr, W.heap[k]? = some (.cells cs 36 fr) := fun k hk => by
  obtain ⟨cs, fr, h3⟩ := ownT_row hT k hk; exact ⟨cs, fr, (hW k (World.ownsRow.lt hT k hk).2).trans h3⟩
 have hU3 : OwnU B w3 bv (catP P) := by
  have hUW : OwnU B W bv (catP P) := OwnOf.moved hU (fun k hk => hW k (World.ownsRow.lt hU k hk).2); refine OwnOf.kept hUW h2 ?_
  cases hq : bv.ownBlock with
  | none => exact .inl rfl
  | some k => exact .inr (fun e => ownU_ne hU hT k hq e.symm)
 have hgb : bv.ownBlock ≠ some g := own_ne_box hU hc (by decide)
 have hg3 : (Value.slice (some ⟨g3, 0, none⟩) (ts.length + 1) cap3).ownBlock ≠ some g := ownT_box hT1 hc3 (by decide)
 refine ⟨hc3.set 2 (by simp) _, OwnOf.setOther hU3 ⟨g, 2, none⟩ _ hgb, ?_, ?_, ?_⟩
 ·exact hT1.moved (fun k hk => Below.heap_setCell _ _ _ _ (fun e => hg3 (by rw [hk]; exact congrArg some e)))
 ·exact ((hb.mono hBw).trans (grown_below h2 (Nat.le_trans hBw hb.size) (fun k hk => (World.ownsRow.lt hT k hk).1))).setCell hB _
 ·exact ((show BesP g w W from ⟨hb.size, fun k o _ ho _ _ => (hW k (Array.getElem?_eq_some_iff.1 ho).1).trans ho⟩).grown h2 hTw).setCell 2 _
theorem used_prn {B g n : Nat} {w4 w5 : World} {ad : Option Addr} {bv tv : Value} {ts : List Tok} {l : List UInt8} {cs5 : Array Value} (hT : OwnT B w4 tv ts) (hc : Cells w4 g #[.pointer ad, bv, tv, .int .i64 (n : Nat)] 60)
  (hB5 : Bld 60 B w5 g 0 cs5 l) (hU : Used g 0 #[.pointer ad, bv, tv, .int .i64 (n : Nat)] cs5) (hs5 : Beside 5 g w4 w5) :
  ∃ v, Cells w5 g #[.pointer (some ⟨g, 0, none⟩), v, tv, .int .i64 (n : Nat)] 60 /\ OwnU B w5 v l /\ OwnT B w5 tv ts := by
 obtain ⟨hc5, ha5, v, hv, hown⟩ := hB5; obtain ⟨u1, u2, u3⟩ := hU; have e2 := u2 2 (by decide) (by decide)
 have e3 := u2 3 (by decide) (by decide)
 simp only [Nat.zero_add] at hv
 have hcs : cs5 = #[.pointer (some ⟨g, 0, none⟩), v, tv, .int .i64 (n : Nat)] := by
  apply Array.ext_getElem?
  intro j
  match j with
  | 0 => rw [u3]; rfl
  | 1 => rw [hv]; rfl
  | 2 => rw [e2]; rfl
  | 3 => rw [e3]; rfl
  | j + 4 =>
   rw [Array.getElem?_eq_none (by rw [u1]; simp), Array.getElem?_eq_none (by simp)]
 subst hcs; refine ⟨v, hc5, hown, hT.moved (fun k hk => ?_)⟩; obtain ⟨cs, fr, h⟩ := ownT_row hT k hk; rw [h]; exact hs5.2 k _ (fun e => ownT_box hT hc (by decide) (by rw [hk, e])) h (fun cs' fr' e => by cases e)
theorem put_end {B g n : Nat} {w w4 w5 : World} {P : Pcs} {ad : Option Addr} {bv tv : Value} {ts : List Tok} {t : Tok} {x : ByteArray} {cs5 : Array Value} (hT : OwnT B w4 tv (ts ++ [⟨t.kind, x, t.pos⟩])) (hts : ts.map np = tkP P) (hc : Cells w4 g #[.pointer ad, bv, tv, .int .i64 (n : Nat)] 60)
  (hB5 : Bld 60 B w5 g 0 cs5 (catP P ++ x.data.toList)) (hU : Used g 0 #[.pointer ad, bv, tv, .int .i64 (n : Nat)] cs5) (hb4 : Below B w w4) (hb5 : Below B w4 w5) (hs4 : BesP g w w4) (hs5 : Beside 5 g w4 w5) :
  Prt B g P [some ⟨t.kind, x, 0⟩] n 0 w (.returned (.tuple #[])) w5 := by
 obtain ⟨v, hc5, hown, hT5⟩ := used_prn hT hc hB5 hU hs5; refine ⟨rfl, ⟨_, v, tv, _, hc5, .inr rfl, ?_, hT5, ?_⟩, hb4.trans hb5, hs4.trans (.of hs5)⟩
 ·rw [catP_app]
  simp only [catP, List.append_nil]; exact hown
 ·rw [List.map_append, hts, tkP_app]
  rfl
theorem put_at {w : World} {B g : Nat} {tv : Value} {ts : List Tok} {cs : Array Value} (t : Tok) (hc : Cells w g cs 60) (hB : B <= g) (hT : OwnT B w tv ts) :
  ((w.alloc (.cells (tokC t).toArray 36)).drew.ownsRow B 36 3 tv ts.length (ts.flatMap tokC)) /\ (∀ (j : Nat) (u : Value), (tokC t)[j]? = some u -> (w.alloc (.cells (tokC t).toArray 36)).drew.cell? ⟨w.heap.size, j, none⟩ = some u) /\
  B <= (w.alloc (.cells (tokC t).toArray 36)).drew.heap.size /\ Below w.heap.size w (w.alloc (.cells (tokC t).toArray 36)).drew /\ Cells (w.alloc (.cells (tokC t).toArray 36)).drew g cs 60 /\ tv.ownBlock ≠ some g :=
 ⟨show (w.alloc _).ownsRow _ _ _ _ _ _ from World.ownsRow.alloc hT _, fun j u hu => by
  show (w.alloc _).cell? _ = _; rw [World.cell?_alloc_new]
  simpa using hu, by
  show B <= (w.alloc _).heap.size; have := hc.lt
  rw [World.size_alloc]; omega, ((Below.refl _ w).alloc (Nat.le_refl _) _).drew, hc.alloc _, ownT_box hT hc (by decide)⟩
theorem put_any (w : World) (B g n : Nat) (kd : Int) (P : Pcs) (x : ByteArray) (h : Prn B w g P n) (hB : B <= g) (hl : wt (P ++ [some ⟨kd, x, 0⟩]) <= 1000000) :
  Calls Tryz.prog 67 #[.pointer (some ⟨g, 0, none⟩), .int .i64 kd, .string x] w (Prt B g P [some ⟨kd, x, 0⟩] n 0 w) := by
 obtain ⟨ad, bv, tv, ts, hc, ha, hU, hT, hts⟩ := h; obtain ⟨i0, hi0, hi1⟩ := Option.map_eq_some_iff.1 Tryz.infoTok; simp only [Prod.mk.injEq] at hi1; obtain ⟨hz0, hz1, hz2⟩ := hi1; have hgl := hc.lt
 have htl : ts.length <= 1000000 := by
  have h1 : ts.length = (tkP P).length := by rw [<- hts, List.length_map]
  have := tk_le P; rw [wt_app] at hl; have : P.length <= wt P := by unfold wt; omega
  omega
 obtain ⟨ba, bn, bc, rfl, rfl⟩ := hU.row.shape; obtain ⟨ta, tc, rfl⟩ := hT.len; have HQ := Lib.hid (put_at ⟨kd, x, ((catP P).length : Nat)⟩ hc hB hT); have HH := Lib.hid (And.intro hc (And.intro ha (And.intro hU (And.intro hT hts)))); have HL := Lib.hid hl; have hcc0 := hc.cell 0 _ rfl; have hcf0 := hc.frozen 0; have hcc1 := hc.cell 1 _ rfl; have hcf1 := hc.frozen 1; have hcc2 := hc.cell 2 _ rfl; have hcf2 := hc.frozen 2; have hcc3 := hc.cell 3 _ rfl; have hcf3 := hc.frozen 3; have hLen := fun (W : World) (hW : W.cell? ⟨g, 1, none⟩ = some (.slice ba (catP P).length bc)) => Len_any W g ba (catP P).length bc hW; clear hc hU hT hts hl ha; go_enter Tryz.func67, Tryz.ntmps67; go_wp2_with fail
 go_region_law (first
  | (go_simp; go_at_call 24; refine (hLen _ (by assumption)).mono ?_; rintro _ _ ⟨rfl, rfl⟩)
  | (refine step_append_lies _ rfl _ _ 30 rfl B 36 i0 _ 3 32 Tryz.underlying30 hi0 hz0 hz1 hz2 rfl (by decide) (.slice ta ts.length tc) ts.length (ts.flatMap tokC) (by rfl) (by exact HQ.out.1) ⟨w.heap.size, 0, none⟩ 1 1 (tokC ⟨kd, x, (catP P).length⟩) (by rfl) rfl (by intro j u hu; rw [Addr.add_lit, Nat.zero_add]; exact HQ.out.2.1 j u hu) (tokC_one _) (by omega) (by unfold maxLen; omega) (by omega) (by exact HQ.out.2.2.1) _ rfl ?_; intro g3 cap3 w3 hown3 hgrow3 hat3 hlt3; have hgp := HQ.out.2.2.2.2.1.kept hgrow3 (fun q => HQ.out.2.2.2.2.2 q.symm); have o7c := hgp.cell 2 _ rfl; have o7f := hgp.frozen 2; have HG := Lib.hid (And.intro hown3 hgrow3); clear hown3 hgrow3 hat3 hgp))
 all_goals
  obtain ⟨p1, p2, p3, p4, p5⟩ := put_mid (t := ⟨kd, x, ((catP P).length : Nat)⟩) hB HH.out.1 HH.out.2.2.1 HH.out.2.2.2.1 (fun k hk => HQ.out.2.2.2.1.block k hk) HQ.out.2.2.2.1 HG.out.1 HG.out.2; generalize w3.setCell ⟨g, 2, none⟩ (.slice (some ⟨g3, 0, none⟩) (ts.length + 1) cap3) = w4 at *
  have hwx : (catP P).length + x.size <= 1000000000 := by
   have h1 := HL.out; rw [wt_app] at h1; unfold wt at h1; simp only [catP, List.append_nil] at h1; have h2 : (bT x).length = x.size := rfl; omega
  have hws := WriteString_any (T := 60) (base := B) (g := g) (o := 0) (cs := #[.pointer ad, .slice ba (catP P).length bc, .slice (some ⟨g3, 0, none⟩) (ts.length + 1) cap3, .int .i64 (n : Nat)]) w4 x ⟨p1, by rcases HH.out.2.1 with rfl | rfl; exact .inl rfl; exact .inr rfl, _, rfl, p2⟩ inPr hB hwx
  have H4 := Lib.hid (And.intro p3 (And.intro p4 (And.intro p5 p1))); clear p1 p2 p3 p4 p5 HQ HG hLen hcc0 hcc1 hcc2 hcc3 hcf0 hcf1 hcf2 hcf3 o7c o7f hz0 hz1 hz2 hi0 hwx; go_wp2_with fail; refine hws.mono ?_; clear hws; rintro _ w5 ⟨rfl, cs5, hB5, hU5, hb5, hs5⟩; go_wp2_with fail; refine bodyPost_end (v := .tuple #[]) (by simp [results, Tryz.results67, go_sem]) rfl ?_
  exact put_end (t := ⟨kd, x, ((catP P).length : Nat)⟩) (H4.out.1) HH.out.2.2.2.2 H4.out.2.2.2 hB5 hU5 H4.out.2.1 hb5 H4.out.2.2.1 hs5
theorem strOf_append (a b : List UInt8) : strOf a ++ strOf b = strOf (a ++ b) := by
 refine bs_inj ?_; simp [bs, strOf]
theorem un_append' (a b : List Nat) : strOf (un a) ++ strOf (un b) = strOf (un (a ++ b)) := by rw [strOf_append]; simp [un]
theorem un_length' (l : List Nat) : (un l).length = l.length := by simp [un]
theorem qrScan_any (s : ByteArray) (w : World) (hs : s.size <= 1048576) :
  Calls Tryz.prog 45 #[.string s] w fun e w' => e = .returned (partV (scanQ (bs s))) /\ Below w.heap.size w w' := by
 cases hq : bs s with
 | nil =>
  have HC : Hid (scanQ [] = errR 2) := Lib.hid rfl; have hz : s.size = 0 := by rw [<- bs_length, hq]; rfl
  have hb : ((s.size : Int) == 0) = true := by rw [beq_iff_eq]; omega
  clear hq hz; go_enter Tryz.func45, Tryz.ntmps45; go_wp2; refine bodyPost_ret (v := partV (errR 2)) (by simp [results, Tryz.results45, go_sem, partV, errR, un, strOf, *]) rfl ⟨by rw [HC.out], ?_⟩
  (repeat' first | with_reducible refine Below.setCell ?_ ?_ _ | with_reducible refine Below.alloc ?_ ?_ _ | with_reducible refine Below.drew ?_ | with_reducible refine below_drewN ?_ _ | with_reducible assumption | with_reducible exact Below.refl _ _ | (simp only [World.size_alloc, World.size_setCell, World.size_drew]; first | done | omega) | omega)
 | cons c r =>
  obtain ⟨hlt, hbv⟩ := bs_fact (s := s) (k := 0) (by rw [List.drop_zero]; exact hq)
  have hlt' : 0 < s.size := hlt; have hc : c < 256 := bs_lt c (by rw [hq]; simp)
  have hb0 : ((s.size : Int) == 0) = false := by rw [beq_eq_false_iff_ne]; omega
  by_cases hc34 : c = 34
  ·subst hc34
   have HQ : Hid (scanQ (bs s) = joinR [] 1 (bodyQ ((bs s).drop 1))) := Lib.hid (by rw [hq]; rfl)
   rw [<- hq]; have hx0 := Cells.new w #[.string ⟨#[]⟩, .int .i64 0, .int .i64 0] 87; have hbw : Below w.heap.size w (w.alloc (.cells #[.string ⟨#[]⟩, .int .i64 0, .int .i64 0] 87)) := (Below.refl _ w).alloc (Nat.le_refl _) _; clear hq; go_enter Tryz.func45, Tryz.ntmps45; go_wp2_with fail; go_loopw [3, 4] (fun sv at' wr => ∃ (k : Nat) (pre : List Nat) (S : ByteArray), sv = .string S /\ Hid (S = strOf (un pre)) /\ S.size <= 4 * k /\ at' = .int .i64 (k : Int) /\ k <= s.size /\ joinR pre k (bodyQ ((bs s).drop k)) = scanQ (bs s) /\ Cells wr w.heap.size #[.string ⟨#[]⟩, .int .i64 0, .int .i64 0] 87 /\ Below w.heap.size w wr) (fun _ at' _ => s.size - (intOf at').toNat)
   case atStart => exact ⟨1, [], _, rfl, Lib.hid rfl, by decide, rfl, by omega, HQ.out.symm, hx0, hbw⟩
   case round =>
    clear hx0 hbw HQ; obtain ⟨k, pre, S, rfl, HS, hSk, rfl, hk, hj, hx, hb⟩ := hrel; have HJ := Lib.hid hj; have hBy : Byt ((bs s).drop k) := fun x hx => bs_lt x (List.mem_of_mem_drop hx); have hP := fun W => rpart_any s k W hk hs; have hxl := hx.lt; clear hj
    by_cases hh : ((bs s).drop k).head? = some 34
    ·have HC : Hid (scanQ (bs s) = (pre, k + 1, 0)) := Lib.hid (by rw [<- HJ.out, joinR_end hBy hh])
     obtain ⟨t, ht⟩ : ∃ t, (bs s).drop k = 34 :: t := by
      cases hd : (bs s).drop k with
      | nil => rw [hd] at hh; simp at hh
      | cons a t => rw [hd] at hh; simp at hh; subst hh; exact ⟨t, rfl⟩
     obtain ⟨hlt2, hbv2⟩ := bs_fact ht; have hlt2' : k < s.size := hlt2; have hxc0 := hx.cell 0 _ rfl; have hxf0 := hx.frozen 0; have hxc1 := hx.cell 1 _ rfl; have hxf1 := hx.frozen 1; have hxc2 := hx.cell 2 _ rfl; have hxf2 := hx.frozen 2; clear hh ht hBy hP HJ; go_wp2; refine bodyPost_ret (v := .agg #[.string S, .int .i64 ((k : Int) + 1), .int .i64 0]) (by simp [results, Tryz.results45, go_sem, partV, errR, un, strOf, *]) rfl ⟨by rw [HC.out, HS.out]; rfl, ?_⟩
     (repeat' first | with_reducible refine Below.setCell ?_ ?_ _ | with_reducible refine Below.alloc ?_ ?_ _ | with_reducible refine Below.drew ?_ | with_reducible refine below_drewN ?_ _ | with_reducible assumption | with_reducible exact Below.refl _ _ | (simp only [World.size_alloc, World.size_setCell, World.size_drew]; first | done | omega) | omega)
    ·have hnot : ¬ k < s.size \/ (∃ (h : k < s.size), (((s[k]'h).toNat : Int) == 34) = false) := by
      cases hd : (bs s).drop k with
      | nil => exact .inl (by have := drop_nil_iff hk hd; omega)
      | cons a t =>
       obtain ⟨hlt2, hbv2⟩ := bs_fact hd; refine .inr ⟨hlt2, ?_⟩; rw [hbv2, beq_eq_false_iff_ne]; intro e; exact hh (by rw [hd]; simp; omega)
     have HN := Lib.hid (fun (he : (partQ ((bs s).drop k)).2.2 = 0) => joinR_good hBy hh he (pre := pre) (k := k)); have HB := Lib.hid (fun (he : (partQ ((bs s).drop k)).2.2 ≠ 0) => joinR_bad hBy hh he (pre := pre) (k := k)); have HO := Lib.hid (fun (he : (partQ ((bs s).drop k)).2.2 = 0) => partQ_ok hBy he); rw [List.length_drop, bs_length] at HO; rw [List.drop_drop] at HN; clear hh hBy; unfold partV at hP; generalize partQ ((bs s).drop k) = q at *; obtain ⟨o, z, e⟩ := q; simp only at hP HN HB HO; obtain ⟨O, hO⟩ : ∃ O, O = strOf (un o) := ⟨_, rfl⟩; rw [<- hO] at hP; have HOO := Lib.hid hO; clear hO
     by_cases he : e = 0
     ·subst he
      obtain ⟨c0, -, ho4, hz1, hz2⟩ := HO.out rfl; have hO4 : O.size <= 4 := by rw [HOO.out, strOf_size, un_length', ho4, putN_len]; exact (wid_pos c0).2
      clear ho4; have HN2 : Hid (joinR (pre ++ o) (k + z) (bodyQ ((bs s).drop (k + z))) = scanQ (bs s)) := Lib.hid (by rw [<- HJ.out, HN.out rfl])
      have HS2 : Hid (S ++ O = strOf (un (pre ++ o))) := Lib.hid (by rw [HS.out, HOO.out, un_append'])
      clear HN HB HO HJ; rcases hnot with hnot | ⟨hlt2, hnot⟩
      ·omega
      ·go_wp2_with fail
       refine (hP _).mono ?_; rintro e2 w2 ⟨rfl, hb2⟩; have hz3 := hb2.size; have hx2 := hx.below hb2 hxl; have hb3 := (hb.trans (hb2.mono hb.size)).alloc (by have := hb.size; omega) (.cells #[.string O, .int .i64 z, .int .i64 0] 87)
       have hx3 := hx2.alloc (.cells #[.string O, .int .i64 z, .int .i64 0] 87); clear hx hb hP; go_wp2; go_roundw
       case rel => exact ⟨k + z, pre ++ o, _, rfl, HS2, by rw [ByteArray.size_append]; omega, by go_num, by omega, HN2.out, hx3, hb3⟩
       case measure => simp [intOf]; omega
     ·have HC : Hid (scanQ (bs s) = errR e) := Lib.hid (by rw [<- HJ.out, HB.out he])
      have hbe : ((e : Int) != 0) = true := by rw [bne_iff_ne]; omega
      clear HN HB HO HJ he; rcases hnot with hnot | ⟨hlt2, hnot⟩
      all_goals
       go_wp2_with fail; refine (hP _).mono ?_; rintro e2 w2 ⟨rfl, hb2⟩; have hz3 := hb2.size; have hx2 := hx.below hb2 hxl; have hb3 := (hb.trans (hb2.mono hb.size)).alloc (by have := hb.size; omega) (.cells #[.string O, .int .i64 z, .int .i64 e] 87)
       have hx3 := hx2.alloc (.cells #[.string O, .int .i64 z, .int .i64 e] 87); clear hx hx2; have hx3c0 := hx3.cell 0 _ rfl; have hx3f0 := hx3.frozen 0; have hx3c1 := hx3.cell 1 _ rfl; have hx3f1 := hx3.frozen 1; have hx3c2 := hx3.cell 2 _ rfl; have hx3f2 := hx3.frozen 2; have hb2w := hb.trans (hb2.mono hb.size); clear hb hb2 hP; go_wp2; refine bodyPost_ret (v := partV (errR e)) (by simp [results, Tryz.results45, go_sem, partV, errR, un, strOf, *]) rfl ⟨by rw [HC.out], ?_⟩
       (repeat' first | with_reducible refine Below.setCell ?_ ?_ _ | with_reducible refine Below.alloc ?_ ?_ _ | with_reducible refine Below.drew ?_ | with_reducible refine below_drewN ?_ _ | with_reducible assumption | with_reducible exact Below.refl _ _ | (simp only [World.size_alloc, World.size_setCell, World.size_drew]; first | done | omega) | omega)
  ·have HC : Hid (scanQ (c :: r) = errR 3) := Lib.hid (by simp only [scanQ]; rw [if_pos hc34])
   have hbc : ((c : Int) != 34) = true := by rw [bne_iff_ne]; omega
   clear hq hc34; go_enter Tryz.func45, Tryz.ntmps45; go_wp2; refine bodyPost_ret (v := partV (errR 3)) (by simp [results, Tryz.results45, go_sem, partV, errR, un, strOf, *]) rfl ⟨by rw [HC.out], ?_⟩
   (repeat' first | with_reducible refine Below.setCell ?_ ?_ _ | with_reducible refine Below.alloc ?_ ?_ _ | with_reducible refine Below.drew ?_ | with_reducible refine below_drewN ?_ _ | with_reducible assumption | with_reducible exact Below.refl _ _ | (simp only [World.size_alloc, World.size_setCell, World.size_drew]; first | done | omega) | omega)
theorem shortB_cases {c : Nat} : c = 34 \/ c = 92 \/ c = 8 \/ c = 12 \/ c = 10 \/ c = 13 \/ c = 9 \/ (shortB c = 0 /\ c ≠ 34 /\ c ≠ 92 /\ c ≠ 8 /\ c ≠ 12 /\ c ≠ 10 /\ c ≠ 13 /\ c ≠ 9) := by
 by_cases h : c = 34 \/ c = 92 \/ c = 8 \/ c = 12 \/ c = 10 \/ c = 13 \/ c = 9
 ·omega
 ·refine .inr (.inr (.inr (.inr (.inr (.inr (.inr ⟨?_, by omega⟩))))))
  unfold shortB; rw [if_neg (by omega), if_neg (by omega), if_neg (by omega), if_neg (by omega), if_neg (by omega), if_neg (by omega)]
theorem shortFor_any (c : Nat) (w : World) : Calls Tryz.prog 125 #[.int .u8 (c : Int)] w fun e w' => e = .returned (.int .u8 (shortB c : Int)) /\ w = w' := by
 rcases @shortB_cases c with rfl | rfl | rfl | rfl | rfl | rfl | rfl | ⟨h0, h1, h2, h3, h4, h5, h6, h7⟩
 iterate 7
  ·go_enter Tryz.func125, Tryz.ntmps125
   go_wp2; go_ret; exact ⟨rfl, rfl⟩
 ·skip
  have b1 : ((c : Int) == 34) = false := by rw [beq_eq_false_iff_ne]; omega
  have b2 : ((c : Int) == 92) = false := by rw [beq_eq_false_iff_ne]; omega
  have b3 : ((c : Int) == 8) = false := by rw [beq_eq_false_iff_ne]; omega
  have b4 : ((c : Int) == 12) = false := by rw [beq_eq_false_iff_ne]; omega
  have b5 : ((c : Int) == 10) = false := by rw [beq_eq_false_iff_ne]; omega
  have b6 : ((c : Int) == 13) = false := by rw [beq_eq_false_iff_ne]; omega
  have b7 : ((c : Int) == 9) = false := by rw [beq_eq_false_iff_ne]; omega
  have H := Lib.hid h0; clear h0 h1 h2 h3 h4 h5 h6 h7; go_enter Tryz.func125, Tryz.ntmps125; go_wp2; go_ret; exact ⟨by rw [H.out]; rfl, rfl⟩
def shortL (c : Nat) : List Nat := if shortB c ≠ 0 then [shortB c] else []
theorem rshort_any (c : Nat) (w : World) : Calls Tryz.prog 52 #[.int .u8 (c : Int)] w fun e w' => e = .returned (.string (strOf (un (shortL c)))) /\ w = w' := by
 rcases @shortB_cases c with rfl | rfl | rfl | rfl | rfl | rfl | rfl | ⟨h0, h1, h2, h3, h4, h5, h6, h7⟩
 iterate 7
  ·go_enter Tryz.func52, Tryz.ntmps52
   go_wp2; go_ret; exact ⟨rfl, rfl⟩
 ·skip
  have b1 : ((c : Int) == 34) = false := by rw [beq_eq_false_iff_ne]; omega
  have b2 : ((c : Int) == 92) = false := by rw [beq_eq_false_iff_ne]; omega
  have b3 : ((c : Int) == 8) = false := by rw [beq_eq_false_iff_ne]; omega
  have b4 : ((c : Int) == 12) = false := by rw [beq_eq_false_iff_ne]; omega
  have b5 : ((c : Int) == 10) = false := by rw [beq_eq_false_iff_ne]; omega
  have b6 : ((c : Int) == 13) = false := by rw [beq_eq_false_iff_ne]; omega
  have b7 : ((c : Int) == 9) = false := by rw [beq_eq_false_iff_ne]; omega
  have H := Lib.hid h0; clear h0 h1 h2 h3 h4 h5 h6 h7; go_enter Tryz.func52, Tryz.ntmps52; go_wp2; go_ret; exact ⟨by unfold shortL; rw [H.out]; rfl, rfl⟩
theorem rdigit_any (n : Nat) (w : World) (hn : n < 16) : Calls Tryz.prog 53 #[.int .i64 (n : Int)] w fun e w' => e = .returned (.string (strOf (un [qdigB n]))) /\ Below w.heap.size w w' := by
 obtain ⟨S, hS⟩ : ∃ S, S = un [qdigB n] := ⟨_, rfl⟩
 by_cases h : n < 10
 ·have hcv := conv_back w S #[.int .u8 (48 + (n : Int))] 1 S rfl (by rw [hS]; simp [un, qdigB, h, byteV]; omega) (by rw [hS]; rfl)
  rw [<- hS]; have HS := Lib.hid hS; clear hS; go_enter Tryz.func53, Tryz.ntmps53; go_wp2; go_ret; exact ⟨rfl, (Below.refl _ _).alloc (Nat.le_refl _) _⟩
 ·have hcv := conv_back w S #[.int .u8 (97 + (n : Int) - 10)] 1 S rfl (by rw [hS]; simp [un, qdigB, h, byteV]; omega) (by rw [hS]; rfl)
  rw [<- hS]; have HS := Lib.hid hS; have h' : 10 <= n := by omega
  clear hS h; go_enter Tryz.func53, Tryz.ntmps53; go_wp2; go_ret; exact ⟨rfl, (Below.refl _ _).alloc (Nat.le_refl _) _⟩
theorem in2 : BldIn 58 2 0 := ⟨by decide, by kernel_rfl, by decide⟩
def PB (w : World) (g : Nat) (l : List UInt8) : Prop := ∃ cs, Bld 58 g w g 0 cs l /\ cs.size = 2
theorem PB.new (w : World) : PB (w.alloc (.cells #[.pointer none, .slice none 0 0] 58)) w.heap.size [] :=
 ⟨_, ⟨Cells.new w _ _, .inl rfl, _, rfl, OwnOf.nil⟩, rfl⟩
theorem pWB (w : World) (g : Nat) (l : List UInt8) (c : Nat) (n : Int) (hn : n = (c : Int)) (hc : c < 256) (h : PB w g l) (hl : l.length <= 100000000) :
  Calls Tryz.prog 103 #[.pointer (some ⟨g, 0, none⟩), .int .u8 n] w fun e w' => e = .returned .nilIface /\ PB w' g (l ++ un [c]) /\ Below g w w' := by
 obtain ⟨cs, hb, h5⟩ := h; refine (WriteByte_any w (UInt8.ofNat c) n (by rw [hn, UInt8.toNat_ofNat']; omega) hb (by rw [h5]; exact in2) (Nat.le_refl _) (by omega)).mono ?_
 rintro e w' ⟨rfl, cs', h1, h2, h3, h4⟩; exact ⟨rfl, ⟨cs', h1, by rw [h2.1, h5]⟩, h3⟩
theorem pWS (w : World) (g : Nat) (l : List UInt8) (x : ByteArray) (h : PB w g l) (hl : l.length + x.size <= 100000000) :
  Calls Tryz.prog 100 #[.pointer (some ⟨g, 0, none⟩), .string x] w fun e w' => e = .returned (.tuple #[.int .i64 x.size, .nilIface]) /\ PB w' g (l ++ x.data.toList) /\ Below g w w' := by
 obtain ⟨cs, hb, h5⟩ := h; refine (WriteString_any w x hb (by rw [h5]; exact in2) (Nat.le_refl _) (by omega)).mono ?_
 rintro e w' ⟨rfl, cs', h1, h2, h3, h4⟩; exact ⟨rfl, ⟨cs', h1, by rw [h2.1, h5]⟩, h3⟩
theorem pStr (w : World) (g : Nat) (l : List UInt8) (h : PB w g l) (hl : l.length <= 100000000) :
  Calls Tryz.prog 25 #[.pointer (some ⟨g, 0, none⟩)] w fun e w' => e = .returned (.string (strOf l)) /\ Below g w w' := by
 obtain ⟨cs, hb, h5⟩ := h; refine (String_any w hb (Nat.le_of_lt hb.cells.lt) (by omega)).mono ?_
 rintro e w' ⟨rfl, h1, _⟩; exact ⟨rfl, h1⟩
theorem prB_len (c : Nat) : (prB c).length <= 6 := by
 unfold prB; split
 ·simp
 split <;> simp
theorem flat_len : ∀ (l : List Nat), (l.flatMap prB).length <= 6 * l.length
 | [] => by simp
 | c :: r => by
  have h1 := prB_len c; have h2 := flat_len r; rw [List.flatMap_cons, List.length_append, List.length_cons]; omega
def preQ (l : List Nat) (k : Nat) : List Nat := 34 :: (l.take k).flatMap prB
theorem preQ_len (l : List Nat) (k : Nat) (h : k <= l.length) : (preQ l k).length <= 6 * k + 1 := by
 have := flat_len (l.take k); simp only [preQ, List.length_cons, List.length_take] at this ⊢; omega
theorem preQ_succ {l : List Nat} {k : Nat} (h : k < l.length) : preQ l (k + 1) = preQ l k ++ prB l[k] := by
 unfold preQ; rw [List.take_succ_eq_append_getElem h, List.flatMap_append]; simp
theorem preQ_all {l : List Nat} {k : Nat} (h : k = l.length) : preQ l k ++ [34] = printQ l := by
 subst h; unfold preQ printQ; rw [List.take_length]; rfl
def qdigs : ByteArray := ⟨#[48, 49, 50, 51, 52, 53, 54, 55, 56, 57, 97, 98, 99, 100, 101, 102]⟩
theorem qdigs_at {n : Nat} (h : n < 16) : ∃ h' : n < qdigs.size, ((qdigs[n]'h').toNat : Int) = (qdigB n : Int) := by
 have : n = 0 \/ n = 1 \/ n = 2 \/ n = 3 \/ n = 4 \/ n = 5 \/ n = 6 \/ n = 7 \/ n = 8 \/ n = 9 \/ n = 10 \/ n = 11 \/ n = 12 \/ n = 13 \/ n = 14 \/ n = 15 := by omega
 rcases this with rfl | rfl | rfl | rfl | rfl | rfl | rfl | rfl | rfl | rfl | rfl | rfl | rfl | rfl | rfl | rfl <;> exact ⟨by decide, by decide⟩
theorem and15u (a : Nat) (h : a < 256) : bits .and .u8 (a : Int) 15 = ((a % 16 : Nat) : Int) := by
 have h2 : ∀ a : Fin 256, bits .and .u8 (a.val : Int) 15 = ((a.val % 16 : Nat) : Int) := by decide +kernel
 exact h2 ⟨a, h⟩
theorem bs_at_k {s : ByteArray} {k : Nat} (h : k < s.size) : (s[k]'h).toNat = (bs s)[k]'(by rw [bs_length]; exact h) := bs_get h
theorem Print_yes (s : ByteArray) (w : World) (hs : s.size <= 1048576) (hT : Tab w) (hv : (scan (bs s) 0).2.isNone = true) :
  Calls Tryz.prog 101 #[.string s] w fun e w' => e = .returned (.tuple #[.string (strOf (un (printQ (bs s)))), .int .i64 0]) /\ Below w.heap.size w w' := by
 have hV := Valid_any s w hT (by omega)
 rw [hv] at hV; clear hv; go_enter Tryz.func101, Tryz.ntmps101; go_wp2_with fail; refine hV.mono ?_; rintro e w1 ⟨rfl, rfl⟩; have hP0 := PB.new w; have hb0 : Below w.heap.size w (w.alloc (.cells #[.pointer none, .slice none 0 0] 58)) := (Below.refl _ w).alloc (Nat.le_refl _) _; go_wp2_with fail; refine (pWB _ w.heap.size [] 34 _ rfl (by omega) hP0 (by simp)).mono ?_
 rintro e w2 ⟨rfl, hP2, hb2⟩; have hb2' := hb0.trans hb2; clear hP0 hb0 hb2; go_wp2_with fail; go_loopw [14] (fun i wr => ∃ k : Nat, k <= s.size /\ i = .int .i64 (k : Int) /\ PB wr w.heap.size (un (preQ (bs s) k)) /\ Below w.heap.size w wr) (fun i _ => s.size - (intOf i).toNat)
 case atStart => exact ⟨0, Nat.zero_le _, rfl, by simpa [preQ] using hP2, hb2'⟩
 case round =>
  clear hP2 hb2'; obtain ⟨k, hk, rfl, hP, hb⟩ := hrel; have hpl := preQ_len (bs s) k (by rw [bs_length]; exact hk)
  have hul : (un (preQ (bs s) k)).length <= 7000000 := by rw [un_length']; omega
  clear hpl
  by_cases hlt : k < s.size
  ·have hbv := bs_at_k hlt
   have HS := Lib.hid (preQ_succ (l := bs s) (k := k) (by rw [bs_length]; exact hlt))
   have hc : (bs s)[k]'(by rw [bs_length]; exact hlt) < 256 := bs_lt _ (List.getElem_mem _)
   generalize (bs s)[k]'(by rw [bs_length]; exact hlt) = c at *
   generalize preQ (bs s) k = pre at *; have hF := fun W => shortFor_any c W
   have hsl : shortB c < 256 := by
    unfold shortB; repeat' (first | omega | split)
   by_cases h0 : shortB c = 0
   ·have HP : Hid (prB c = if c < 32 then [92, 117, 48, 48, qdigB (c / 16), qdigB (c % 16)] else [c]) := Lib.hid (by unfold prB; rw [if_neg (by simp [h0])])
    rw [h0] at hF; clear h0 hsl
    by_cases h32 : c < 32
    ·obtain ⟨d1, e1⟩ := qdigs_at (show c / 16 < 16 by omega)
     obtain ⟨d2, e2⟩ := qdigs_at (show c % 16 < 16 by omega)
     unfold qdigs at d1 e1 d2 e2; have hand := and15u c hc; have g1 : qdigB (c / 16) < 256 := by unfold qdigB; split <;> omega
     have g2 : qdigB (c % 16) < 256 := by unfold qdigB; split <;> omega
     go_wp2_with fail; refine (hF _).mono ?_; rintro e w3 ⟨rfl, rfl⟩; go_wp2_with fail; refine (pWS _ w.heap.size _ _ hP (by have : (⟨#[92, 117, 48, 48]⟩ : ByteArray).size = 4 := rfl; omega)).mono ?_
     rintro e w4 ⟨rfl, hP4, hb4⟩; go_wp2_with fail; refine (pWB _ w.heap.size _ (qdigB (c / 16)) _ rfl g1 hP4 (by rw [List.length_append]; simp; omega)).mono ?_
     rintro e w5 ⟨rfl, hP5, hb5⟩; go_wp2_with fail; refine (pWB _ w.heap.size _ (qdigB (c % 16)) _ rfl g2 hP5 (by rw [List.length_append, List.length_append, un_length' [qdigB (c / 16)]]; simp; omega)).mono ?_
     rintro e w6 ⟨rfl, hP6, hb6⟩
     have hP7 : PB w6 w.heap.size (un (preQ (bs s) (k + 1))) := by
      rw [HS.out, HP.out, if_pos h32]; have := hP6; simp only [un, List.map_append, List.map_cons, List.map_nil, List.append_assoc, List.cons_append, List.nil_append] at this ⊢; exact this
     have hb7 := ((hb.trans hb4).trans hb5).trans hb6; clear e1 e2 d1 d2 hand; go_wp2; go_roundw
     case rel => exact ⟨k + 1, hlt, by go_num, hP7, hb7⟩
     case measure => simp [intOf]; omega
    ·have h32' : 32 <= c := by omega
     have HN : Hid (prB c = [c]) := Lib.hid (by rw [HP.out, if_neg h32])
     clear h32; go_wp2_with fail; refine (hF _).mono ?_; rintro e w3 ⟨rfl, rfl⟩; go_wp2_with fail; refine (pWB _ w.heap.size _ c _ rfl hc hP (by omega)).mono ?_
     rintro e w5 ⟨rfl, hP5, hb5⟩
     have hP7 : PB w5 w.heap.size (un (preQ (bs s) (k + 1))) := by
      rw [HS.out, HN.out, un_append]; exact hP5
     have hb7 := hb.trans hb5; go_wp2; go_roundw
     case rel => exact ⟨k + 1, hlt, by go_num, hP7, hb7⟩
     case measure => simp [intOf]; omega
   ·have HP : Hid (prB c = [92, shortB c]) := Lib.hid (by unfold prB; rw [if_pos h0])
    generalize shortB c = sc at *; have hbn : ((sc : Int) != 0) = true := by rw [bne_iff_ne]; omega
    clear h0; go_wp2_with fail; refine (hF _).mono ?_; rintro e w3 ⟨rfl, rfl⟩; go_wp2_with fail; refine (pWB _ w.heap.size _ 92 _ rfl (by omega) hP (by omega)).mono ?_
    rintro e w4 ⟨rfl, hP4, hb4⟩; go_wp2_with fail; refine (pWB _ w.heap.size _ sc _ rfl hsl hP4 (by rw [List.length_append, un_length' [92]]; simp; omega)).mono ?_
    rintro e w5 ⟨rfl, hP5, hb5⟩
    have hP7 : PB w5 w.heap.size (un (preQ (bs s) (k + 1))) := by
     rw [HS.out, HP.out]; have := hP5; simp only [un, List.map_append, List.map_cons, List.map_nil, List.append_assoc, List.cons_append, List.nil_append] at this ⊢; exact this
    have hb7 := (hb.trans hb4).trans hb5; go_wp2; go_roundw
    case rel => exact ⟨k + 1, hlt, by go_num, hP7, hb7⟩
    case measure => simp [intOf]; omega
  ·have HA := Lib.hid (preQ_all (l := bs s) (k := k) (by rw [bs_length]; omega))
   generalize preQ (bs s) k = pre at *; go_wp2_with fail; refine (pWB _ w.heap.size _ 34 _ rfl (by omega) hP (by omega)).mono ?_
   rintro e w4 ⟨rfl, hP4, hb4⟩; go_wp2_with fail; refine (pStr _ w.heap.size _ hP4 (by rw [List.length_append, un_length' [34]]; simp; omega)).mono ?_
   rintro e w5 ⟨rfl, hb5⟩; go_wp2; go_ret2
   exact ⟨by rw [<- HA.out, un_append]; rfl, (hb.trans hb4).trans hb5⟩
theorem Prt.then {B g n m m2 : Nat} {P Q Q2 : Pcs} {w w1 w2 : World} {e e2 : Ending} (h : Prt B g P Q n m w e w1) (h2 : Prt B g (P ++ Q) Q2 (n + m) m2 w1 e2 w2) : Prt B g P (Q ++ Q2) n (m + m2) w e2 w2 := by
 obtain ⟨-, -, h5, h6⟩ := h; obtain ⟨h7, h8, h9, h10⟩ := h2; refine ⟨h7, ?_, h5.trans h9, h6.trans h10⟩; rw [<- List.append_assoc, <- Nat.add_assoc]; exact h8
theorem blank_any (w : World) (B g n : Nat) (P : Pcs) (h : Prn B w g P n) (hB : B <= g) (hl : wt (P ++ [none]) <= 1000000) :
  Calls Tryz.prog 103 #[.pointer (some ⟨g, 0, none⟩), .int .u8 32] w fun e w' => e = .returned .nilIface /\ Prt B g P [none] n 0 w (.returned (.tuple #[])) w' := by
 obtain ⟨ad, bv, tv, ts, hc, ha, hU, hT, hts⟩ := h
 have hwx : (catP P).length <= 1000000000 := by
  rw [wt_app] at hl; unfold wt at hl; omega
 refine (WriteByte_any (T := 60) (base := B) (g := g) (o := 0) (cs := #[.pointer ad, bv, tv, .int .i64 (n : Nat)]) w 32 32 rfl ⟨hc, by rcases ha with rfl | rfl; exact .inl rfl; exact .inr rfl, bv, rfl, hU⟩ inPr hB hwx).mono ?_
 rintro e w5 ⟨rfl, cs5, hB5, hU5, hb5, hs5⟩; obtain ⟨v, hc5, hown, hT5⟩ := used_prn hT hc hB5 hU5 hs5; refine ⟨rfl, rfl, ⟨_, v, tv, _, hc5, .inr rfl, ?_, hT5, ?_⟩, hb5, .of hs5⟩
 ·rw [catP_app]
  exact hown
 ·rw [hts, tkP_app]
  simp [tkP]
theorem pSign_any (w : World) (B g n : Nat) (P : Pcs) (x : ByteArray) (h : Prn B w g P n) (hB : B <= g) (hl : wt (P ++ [pS x]) <= 1000000) :
  Calls Tryz.prog 102 #[.pointer (some ⟨g, 0, none⟩), .string x] w (Prt B g P [pS x] n 0 w) := by
 have hp := put_any w B g n 4 P x h hB hl; clear h hl; go_enter Tryz.func102, Tryz.ntmps102; go_wp2_with fail; refine hp.mono ?_; rintro _ w5 ⟨rfl, h5⟩; clear hp; go_wp2_with fail; refine bodyPost_end (v := .tuple #[]) (by simp [results, Tryz.results102, go_sem]) rfl ?_
 exact ⟨rfl, h5⟩
theorem sep_any (w : World) (B g n : Nat) (P : Pcs) (x : ByteArray) (h : Prn B w g P n) (hB : B <= g) (hl : wt (P ++ [none, pS x, none]) <= 1000000) :
  Calls Tryz.prog 105 #[.pointer (some ⟨g, 0, none⟩), .string x] w (Prt B g P [none, pS x, none] n 0 w) := by
 have w1 : wt (P ++ [none]) <= 1000000 := by
  rw [wt_app] at hl ⊢; have : wt [none] <= wt [none, pS x, none] := by simp [wt, catP]
  omega
 have w2 : wt ((P ++ [none]) ++ [pS x]) <= 1000000 := by
  rw [List.append_assoc, wt_app] at ⊢; rw [wt_app] at hl; have : wt ([none] ++ [pS x]) <= wt [none, pS x, none] := by simp [wt, catP]
  omega
 have w3 : wt ((P ++ [none] ++ [pS x]) ++ [none]) <= 1000000 := by simpa using hl
 have hp := blank_any w B g n P h hB w1; clear h hl; go_enter Tryz.func105, Tryz.ntmps105; go_wp2_with fail; refine hp.mono ?_; rintro _ w5 ⟨rfl, h5⟩; clear hp; have hp := pSign_any w5 B g (n + 0) (P ++ [none]) x h5.2.1 hB w2; go_wp2_with fail; refine hp.mono ?_; rintro _ w6 ⟨rfl, h6⟩; clear hp; have hp := blank_any w6 B g (n + 0 + 0) (P ++ [none] ++ [pS x]) h6.1 hB w3; go_wp2_with fail; refine hp.mono ?_; rintro _ w7 ⟨rfl, h7⟩; clear hp; go_wp2_with fail; refine bodyPost_end (v := .tuple #[]) (by simp [results, Tryz.results105, go_sem]) rfl ?_
 exact h5.then (.then (e := .returned (.tuple #[])) ⟨rfl, h6⟩ h7)
def brkN (n : Int) (x : Int × Nat) : Nat := if n <= x.1 then x.2 else x.2 + 1
def sumN : List Nat -> Nat
 | [] => 0
 | a :: r => a + sumN r
def brK (op : ByteArray) (ls : List (Int × Nat)) : Nat :=
 if op = oName then 0 else if op = oNum then 0 else if op = oText then 0
 else if op = oCall then sumN (ls.map (·.2))
 else if op = oList then sumN (ls.map (·.2))
 else match ls with
  | [a] => if op = oGet then brkN 8 a else brkN 7 a
  | [a, b] => if op = oAt then brkN 8 a + b.2 else brkN (lvN op) a + brkN (lvN op + 1) b
  | [a, b, c] => brkN 1 a + (b.2 + c.2)
  | _ => 0
mutual
def brX : Exp -> Nat
 | .mk o _ ks => brK o (brs ks)
def brs : List Exp -> List (Int × Nat)
 | [] => []
 | k :: r => (lvN k.op, brX k) :: brs r
end
structure Cx (w0 w : World) (g : Nat) (P : Pcs) (n : Nat) : Prop where
 b : Below w0.heap.size w0 w
 ge : w0.heap.size <= g
 p : Prn w0.heap.size w g P n
 le : n <= wt P
theorem Cx.gl {w0 w : World} {g n : Nat} {P : Pcs} (h : Cx w0 w g P n) : g < w.heap.size := by
 obtain ⟨_, _, _, _, hc, -⟩ := h.p; exact hc.lt
theorem Prn.alloc {B g n : Nat} {w : World} {P : Pcs} (h : Prn B w g P n) (o : Obj) : Prn B (w.alloc o) g P n := by
 obtain ⟨ad, bv, tv, ts, hc, ha, hU, hT, hts⟩ := h; exact ⟨ad, bv, tv, ts, hc.alloc o, ha, hU.alloc o, hT.alloc o, hts⟩
theorem Prn.drew {B g n : Nat} {w : World} {P : Pcs} (h : Prn B w g P n) : Prn B w.drew g P n := h
structure Fx (w0 w W : World) (g bx : Nat) (P : Pcs) (n : Nat) (cs : Array Value) : Prop where
 c : Cx w0 W g P n
 x : Cells W bx cs 24
 ne : bx ≠ g
 b : Below w0.heap.size w W
 s : BesP g w W
section
variable {w0 w W W' : World} {g bx n m : Nat} {P Q : Pcs} {cs : Array Value} {e : Ending}
theorem Cx.go (h : Cx w0 W g P n) (hp : Prt w0.heap.size g P Q n m W e W') (hm : m <= wt Q) : Cx w0 W' g (P ++ Q) (n + m) := ⟨h.b.trans hp.2.2.1, h.ge, hp.2.1, by rw [wt_app]; have := h.le; omega⟩
theorem Fx.go (h : Fx w0 w W g bx P n cs) (hp : Prt w0.heap.size g P Q n m W e W') (hm : m <= wt Q) : Fx w0 w W' g bx (P ++ Q) (n + m) cs :=
 ⟨h.c.go hp hm, hp.2.2.2.cells h.x h.ne (by decide) (by decide), h.ne, h.b.trans hp.2.2.1, h.s.trans hp.2.2.2⟩
theorem Fx.start (h : Cx w0 w g P n) (cs : Array Value) : Fx w0 w (w.alloc (.cells cs 24)) g w.heap.size P n cs := by
 have h1 := h.gl; have h2 := h.ge; exact ⟨⟨h.b.alloc (by have := h.b.size; omega) _, h.ge, h.p.alloc _, h.le⟩, Cells.new w cs _, by omega, (Below.refl _ w).alloc (by omega) _, BesP.refl.alloc _⟩
theorem Fx.fin {k j : Nat} (h : Fx w0 w W g bx (P ++ Q) k cs) (hk : k = n + j) : Prt w0.heap.size g P Q n j w (.returned (.tuple #[])) W := by
 subst hk; exact ⟨rfl, h.c.p, h.b, h.s⟩
end
theorem kid_cells {w0 : World} {op text : ByteArray} {kids : List Exp} {a : Option Addr} {k c : Nat} (h : ExpAt w0 (.mk op text kids) (expV op text (.slice a k c))) {i : Nat} (hi : i < kids.length) :
  ∃ b off ko kt ka kn kc, a = some ⟨b, off, none⟩ /\ b < w0.heap.size /\ (∀ W, Below w0.heap.size w0 W -> W.cell? ⟨b, off + i * 3, none⟩ = some (.string ko) /\ W.cell? ⟨b, off + i * 3 + 1, none⟩ = some (.string kt) /\ W.cell? ⟨b, off + i * 3 + 2, none⟩ = some (.slice ka kn kc)) /\ ExpAt w0 kids[i] (expV ko kt (.slice ka kn kc)) /\ ko = kids[i].op /\ kt = kids[i].text := by
 simp only [ExpAt] at h; obtain ⟨a', cap, h1, h3, h4, h5, h6⟩ := h; simp only [List.cons.injEq, and_true, Value.slice.injEq, true_and] at h1; obtain ⟨rfl, rfl, rfl⟩ := h1
 cases a with
 | none => have := h5 rfl; omega
 | some x =>
  obtain ⟨b, off, sp⟩ := x; obtain ⟨g1, g2, g3⟩ := h6 _ rfl (by intro e; rw [e] at hi; cases hi)
  simp only at g1; subst g1; obtain ⟨cs, r1, r2⟩ := ExpsAt.get g3 i hi; obtain ⟨ko, kt, ka, kn, kc, rfl, -⟩ := exp_at (b := b) (o := off + i * 3) r2 r1; refine ⟨b, off, ko, kt, ka, kn, kc, rfl, g2, fun W hW => ⟨?_, ?_, ?_⟩, r2, ?_⟩
  ·exact (hW.cell (p := ⟨b, off + i * 3, none⟩) g2).trans (by simpa using r1 0 _ rfl)
  ·exact (hW.cell (p := ⟨b, off + i * 3 + 1, none⟩) g2).trans (r1 1 _ rfl)
  ·exact (hW.cell (p := ⟨b, off + i * 3 + 2, none⟩) g2).trans (r1 2 _ rfl)
  ·generalize kids[i] = x at r2
   cases x
   simp only [ExpAt] at r2; obtain ⟨a', cap, h1, -⟩ := r2; simp only [List.cons.injEq, Value.string.injEq] at h1; exact ⟨h1.1, h1.2.1⟩
theorem exp_top {w0 : World} {op text o t : ByteArray} {kids : List Exp} {sl : Value} (h : ExpAt w0 (.mk op text kids) (expV o t sl)) : o = op /\ t = text /\ ∃ a c, sl = .slice a kids.length c /\ kids.length <= c /\ c <= maxLen := by
 simp only [ExpAt] at h; obtain ⟨a', cap, h1, h2, h3, -⟩ := h; simp only [List.cons.injEq, and_true, Value.string.injEq] at h1; exact ⟨h1.1, h1.2.1, _, _, h1.2.2, h2, h3⟩
theorem wt_none (r : Pcs) : wt (none :: r) = 2 + wt r := by simp only [wt, catP, List.length_cons]; omega
theorem wt_some (t : Tok) (r : Pcs) : wt (some t :: r) = (bT t.text).length + 1 + wt r := by simp only [wt, catP, List.length_cons, List.length_append]; omega
theorem wt_nil : wt [] = 0 := rfl
theorem brkN_le {lv l : Int} {m : Nat} {Q : Pcs} (h : m <= wt Q) : brkN lv (l, m) <= wt (brk lv (l, Q)) := by
 unfold brkN brk; simp only; split
 ·exact h
 ·simp only [wt_some, wt_app]
  have e2 : (bT (tS sLp).text).length = 1 := rfl; omega
theorem sum_le : ∀ (l : List Exp), (∀ k ∈ l, brX k <= wt (pcX k)) -> sumN ((brs l).map (·.2)) <= wt (commas ((pcs l).map (·.2)))
 | [], _ => Nat.zero_le _
 | [a], h => by
  have := h a (by simp)
  simp only [brs, pcs, List.map_cons, List.map_nil, sumN, commas]; omega
 | a :: b :: r, h => by
  have h1 := h a (by simp)
  have h2 := sum_le (b :: r) (fun k hk => h k (by simp [hk]))
  simp only [brs, pcs, List.map_cons, sumN, commas] at h2 ⊢; simp only [wt_none, wt_some, wt_app, wt_nil]; omega
theorem brX_step (o t : ByteArray) (ks : List Exp) (h : ∀ k ∈ ks, brX k <= wt (pcX k)) : brX (.mk o t ks) <= wt (pcX (.mk o t ks)) := by
 simp only [brX, pcX]; unfold brK pcK; have hs := sum_le ks h; split
 ·exact Nat.zero_le _
 split
 ·exact Nat.zero_le _
 split
 ·exact Nat.zero_le _
 split
 ·simp only [wt_none, wt_some, wt_app, wt_nil]; omega
 split
 ·simp only [wt_none, wt_some, wt_app, wt_nil]; omega
 match ks, h with
 | [], _ => simp [brs, pcs]
 | [a], h =>
  have ha := h a (by simp)
  have h8 := brkN_le (lv := 8) (l := lvN a.op) ha; have h7 := brkN_le (lv := 7) (l := lvN a.op) ha; simp only [brs, pcs]; split
  ·simp only [wt_none, wt_some, wt_app, wt_nil]; omega
  ·split
   ·simp only [wt_none, wt_some, wt_app, wt_nil]; omega
   ·simp only [wt_none, wt_some, wt_app, wt_nil]; omega
 | [a, b], h =>
  have ha := h a (by simp)
  have hb := h b (by simp)
  have h8 := brkN_le (lv := 8) (l := lvN a.op) ha; have h7 := brkN_le (lv := lvN o) (l := lvN a.op) ha; have h6 := brkN_le (lv := lvN o + 1) (l := lvN b.op) hb; simp only [brs, pcs]; split
  ·simp only [wt_none, wt_some, wt_app, wt_nil]; omega
  ·simp only [wt_none, wt_some, wt_app, wt_nil]; omega
 | [a, b, c], h =>
  have ha := h a (by simp)
  have hb := h b (by simp)
  have hc := h c (by simp)
  have h8 := brkN_le (lv := 1) (l := lvN a.op) ha; simp only [brs, pcs]; simp only [wt_none, wt_some, wt_app, wt_nil]; omega
 | a :: b :: c :: d :: r, _ => simp [brs, pcs]
theorem brX_upto : ∀ (n : Nat) (e : Exp), e.bulk <= n -> brX e <= wt (pcX e)
 | 0, .mk o t ks, h => by simp only [Exp.bulk] at h; omega
 | n + 1, .mk o t ks, h => by
  refine brX_step o t ks (fun k hk => brX_upto n k ?_); obtain ⟨i, hi, rfl⟩ := List.getElem_of_mem hk; have := bulkX_kid hi; simp only [Exp.bulk] at h; omega
theorem brX_le (e : Exp) : brX e <= wt (pcX e) := brX_upto _ e (Nat.le_refl _)
def ExprC (e : Exp) : Prop := ∀ (w0 w : World) (g n : Nat) (P : Pcs) (o t : ByteArray) (a : Option Addr) (k c : Nat), Tab w0 -> Cx w0 w g P n -> ExpAt w0 e (expV o t (.slice a k c)) -> wt (P ++ pcX e) <= 1000000 ->
 Calls Tryz.prog 23 #[.pointer (some ⟨g, 0, none⟩), exV o t (.slice a k c)] w (Prt w0.heap.size g P (pcX e) n (brX e) w)
end Go.Proofs.YthbhknfhmkhfgaaGreatDoor
namespace Go.Proofs.YthbhknfhmkhfgaaGreatDoor
set_option maxRecDepth 100000
set_option maxHeartbeats 20000000
def ptS (P : Pcs) : ByteArray := strL (catP P)
theorem ptS_list (P : Pcs) : (ptS P).data.toList = catP P := rfl
theorem ptS_size (P : Pcs) : (ptS P).size <= wt P := by
 unfold ptS wt; rw [size_strL]; omega
theorem quoS_size (t : ByteArray) : (quoS t).size <= 6 * t.size + 2 := by
 have h : bs (quoS t) = printQ (bs t) := bs_un (printQ_byt2 bs_lt); have h2 := flat_len (bs t); rw [<- bs_length, h, <- bs_length t]; simp only [printQ, List.length_cons, List.length_append, List.length_nil] at h2 ⊢; omega
theorem bT_size (t : ByteArray) : (bT t).length = t.size := rfl
theorem wt_brk (n l : Int) (Q : Pcs) : wt (brk n (l, Q)) <= wt Q + 4 := by
 unfold brk; simp only; split
 ·omega
 ·simp only [wt_some, wt_app, wt_nil]
  have e1 : (bT (tS sLp).text).length = 1 := rfl; have e2 : (bT (tS sRp).text).length = 1 := rfl; omega
theorem wt_coms : ∀ l : List Exp, (∀ k ∈ l, wt (pcX k) + 20 <= 200 * wtX k) -> wt (commas ((pcs l).map (·.2))) <= 200 * wtXs l
 | [], _ => Nat.zero_le _
 | [a], h => by
  have := h a (by simp)
  simp only [pcs, List.map_cons, List.map_nil, commas, wtXs]; omega
 | a :: b :: r, h => by
  have h1 := h a (by simp)
  have h2 := wt_coms (b :: r) (fun k hk => h k (by simp [hk]))
  have e1 : (bT (tS sComma).text).length = 1 := rfl; simp only [pcs, List.map_cons, commas, wtXs] at h2 ⊢; simp only [wt_none, wt_some, wt_app, wt_nil]; omega
theorem wt_step (o t : ByteArray) (ks : List Exp) (hs : Shp o t ks) (ho : o.size <= 20) (h : ∀ k ∈ ks, wt (pcX k) + 20 <= 200 * wtX k) : wt (pcX (.mk o t ks)) + 20 <= 200 * wtX (.mk o t ks) := by
 have l1 : (bT (tS sLp).text).length = 1 := rfl; have l2 : (bT (tS sRp).text).length = 1 := rfl; have l3 : (bT (tS sLb).text).length = 1 := rfl; have l4 : (bT (tS sRb).text).length = 1 := rfl; have l5 : (bT (tS sDot).text).length = 1 := rfl; have l6 : (bT (tS sMinus).text).length = 1 := rfl; have l7 : (bT (tS sBang).text).length = 1 := rfl; have l8 : (bT (tS sQ).text).length = 1 := rfl; have l9 : (bT (tS sCo).text).length = 1 := rfl; have hq := quoS_size t; have ht : t.size < 20 * (t.size / 20) + 20 := by omega
 cases hs with
 | name => rw [pc_name]; simp only [wt_some, wt_nil, wtX, wtXs, bT_size]; omega
 | num => rw [pc_num]; simp only [wt_some, wt_nil, wtX, wtXs, bT_size]; omega
 | text => rw [pc_text]; simp only [wt_some, wt_nil, wtX, wtXs, bT_size]; omega
 | call =>
  have := wt_coms ks h; rw [pc_call]; simp only [wt_some, wt_app, wt_nil, wtX]; simp only [bT_size] at *; omega
 | list =>
  have := wt_coms ks h; rw [pc_list]; simp only [wt_some, wt_app, wt_nil, wtX]; simp only [bT_size] at *; omega
 | get _ a =>
  have h1 := h a (by simp)
  have h2 := wt_brk 8 (lvN a.op) (pcX a); rw [pc_get]; simp only [wt_some, wt_app, wt_nil, wtX, wtXs]; simp only [bT_size] at *; omega
 | at_ a b =>
  have h1 := h a (by simp)
  have h3 := h b (by simp)
  have h2 := wt_brk 8 (lvN a.op) (pcX a); rw [pc_at]; simp only [wt_some, wt_app, wt_nil, wtX, wtXs]; simp only [bT_size] at *; omega
 | bang a =>
  have h1 := h a (by simp)
  have h2 := wt_brk 7 (lvN a.op) (pcX a); rw [pc_bang]; simp only [wt_some, wt_app, wt_nil, wtX, wtXs]; simp only [bT_size] at *; omega
 | neg a =>
  have h1 := h a (by simp)
  have h2 := wt_brk 7 (lvN a.op) (pcX a); rw [pc_neg]; simp only [wt_some, wt_app, wt_nil, wtX, wtXs]; simp only [bT_size] at *; omega
 | choice a b c =>
  have h1 := h a (by simp)
  have h3 := h b (by simp)
  have h4 := h c (by simp)
  have h2 := wt_brk 1 (lvN a.op) (pcX a); rw [pc_choice]; simp only [wt_some, wt_none, wt_app, wt_nil, wtX, wtXs]; simp only [bT_size] at *; omega
 | two _ lv a b _ _ _ hn _ =>
  have h1 := h a (by simp)
  have h3 := h b (by simp)
  have h2 := wt_brk (lvN o) (lvN a.op) (pcX a); have h4 := wt_brk (lvN o + 1) (lvN b.op) (pcX b); have h5 : (bT (tS o).text).length = o.size := rfl; rw [pc_two _ a b hn]; simp only [wt_some, wt_none, wt_app, wt_nil, wtX, wtXs]; simp only [bT_size] at *; omega
theorem wt_upto : ∀ (n : Nat) (e : Exp), e.bulk <= n -> rightX e = true -> ShortX e -> wt (pcX e) + 20 <= 200 * wtX e
 | 0, .mk o t ks, h, _, _ => by simp only [Exp.bulk] at h; omega
 | n + 1, .mk o t ks, h, hr, hs => by
  obtain ⟨h1, h2⟩ := Shp.ok hr; simp only [ShortX] at hs; refine wt_step o t ks h1 hs.1 (fun k hk => wt_upto n k ?_ (h2 k hk) ?_)
  ·obtain ⟨i, hi, rfl⟩ := List.getElem_of_mem hk
   have := bulkX_kid hi; simp only [Exp.bulk] at h; omega
  ·obtain ⟨i, hi, rfl⟩ := List.getElem_of_mem hk
   exact ShortXs.kid hi hs.2.2
theorem wt_small {e : Exp} (hr : rightX e = true) (hs : wtX e <= 300 /\ ShortX e) : wt (pcX e) <= 60000 := by
 have := wt_upto _ e (Nat.le_refl _) hr hs.2; omega
end Go.Proofs.YthbhknfhmkhfgaaGreatDoor
namespace Go.Proofs.YthbhknfhmkhfgaaGreatDoor
set_option maxRecDepth 100000
set_option maxHeartbeats 20000000
open Go.RowKit Go.Tab
theorem shortL_zero {c : Nat} (h : shortB c = 0) : shortL c = [] := by unfold shortL; rw [if_neg (by simp [h])]
theorem shortL_some {c : Nat} (h : shortB c ≠ 0) : shortL c = [shortB c] := by unfold shortL; rw [if_pos h]
theorem qrPrint_any (s : ByteArray) (w : World) (hs : s.size <= 1048576) :
  Calls Tryz.prog 30 #[.string s] w fun e w' => e = .returned (.string (strOf (un (printQ (bs s))))) /\ Below w.heap.size w w' := by
 go_enter Tryz.func30, Tryz.ntmps30; go_wp2_with fail; go_loopw [3, 4] (fun sv i wr => ∃ (k : Nat) (S : ByteArray), k <= s.size /\ i = .int .i64 (k : Int) /\ sv = .string S /\ S.size <= 6 * k + 1 /\ Hid (S = strOf (un (preQ (bs s) k))) /\ Below w.heap.size w wr) (fun _ i _ => s.size - (intOf i).toNat)
 case atStart => exact ⟨0, _, Nat.zero_le _, rfl, rfl, by decide, Lib.hid rfl, Below.refl _ _⟩
 case round =>
  obtain ⟨k, S, hk, rfl, rfl, hSz, HSS, hb⟩ := hrel
  by_cases hlt : k < s.size
  ·have hbv := bs_at_k hlt
   have HS := Lib.hid (preQ_succ (l := bs s) (k := k) (by rw [bs_length]; exact hlt))
   have hc : (bs s)[k]'(by rw [bs_length]; exact hlt) < 256 := bs_lt _ (List.getElem_mem _)
   have hx1 : s.extract k (k + 1) = strOf (un [(bs s)[k]'(by rw [bs_length]; exact hlt)]) := by
    rw [ext_str, show k + 1 - k = 1 by omega, List.drop_eq_getElem_cons (by rw [bs_length]; exact hlt)]; rfl
   have HX := Lib.hid hx1; clear hx1; generalize (bs s)[k]'(by rw [bs_length]; exact hlt) = c at *
   generalize preQ (bs s) k = pre at *; have hF := fun W => rshort_any c W
   by_cases h0 : shortB c = 0
   ·have HP : Hid (prB c = if c < 32 then [92, 117, 48, 48, qdigB (c / 16), qdigB (c % 16)] else [c]) := Lib.hid (by unfold prB; rw [if_neg (by simp [h0])])
    rw [shortL_zero h0] at hF; change ∀ W, Calls Tryz.prog 52 #[.int .u8 (c : Int)] W fun e w' => e = .returned (.string ⟨#[]⟩) /\ W = w' at hF; clear h0
    by_cases h32 : c < 32
    ·have hD1 := fun W => rdigit_any (c / 16) W (by omega)
     have hD2 := fun W => rdigit_any (c % 16) W (by omega)
     obtain ⟨D1, hd1⟩ : ∃ D, D = strOf (un [qdigB (c / 16)]) := ⟨_, rfl⟩; obtain ⟨D2, hd2⟩ : ∃ D, D = strOf (un [qdigB (c % 16)]) := ⟨_, rfl⟩; rw [<- hd1] at hD1; rw [<- hd2] at hD2; have z1 : D1.size = 1 := by rw [hd1]; rfl
     have z2 : D2.size = 1 := by rw [hd2]; rfl
     simp only [Int.natCast_ediv, Int.natCast_emod, Int.cast_ofNat_Int] at hD1 hD2; have hD1z : D1.size <= 1 := by omega
     have hD2z : D2.size <= 1 := by omega
     have HZ := Lib.hid (And.intro z1 z2); have HD := Lib.hid (And.intro hd1 hd2); clear hd1 hd2 z1 z2; go_wp2_with fail; refine (hF _).mono ?_; rintro e w3 ⟨rfl, rfl⟩; go_wp2_with fail; refine wp_region_under wr (by kernel_rfl) (by kernel_rfl) (Below.refl _ _) ?_
     repeat (go_big_quiet_step ((go_at_call 53; first | (with_reducible exact Under.call _ (hD1 _)) | (with_reducible exact Under.call _ (hD2 _)))))
     refine wpQuiet_nil ?_; rintro _ ⟨x, rfl⟩; have hb7 := hb.trans (x.below.mono hb.size)
     have HS2 : Hid (S ++ ⟨#[92, 117, 48, 48]⟩ ++ D1 ++ D2 = strOf (un (preQ (bs s) (k + 1)))) := Lib.hid (by
      rw [HS.out, HP.out, if_pos h32, HD.out.1, HD.out.2, HSS.out, show (⟨#[92, 117, 48, 48]⟩ : ByteArray) = strOf (un [92, 117, 48, 48]) from rfl, un_append', un_append', un_append']
      simp)
     have hS2 : (S ++ ⟨#[92, 117, 48, 48]⟩ ++ D1 ++ D2).size <= 6 * (k + 1) + 1 := by
      rw [ByteArray.size_append, ByteArray.size_append, ByteArray.size_append, HZ.out.1, HZ.out.2, show (⟨#[92, 117, 48, 48]⟩ : ByteArray).size = 4 from rfl]; omega
     generalize S ++ ⟨#[92, 117, 48, 48]⟩ ++ D1 ++ D2 = S2 at *; clear hD1 hD2; go_wp2; go_roundw
     case rel => exact ⟨k + 1, S2, hlt, by go_num, rfl, hS2, HS2, hb7⟩
     case measure => simp [intOf]; omega
    ·have h32' : 32 <= c := by omega
     have HN : Hid (prB c = [c]) := Lib.hid (by rw [HP.out, if_neg h32])
     have HS2 : Hid (S ++ s.extract k (k + 1) = strOf (un (preQ (bs s) (k + 1)))) := Lib.hid (by rw [HS.out, HN.out, HX.out, HSS.out, un_append'])
     have hz1 : (s.extract k (k + 1)).size <= 1 := by rw [HX.out]; exact Nat.le_refl _
     have hS2 : (S ++ s.extract k (k + 1)).size <= 6 * (k + 1) + 1 := by rw [ByteArray.size_append]; omega
     clear h32; go_wp2_with fail; refine (hF _).mono ?_; rintro e w3 ⟨rfl, rfl⟩; go_wp2; go_roundw
     case rel => exact ⟨k + 1, _, hlt, by go_num, rfl, hS2, HS2, hb⟩
     case measure => simp [intOf]; omega
   ·have HP : Hid (prB c = [92, shortB c]) := Lib.hid (by unfold prB; rw [if_pos h0])
    rw [shortL_some h0] at hF; obtain ⟨D, hd⟩ : ∃ D, D = strOf (un [shortB c]) := ⟨_, rfl⟩; rw [<- hd] at hF; have HZ : Hid (D.size = 1) := Lib.hid (by rw [hd]; rfl)
    have hDz : D.size <= 1 := by have := HZ.out; omega
    have hne : D.toList ≠ [] := by rw [hd, strOf, ByteArray.toList_mk]; simp [un]
    have hne1 : (!D.toList.isEmpty) = true := by simpa using hne
    have HD := Lib.hid hd
    have HS2 : Hid (S ++ ⟨#[92]⟩ ++ D = strOf (un (preQ (bs s) (k + 1)))) := Lib.hid (by
     rw [HS.out, HP.out, hd, HSS.out, show (⟨#[92]⟩ : ByteArray) = strOf (un [92]) from rfl, un_append', un_append']
     simp)
    have hS2 : (S ++ ⟨#[92]⟩ ++ D).size <= 6 * (k + 1) + 1 := by
     rw [ByteArray.size_append, ByteArray.size_append, HZ.out, show (⟨#[92]⟩ : ByteArray).size = 1 from rfl]; omega
    clear hd h0; go_wp2_with fail; refine (hF _).mono ?_; rintro e w3 ⟨rfl, rfl⟩; go_wp2_with fail; refine (hF _).mono ?_; rintro e w3 ⟨rfl, rfl⟩; go_wp2; go_roundw
    case rel => exact ⟨k + 1, _, hlt, by go_num, rfl, hS2, HS2, hb⟩
    case measure => simp [intOf]; omega
  ·have HA := Lib.hid (preQ_all (l := bs s) (k := k) (by rw [bs_length]; omega))
   go_wp2; go_ret; exact ⟨by rw [<- HA.out, HSS.out, show (⟨#[34]⟩ : ByteArray) = strOf (un [34]) from rfl, un_append']; rfl, hb⟩
abbrev ppV (s : ByteArray) (n : Nat) : Array Value := #[.string s, .int .i64 (n : Nat)]
def OfP (P : Pcs) (n : Nat) (w : World) (e : Ending) (w' : World) : Prop := e = .returned (.agg (ppV (ptS P) n)) /\ Below w.heap.size w w'
def OfC (e : Exp) : Prop := ∀ (w : World) (o t : ByteArray) (a : Option Addr) (k c : Nat), ExpAt w e (expV o t (.slice a k c)) -> wt (pcX e) <= 500000 -> Calls Tryz.prog 16 #[exV o t (.slice a k c)] w (OfP (pcX e) (brX e) w)
theorem ofP_same {P : Pcs} {n : Nat} {w w' : World} {s : ByteArray} {m : Int} (hs : s.data.toList = catP P) (hm : m = (n : Int)) (hb : Below w.heap.size w w') : OfP P n w (.returned (.agg #[.string s, .int .i64 m])) w' := by
 subst hm; refine ⟨?_, hb⟩; rw [show s = ptS P from str_ext hs]
theorem ret2_below {w w5 : World} (h : Below w.heap.size w w5) (o : Obj) (a b : Value) : Below w.heap.size w (((w5.setCell ⟨w.heap.size + 1, 0, none⟩ a).setCell ⟨w.heap.size + 1, 1, none⟩ b).alloc o) :=
 ((h.setCell (by show w.heap.size <= w.heap.size + 1; omega) _).setCell (by show w.heap.size <= w.heap.size + 1; omega) _).alloc (by show w.heap.size <= ((w5.setCell _ _).setCell _ _).heap.size; rw [World.size_setCell, World.size_setCell]; exact h.size) o
theorem rLeast_any {e : Exp} (hE : OfC e) (w : World) (o t : ByteArray) (a : Option Addr) (k c : Nat) (lv : Int) (hX : ExpAt w e (expV o t (.slice a k c))) (hw : wt (brk lv (lvN e.op, pcX e)) <= 500000) :
  Calls Tryz.prog 32 #[.int .i64 lv, exV o t (.slice a k c)] w (OfP (brk lv (lvN e.op, pcX e)) (brkN lv (lvN e.op, brX e)) w) := by
 have ho : lvN e.op = lvN o := by
  cases e
  rw [(exp_top hX).1]; rfl
 have hLv := fun W => rLevel_any o W
 have hwe : wt (pcX e) <= 500000 := by
  unfold brk at hw; simp only at hw; split at hw
  ·exact hw
  ·simp only [wt_some, wt_app, wt_nil] at hw; omega
 have hbn : brX e <= 500000 := by have := brX_le e; omega
 have hsz := ptS_size (pcX e); have hb1 : Below w.heap.size w ((w.alloc (.cells #[.string o, .string t, .slice a k c] 24)).alloc (.cells (ppV ⟨#[]⟩ 0) 46)) := ((Below.refl _ w).alloc (Nat.le_refl _) _).alloc (by simp) _
 have hp := hE _ o t a k c (ExpAt.below hb1 _ _ hX) hwe; have hc0 := (Cells.new w #[.string o, .string t, .slice a k c] 24).alloc (.cells (ppV ⟨#[]⟩ 0) 46); have hc1 := Cells.new (w.alloc (.cells #[.string o, .string t, .slice a k c] 24)) (ppV ⟨#[]⟩ 0) 46; have hR : brk lv (lvN e.op, pcX e) = (if lv <= lvN o then pcX e else pS sLp :: (pcX e ++ [pS sRp])) := by rw [ho]; rfl
 have hN : brkN lv (lvN e.op, brX e) = (if lv <= lvN o then brX e else brX e + 1) := by rw [ho]; rfl
 have HR := Lib.hid (And.intro hR hN); have HB1 := Lib.hid hb1; have HC := Lib.hid (And.intro hc0 hc1); have hss := ptS_list (pcX e); have HSS := Lib.hid hss; have hss2 : (ptS (pcX e)).size <= 500000 := by omega
 unfold OfP at hp; generalize hbx : brX e = bx at *; generalize ptS (pcX e) = S at *; rw [ho] at hw; generalize lvN o = L at *; clear hE hX hw ho hR hN hb1 hc0 hc1 hss hbx hwe hsz; go_enter Tryz.func32, Tryz.ntmps32; go_wp2_with fail; refine hp.mono ?_; clear hp; rintro _ w5 ⟨rfl, hb5⟩; have hc0 := HC.out.1.below hb5 HC.out.1.lt; have hc1 := HC.out.2.below hb5 HC.out.2.lt; have HB5 := Lib.hid (HB1.out.trans (hb5.mono HB1.out.size)); have hl0 := hc0.lt; have hl1 := hc1.lt; have HC5 := Lib.hid hc1; simp only [World.size_alloc] at hc1 hl1; clear hb5 HC HB1; have hc0c0 := hc0.cell 0 _ rfl; have hc0f0 := hc0.frozen 0; have hc0c1 := hc0.cell 1 _ rfl; have hc0f1 := hc0.frozen 1; have hc0c2 := hc0.cell 2 _ rfl; have hc0f2 := hc0.frozen 2; have hc1c0 := hc1.cell 0 _ rfl; have hc1f0 := hc1.frozen 0; have hc1c1 := hc1.cell 1 _ rfl; have hc1f1 := hc1.frozen 1; clear hc0 hc1
 by_cases hl : lv <= L
 ·have hge : decide (L < lv) = false := by rw [decide_eq_false_iff_not]; omega
  rw [if_pos hl, if_pos hl] at HR; clear hl; go_wp2_with (go_at_call 33; refine (hLv _).mono ?_; rintro _ _ ⟨rfl, rfl⟩)
  have hq := ((HC5.out.setI 0 (.string S)).setI 1 (.int .i64 (bx : Nat))).alloc (.cells #[.string S, .int .i64 (bx : Nat)] 46); simp only [World.size_alloc] at hq; have zz0 := hq.cell 0 _ rfl; have zz1 := hq.cell 1 _ rfl; refine bodyPost_ret (v := .agg #[.string S, .int .i64 (bx : Nat)]) (by simp [results, Tryz.results32, go_sem, zz0, zz1]) rfl ?_
  rw [HR.out.1, HR.out.2]; exact ofP_same HSS.out rfl (ret2_below HB5.out _ _ _)
 ·have hge : decide (L < lv) = true := by rw [decide_eq_true_iff]; omega
  rw [if_neg hl, if_neg hl] at HR; clear hl; go_wp2_with (go_at_call 33; refine (hLv _).mono ?_; rintro _ _ ⟨rfl, rfl⟩)
  have hq := ((HC5.out.setI 0 (.string (⟨#[40]⟩ ++ S ++ ⟨#[41]⟩))).setI 1 (.int .i64 ((bx : Int) + 1))).alloc (.cells #[.string S, .int .i64 (bx : Nat)] 46); simp only [World.size_alloc] at hq; have zz0 := hq.cell 0 _ rfl; have zz1 := hq.cell 1 _ rfl; refine bodyPost_ret (v := .agg #[.string (⟨#[40]⟩ ++ S ++ ⟨#[41]⟩), .int .i64 ((bx : Int) + 1)]) (by simp [results, Tryz.results32, go_sem, zz0, zz1]) rfl ?_
  rw [HR.out.1, HR.out.2]; refine ofP_same ?_ (by omega) (ret2_below HB5.out _ _ _)
  rw [app_list, app_list, HSS.out]; simp only [catP, catP_app, List.append_nil]; rfl
theorem Prn.brace {B g n : Nat} {w : World} {P : Pcs} (h : Prn B w g P n) : Prn B (w.setCell ⟨g, 3, none⟩ (.int .i64 ((n : Int) + 1))) g P (n + 1) := by
 obtain ⟨ad, bv, tv, ts, hc, ha, hU, hT, hts⟩ := h; refine ⟨ad, bv, tv, ts, ?_, ha, OwnOf.setOther hU ⟨g, 3, none⟩ _ (own_ne_box hU hc (by decide)), hT.moved (fun k hk => Below.heap_setCell _ _ _ _ (fun e => ownT_box hT hc (by decide) (by rw [hk]; exact congrArg some e))), hts⟩
 have := hc.set 3 (by simp) (.int .i64 ((n : Int) + 1))
 simpa using this
theorem Prn.braces {B g n : Nat} {w : World} {P : Pcs} (h : Prn B w g P n) : w.cell? ⟨g, 3, none⟩ = some (.int .i64 n) /\ w.frozen? ⟨g, 3, none⟩ = false := by
 obtain ⟨ad, bv, tv, ts, hc, ha, hU, hT, hts⟩ := h; exact ⟨hc.cell 3 _ rfl, hc.frozen 3⟩
theorem Fx.brace {w0 w W W2 : World} {g bx n : Nat} {P : Pcs} {cs : Array Value} {e : Ending} (h : Fx w0 w W g bx P n cs) (hp : Prt w0.heap.size g P [pS sLp] (n + 1) 0 (W.setCell ⟨g, 3, none⟩ (.int .i64 ((n : Int) + 1))) e W2) : Fx w0 w W2 g bx (P ++ [pS sLp]) (n + 1) cs := by
 obtain ⟨-, h1, h2, h3⟩ := hp; refine ⟨⟨(h.c.b.setCell h.c.ge _).trans h2, h.c.ge, h1, ?_⟩, h3.cells (h.x.setOther _ _ (fun q => h.ne q.symm)) h.ne (by decide) (by decide), h.ne, (h.b.setCell h.c.ge _).trans h2, (h.s.setCell 3 _).trans h3⟩
 have := h.c.le; simp only [wt_app, wt_some, wt_nil]; omega
theorem least_any {e : Exp} (hE : ExprC e) (w0 w : World) (g n : Nat) (P : Pcs) (o t : ByteArray) (a : Option Addr) (k c : Nat) (lv : Int) (hT : Tab w0) (hC : Cx w0 w g P n) (hX : ExpAt w0 e (expV o t (.slice a k c))) (hw : wt (P ++ brk lv (lvN e.op, pcX e)) <= 1000000) :
  Calls Tryz.prog 104 #[.pointer (some ⟨g, 0, none⟩), .int .i64 lv, exV o t (.slice a k c)] w (Prt w0.heap.size g P (brk lv (lvN e.op, pcX e)) n (brkN lv (lvN e.op, brX e)) w) := by
 have hF := Fx.start hC #[.string o, .string t, .slice a k c]
 have ho : lvN e.op = lvN o := by
  cases e
  rw [(exp_top hX).1]; rfl
 rw [ho] at hw ⊢; have hLv := fun W => Level_any o W; unfold brk at hw ⊢; unfold brkN; simp only at hw ⊢
 by_cases hl : lv <= lvN o
 ·rw [if_pos hl] at hw ⊢
  rw [if_pos hl]; have hge : decide (lv <= lvN o) = true := decide_eq_true hl; have hp := hE _ _ g n P o t a k c hT hF.c hX hw; generalize lvN o = L at *; have HF := Lib.hid hF; clear hE hT hC hX hw ho hF; go_enter Tryz.func104, Tryz.ntmps104; go_wp2_with (go_at_call 63; refine (hLv _).mono ?_; rintro _ _ ⟨rfl, rfl⟩)
  refine hp.mono ?_; rintro _ w5 ⟨rfl, h5⟩; clear hp; go_wp2_with fail; refine bodyPost_end (v := .tuple #[]) (by simp [results, Tryz.results104, go_sem]) rfl ?_
  exact ⟨rfl, h5.1, HF.out.b.trans h5.2.1, HF.out.s.trans h5.2.2⟩
 ·rw [if_neg hl] at hw ⊢
  rw [if_neg hl]; have hge : decide (lv <= lvN o) = false := decide_eq_false hl; have w1 : wt (P ++ [pS sLp]) <= 1000000 := by simp only [wt_app, wt_some, wt_nil] at hw ⊢; omega
  have w2 : wt (P ++ [pS sLp] ++ pcX e) <= 1000000 := by simp only [wt_app, wt_some, wt_nil] at hw ⊢; omega
  have w3 : wt (P ++ [pS sLp] ++ pcX e ++ [pS sRp]) <= 1000000 := by simp only [wt_app, wt_some, wt_nil] at hw ⊢; omega
  have hn : n <= 1000000 := by have := hC.le; rw [wt_app] at hw; omega
  have hp := pSign_any _ w0.heap.size g (n + 1) P sLp hF.c.p.brace hF.c.ge w1; obtain ⟨hg3, hf3⟩ := hF.c.p.braces; generalize lvN o = L at *; have HF := Lib.hid hF; have HE := Lib.hid (fun W m Q => hE w0 W g m Q o t a k c hT); have HX := Lib.hid hX; have hgl := hF.c.gl; clear hE hT hC hX hw ho hF hl; go_enter Tryz.func104, Tryz.ntmps104; go_wp2_with (go_at_call 63; refine (hLv _).mono ?_; rintro _ _ ⟨rfl, rfl⟩)
  refine hp.mono ?_; rintro _ w5 ⟨rfl, h5⟩; clear hp hg3 hf3; have hF5 := HF.out.brace ⟨rfl, h5⟩; have hp := HE.out w5 _ _ hF5.c HX.out w2; have hx := hF5.x; have hxl := hx.lt; have HF5 := Lib.hid hF5; clear hF5 h5; have hxc0 := hx.cell 0 _ rfl; have hxf0 := hx.frozen 0; have hxc1 := hx.cell 1 _ rfl; have hxf1 := hx.frozen 1; have hxc2 := hx.cell 2 _ rfl; have hxf2 := hx.frozen 2; clear hx; go_wp2_with fail; refine hp.mono ?_; rintro _ w6 ⟨rfl, h6⟩; clear hp hxc0 hxc1 hxc2 hxf0 hxf1 hxf2; have hF6 := HF5.out.go ⟨rfl, h6⟩ (brX_le e); have hp := pSign_any w6 w0.heap.size g (n + 1 + brX e) _ sRp hF6.c.p hF6.c.ge w3; have HF6 := Lib.hid hF6; clear hF6 h6; go_wp2_with fail; refine hp.mono ?_; rintro _ w7 ⟨rfl, h7⟩; clear hp; have hF7 := HF6.out.go ⟨rfl, h7⟩ (Nat.zero_le _); go_wp2_with fail; refine bodyPost_end (v := .tuple #[]) (by simp [results, Tryz.results104, go_sem]) rfl ?_
  rw [show P ++ [pS sLp] ++ pcX e ++ [pS sRp] = P ++ (pS sLp :: (pcX e ++ [pS sRp])) by simp] at hF7
  exact hF7.fin (by omega)
end Go.Proofs.YthbhknfhmkhfgaaGreatDoor
