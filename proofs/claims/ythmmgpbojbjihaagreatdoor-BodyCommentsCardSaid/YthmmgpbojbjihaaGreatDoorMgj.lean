/- Texts of this claim, one behind the other: LxM, BoV, BoNp, BoNq, BoN, BoT, BoS, BoU, BoX. -/
import Derived.Test.YthmmgpbojbjihaaGreatDoorMga
import Derived.Test.YthmmgpbojbjihaaGreatDoorMgg
import Derived.Test.YthmmgpbojbjihaaGreatDoorMgh
import Derived.Test.YthmmgpbojbjihaaGreatDoorMgi
import Derived.Deep.Slices
import Derived.SliceStrings
import Derived.ChangeArms
set_option linter.unusedSimpArgs false
set_option linter.unusedVariables false

/- Plain law of layer 11: no token goes past the end of its line; the tokens of a text do not ask where it begins. -/
namespace Go.Proofs.YthmmgpbojbjihaaGreatDoor

/-! No byte of a quoted text is a control. -/
def NoCtl (l : List Nat) : Prop := ∀ x ∈ l, 32 ≤ x
theorem NoCtl.app {a b : List Nat} (h1 : NoCtl a) (h2 : NoCtl b) : NoCtl (a ++ b) := fun x hx => (List.mem_append.1 hx).elim (h1 x) (h2 x)
theorem hexV_ctl {c d : Nat} (h : hexV c = some d) : 32 ≤ c := by
  unfold hexV at h
  split at h
  · omega
  split at h
  · omega
  split at h
  · omega
  · cases h
theorem unitF_ctl : ∀ (k n : Nat) (l : List Nat), (unitF k n l).2 = 0 → NoCtl (l.take k)
  | 0, _, _, _ => by intro x hx; simp at hx
  | _ + 1, _, [], _ => by intro x hx; simp at hx
  | k + 1, n, c :: r, h => by
    simp only [unitF] at h
    cases hc : hexV c with
    | none => simp [hc] at h
    | some d =>
      rw [hc] at h
      simp only at h
      rw [List.take_succ_cons]
      intro x hx
      rcases List.mem_cons.1 hx with rfl | hx
      · exact hexV_ctl hc
      · exact unitF_ctl k _ r h x hx
theorem lowQ_ctl {n : Nat} {l : List Nat} (h : (lowQ n l).2.2 = 0) : NoCtl (l.take 6) := by
  match l with
  | [] => simp [lowQ, errR] at h
  | [c] => by_cases hc : c = 92 <;> simp [lowQ, errR, hc] at h
  | c :: d :: u =>
    by_cases hc : c = 92
    · by_cases hd : d = 117
      · have h1 : (unitQ u).2 = 0 := by
          unfold lowQ at h
          simp only at h
          rw [if_neg (by simp [hc]), if_neg (by simp [hd])] at h
          by_cases hu : (unitQ u).2 = 0
          · exact hu
          · rw [if_pos (by simpa using hu)] at h; exact absurd h hu
        have h2 := unitF_ctl 4 0 u h1
        subst hc hd
        simp only [List.take_succ_cons]
        intro x hx
        rcases List.mem_cons.1 hx with rfl | hx
        · decide
        rcases List.mem_cons.1 hx with rfl | hx
        · decide
        · exact h2 x hx
      · unfold lowQ at h; simp only at h; rw [if_neg (by simp [hc]), if_pos (by simpa using hd)] at h; simp [errR] at h
    · unfold lowQ at h; simp only at h; rw [if_pos (by simpa using hc)] at h; simp [errR] at h
theorem codedQ_ctl {r : List Nat} (h : (codedQ r).2.2 = 0) : NoCtl (r.take ((codedQ r).2.1 - 2)) := by
  have hu : (unitQ r).2 = 0 := by
    unfold codedQ at h
    by_cases hu : (unitQ r).2 = 0
    · exact hu
    · rw [if_pos (by simpa using hu)] at h; exact absurd h hu
  have h4 := unitF_ctl 4 0 r hu
  unfold codedQ at h ⊢
  rw [if_neg (by simp [hu])] at h ⊢
  by_cases h1 : 56320 ≤ (unitQ r).1 ∧ (unitQ r).1 ≤ 57343
  · rw [if_pos h1] at h; simp [errR] at h
  rw [if_neg h1] at h ⊢
  by_cases h2 : (unitQ r).1 < 55296 ∨ 57343 < (unitQ r).1
  · rw [if_pos h2]
    exact h4
  · rw [if_neg h2] at h ⊢
    obtain ⟨_, _, _, h12, h6⟩ := lowQ_ok (by have := unitQ_val hu; omega) h
    rw [h12]
    have hl := lowQ_ctl h
    show NoCtl (r.take 10)
    rw [show (10 : Nat) = 4 + 6 from rfl, List.take_add]
    exact h4.app hl
theorem oneN_ctl {c : Nat} {r : List Nat} (hl : Byt (c :: r)) (h1 : ¬ c < 32) (h : (oneN (c :: r)).2 ≠ 0) : NoCtl ((c :: r).take (oneN (c :: r)).2) := by
  obtain ⟨q1, q2, q3, q4⟩ := put_oneN (c := (oneN (c :: r)).1) (n := (oneN (c :: r)).2) hl rfl h
  rw [← q3]
  have hc : 32 ≤ (oneN (c :: r)).1 := by
    obtain ⟨j, hj⟩ : ∃ j, (oneN (c :: r)).2 = j + 1 := ⟨(oneN (c :: r)).2 - 1, by omega⟩
    by_cases h8 : (oneN (c :: r)).1 < 128
    · have : putN (oneN (c :: r)).1 = [(oneN (c :: r)).1] := by simp [putN, h8]
      rw [this, hj] at q3
      simp only [List.take_succ_cons, List.cons.injEq] at q3
      omega
    · omega
  generalize (oneN (c :: r)).1 = v at *
  intro x hx
  unfold putN at hx
  split at hx
  · simp at hx; omega
  split at hx
  · simp at hx; omega
  split at hx
  · simp at hx; omega
  · simp at hx; omega
theorem escB_ctl {c b : Nat} (h : escB c = some b) : 32 ≤ c := by
  unfold escB at h
  repeat' (split at h)
  all_goals first | (cases h; omega) | omega | cases h
theorem partQ_ctl {l : List Nat} (hl : Byt l) (h : (partQ l).2.2 = 0) : NoCtl (l.take (partQ l).2.1) := by
  match l with
  | [] => intro x hx; simp at hx
  | c :: r =>
    rw [partQ_cons] at h ⊢
    by_cases h1 : c < 32
    · rw [if_pos h1] at h; simp [errR] at h
    rw [if_neg h1] at h ⊢
    by_cases h2 : c = 92
    · rw [if_pos h2] at h ⊢
      match r with
      | [] => simp [escQ, errR] at h
      | d :: t =>
        simp only [escQ] at h ⊢
        cases hd : escB d with
        | some b =>
          simp only [List.take_succ_cons, List.take_zero]
          intro x hx
          simp at hx
          rcases hx with rfl | rfl
          · omega
          · exact escB_ctl hd
        | none =>
          rw [hd] at h
          simp only at h ⊢
          by_cases h3 : d = 117
          · rw [if_pos h3] at h ⊢
            have hc := codedQ_ctl h
            obtain ⟨k, hk⟩ : ∃ k, (codedQ t).2.1 = k + 2 := by
              have : (codedQ t).2.1 = 6 ∨ (codedQ t).2.1 = 12 := by
                unfold codedQ at h ⊢
                by_cases hu : (unitQ t).2 = 0
                · rw [if_neg (by simp [hu])] at h ⊢
                  by_cases g1 : 56320 ≤ (unitQ t).1 ∧ (unitQ t).1 ≤ 57343
                  · rw [if_pos g1] at h; simp [errR] at h
                  · rw [if_neg g1] at h ⊢
                    by_cases g2 : (unitQ t).1 < 55296 ∨ 57343 < (unitQ t).1
                    · rw [if_pos g2]; exact .inl rfl
                    · rw [if_neg g2] at h ⊢
                      exact .inr (lowQ_ok (by omega) h).choose_spec.2.2.1
                · rw [if_pos (by simpa using hu)] at h; exact absurd h hu
              rcases this with h | h
              · exact ⟨4, h⟩
              · exact ⟨10, h⟩
            rw [hk] at hc ⊢
            simp only [Nat.add_sub_cancel] at hc
            simp only [List.take_succ_cons]
            intro x hx
            rcases List.mem_cons.1 hx with rfl | hx
            · omega
            rcases List.mem_cons.1 hx with rfl | hx
            · omega
            · exact hc x hx
          · rw [if_neg h3] at h; simp [errR] at h
    · rw [if_neg h2] at h ⊢
      by_cases h3 : (oneN (c :: r)).2 = 0
      · rw [if_pos h3] at h; simp [errR] at h
      · rw [if_neg h3]
        exact oneN_ctl hl h1 h3
theorem bodyQ_ctl : ∀ (k : Nat) (l : List Nat), l.length ≤ k → Byt l → (bodyQ l).2.2 = 0 → NoCtl (l.take (bodyQ l).2.1)
  | k, l, hk, hl, h => by
    by_cases h34 : l.head? = some 34
    · have e : bodyQ l = ([], 1, 0) := by rw [bodyQ_step hl, if_pos h34]
      rw [e]
      cases l with
      | nil => cases h34
      | cons c r =>
        have hc : c = 34 := by simpa using h34
        subst hc
        intro x hx
        simp at hx
        omega
    · have hp : (partQ l).2.2 = 0 := by
        refine Decidable.byContradiction fun hn => ?_
        rw [bodyQ_step hl, if_neg h34, if_pos hn] at h
        exact hn h
      obtain ⟨_, _, _, q3, q4⟩ := partQ_ok hl hp
      have hr : (bodyQ (l.drop (partQ l).2.1)).2.2 = 0 := by
        refine Decidable.byContradiction fun hn => ?_
        rw [bodyQ_step hl, if_neg h34, if_neg (by simp [hp]), if_pos hn] at h
        exact hn h
      have e : bodyQ l = ((partQ l).1 ++ (bodyQ (l.drop (partQ l).2.1)).1, (partQ l).2.1 + (bodyQ (l.drop (partQ l).2.1)).2.1, 0) := by
        rw [bodyQ_step hl, if_neg h34, if_neg (by simp [hp]), if_neg (by simp [hr])]
      cases k with
      | zero => omega
      | succ k =>
        have ih := bodyQ_ctl k (l.drop (partQ l).2.1) (by simp; omega) (hl.drop _) hr
        rw [e, List.take_add]
        exact (partQ_ctl hl hp).app ih
theorem scanQ_ctl {l : List Nat} (hl : Byt l) (h : (scanQ l).2.2 = 0) : NoCtl (l.take (scanQ l).2.1) := by
  cases l with
  | nil => intro x hx; simp at hx
  | cons c r =>
    have hc : c = 34 := by
      refine Decidable.byContradiction fun hn => ?_
      rw [scanQ, if_pos hn] at h
      simp [errR] at h
    have e : scanQ (c :: r) = joinR [] 1 (bodyQ r) := by rw [scanQ, if_neg (by simpa using hc)]
    have hb : (bodyQ r).2.2 = 0 := by
      refine Decidable.byContradiction fun hn => ?_
      rw [e, joinR, if_pos hn] at h
      exact hn h
    have ih := bodyQ_ctl r.length r (Nat.le_refl _) (fun x hx => hl x (by simp [hx])) hb
    rw [e, joinR, if_neg (by simp [hb])]
    simp only
    rw [Nat.add_comm 1, List.take_succ_cons]
    intro x hx
    rcases List.mem_cons.1 hx with rfl | hx
    · omega
    · exact ih x hx
theorem quo1_nl {l b : Bs} {k n : Nat} (h : quo1 (l ++ 10 :: b) = .tok k n) : quo1 l = .tok k n := by
  unfold quo1 at h ⊢
  split at h
  · next hz =>
    have hc := scanQ_ctl (nb_byt _) hz
    have hsz := scanQ_size (nb_byt _) hz
    have hle : (scanQ (nb (l ++ 10 :: b))).2.1 ≤ l.length := by
      refine Nat.le_of_not_lt fun hlt => ?_
      generalize (scanQ (nb (l ++ 10 :: b))).2.1 = q at *
      have := hc 10 (by
        rw [nb_app]
        refine List.mem_take_iff_getElem.2 ⟨l.length, ?_, ?_⟩
        · simp [nb_len]; omega
        · rw [List.getElem_append_right (by simp [nb_len])]
          simp [nb])
      omega
    have hm := scanQ_more (l := nb (l ++ 10 :: b)) (m := nb (l.drop (scanQ (nb (l ++ 10 :: b))).2.1)) (nb_byt _) (nb_byt _) hz
    have he : (nb (l ++ 10 :: b)).take (scanQ (nb (l ++ 10 :: b))).2.1 ++ nb (l.drop (scanQ (nb (l ++ 10 :: b))).2.1) = nb l := by
      generalize (scanQ (nb (l ++ 10 :: b))).2.1 = m at *
      rw [nb_app, List.take_append_of_le_length (by rw [nb_len]; exact hle)]
      unfold nb
      rw [← List.map_take, ← List.map_append, List.take_append_drop]
    rw [he] at hm
    rw [hm, if_pos hz]
    exact h
  · cases h
theorem endN_spec : ∀ (l : Bs) (n : Nat), endN l = some n → l[n]? = some 42 ∧ l[n + 1]? = some 47
  | [], _, h => by cases h
  | c :: l, n, h => by
    rw [endN] at h
    split at h
    · next hc =>
      cases h
      cases l with
      | nil => simp at hc
      | cons d l => simp at hc; simp [hc.1, hc.2]
    · obtain ⟨m, hm, rfl⟩ := Option.map_eq_some_iff.1 h
      simpa using endN_spec l m hm
/-- An end that lies ahead of what is behind. -/
theorem endN_cut : ∀ (l s : Bs) (n : Nat), endN (l ++ s) = some n → n + 2 ≤ l.length → endN l = some n
  | [], _, _, _, hn => by simp at hn
  | [c], _, n, _, hn => by simp at hn
  | c :: d :: l, s, n, h, hn => by
    rw [List.cons_append, endN] at h
    rw [endN]
    have hh : ((d :: l) ++ s).head? = (d :: l).head? := rfl
    rw [hh] at h
    split at h
    · next hc => rw [if_pos hc]; exact h
    · next hc =>
      rw [if_neg hc]
      obtain ⟨m, hm, rfl⟩ := Option.map_eq_some_iff.1 h
      rw [endN_cut (d :: l) s m hm (by simp at hn ⊢; omega)]
      rfl
theorem aside1_nl {l b : Bs} {k n : Nat} (h : aside1 (l ++ 10 :: b) = .tok k n) (h2 : 2 ≤ l.length) : aside1 l = .tok k n := by
  unfold aside1 at h ⊢
  rw [List.drop_append_of_le_length h2] at h
  cases he : endN (l.drop 2 ++ 10 :: b) with
  | none => rw [he] at h; cases h
  | some m =>
    rw [he] at h
    simp only at h
    have hsp := endN_spec _ _ he
    by_cases hc : ((l ++ 10 :: b).take (m + 2)).contains 10 = true
    · rw [if_pos hc] at h; cases h
    · rw [if_neg hc] at h
      have hlen : (l.drop 2).length = l.length - 2 := List.length_drop
      have h10 : (l.drop 2 ++ 10 :: b)[l.length - 2]? = some 10 := by
        rw [List.getElem?_append_right (by omega)]; simp
      have hm1 : m + 2 ≤ l.length := by
        refine Nat.le_of_not_lt fun hlt => hc ?_
        rw [List.contains_iff_mem]
        refine List.mem_take_iff_getElem.2 ⟨l.length, ?_, ?_⟩
        · simp; omega
        · rw [List.getElem_append_right (Nat.le_refl _)]; simp
      have hm2 : m ≠ l.length - 2 := fun e => by rw [e, h10] at hsp; simp at hsp
      have hm3 : m + 1 ≠ l.length - 2 := fun e => by have := hsp.2; rw [e, h10] at this; simp at this
      rw [endN_cut _ _ m he (by omega)]
      simp only
      rw [List.take_append_of_le_length (by omega)] at hc h
      rw [if_neg hc]
      exact h
/-- What is told with the line's end behind, is told without. -/
theorem one1_cut {l : Bs} (hl : l ≠ []) {k n : Nat} {b : Bs} (h : one1 (l ++ 10 :: b) = .tok k n) : one1 l = .tok k n := by
  cases l with
  | nil => exact absurd rfl hl
  | cons c r =>
    rw [List.cons_append] at h
    rw [one1] at h ⊢
    split at h
    · next hc => rw [if_pos hc]; rw [idN_stop (by simp [idN, show idB 10 = false from rfl])] at h; exact h
    next hc =>
    rw [if_neg hc]
    split at h
    · next hg =>
      rw [if_pos hg]
      rw [← List.cons_append] at h
      unfold num1 at h ⊢
      rw [scanN_stop (stop_nl b) (by simp), List.take_append_of_le_length (scanN_le _)] at h
      exact h
    next hg =>
    rw [if_neg hg]
    split at h
    · next hq => rw [if_pos hq]; rw [← List.cons_append] at h; exact quo1_nl h
    next hq =>
    rw [if_neg hq]
    split at h
    · next h10 => rw [if_pos h10]; exact h
    next h10 =>
    rw [if_neg h10]
    have hh : ∀ x : UInt8, x ≠ 10 → (((r ++ 10 :: b).head? = some x) ↔ (r.head? = some x)) := fun x hx => by
      cases r with
      | nil => simp; exact fun e => hx e.symm
      | cons d r => simp
    simp only [hh 47 (by decide), hh 42 (by decide)] at h
    split at h
    · next hr => rw [if_pos hr]; rw [← List.cons_append, remS_nl] at h; exact h
    next hr =>
    rw [if_neg hr]
    split at h
    · next ha =>
      rw [if_pos ha]
      rw [← List.cons_append] at h
      exact aside1_nl h (by cases r with | nil => simp at ha | cons d r => simp)
    next ha =>
    rw [if_neg ha]
    rw [sgN_app (.inr (by simp))] at h
    exact h
theorem lex_cut : ∀ (k : Nat) (a : Bs) (p : Nat) (b : Bs), a.length ≤ k → (lexL (a ++ 10 :: b) p).2.2 = 0 → (lexL a p).2.2 = 0
  | k, [], p, b, _, _ => by rw [lexL_nil]
  | 0, c :: r, p, b, hk, _ => by simp at hk
  | k + 1, c :: r, p, b, hk, h => by
    simp only [List.length_cons] at hk
    rw [List.cons_append] at h
    cases hb : blankB c with
    | true =>
      rw [lexL_blank hb] at h ⊢
      exact lex_cut k r (p + 1) b (by omega) h
    | false =>
      cases ho : one1 (c :: (r ++ 10 :: b)) with
      | bad o e => rw [lexL_bad hb ho] at h; exact absurd h (one1_err ho)
      | tok kd sz =>
        have ho2 := one1_cut (l := c :: r) (by simp) (b := b) ho
        have hs := one1_size ho2
        rw [List.length_cons] at hs
        rw [lexL_tok hb ho, ← List.cons_append, List.drop_append_of_le_length (by simp; omega)] at h
        rw [lexL_tok hb ho2]
        exact lex_cut k _ _ b (by rw [List.length_drop, List.length_cons]; omega) h
/-- A token, so much further. -/
def shT (q : Nat) (t : Tok) : Tok := ⟨t.kind, t.text, t.pos + (q : Nat)⟩
theorem lex_shift : ∀ (k : Nat) (l : Bs) (p q : Nat), l.length ≤ k → lexL l (p + q) = ((lexL l p).1.map (shT q), if (lexL l p).2.2 = 0 then -1 else (lexL l p).2.1 + (q : Nat), (lexL l p).2.2)
  | k, [], p, q, _ => by rw [lexL_nil, lexL_nil]; rfl
  | 0, c :: r, p, q, hk => by simp at hk
  | k + 1, c :: r, p, q, hk => by
    simp only [List.length_cons] at hk
    cases hb : blankB c with
    | true =>
      rw [lexL_blank hb, lexL_blank hb, show p + q + 1 = p + 1 + q by omega]
      exact lex_shift k r (p + 1) q (by omega)
    | false =>
      cases ho : one1 (c :: r) with
      | bad o e =>
        rw [lexL_bad hb ho, lexL_bad hb ho]
        simp only [List.map_nil, if_neg (one1_err ho)]
        congr 2
        omega
      | tok kd sz =>
        have hs := one1_size ho
        rw [lexL_tok hb ho, lexL_tok hb ho, show p + q + sz = p + sz + q by omega, lex_shift k ((c :: r).drop sz) (p + sz) q (by rw [List.length_drop, List.length_cons]; omega)]
        simp only [List.map_cons, shT]
        congr 2
end Go.Proofs.YthmmgpbojbjihaaGreatDoor

/- Plain law of layer 13: lines that lie elsewhere, and lines behind lines, without any program. -/
namespace Go.Proofs.YthmmgpbojbjihaaGreatDoor

/-- What keeps kinds and texts of tokens. -/
def KT (f : Tok → Tok) : Prop := ∀ t, (f t).kind = t.kind ∧ (f t).text = t.text
theorem shT_kt (q : Nat) : KT (shT q) := fun _ => ⟨rfl, rfl⟩
section
variable {f : Tok → Tok} (hf : KT f)
include hf
theorem isS_map (r : List Tok) (w : ByteArray) : isS (r.map f) w = isS r w := by
  cases r with
  | nil => rfl
  | cons t r => simp only [List.map_cons, isS, (hf t).1, (hf t).2]
theorem isL_map (r : List Tok) (lv : Nat) : isL (r.map f) lv = isL r lv := by
  cases r with
  | nil => rfl
  | cons t r => simp only [List.map_cons, isL, (hf t).1, (hf t).2]
omit hf in
theorem badX_map (r : List Tok) (n : Nat) : badX (r.map f) n = badX r n := by cases r <;> rfl
set_option maxRecDepth 100000 in
set_option maxHeartbeats 1000000 in
theorem parX_map : ∀ (n : Nat) (t : Nt) (r : List Tok) (d : Nat), parX n t (r.map f) d = parX n t r d := by
  intro n
  induction n with
  | zero => intros; rfl
  | succ n ih =>
    intro t r d
    cases t with
    | ploop a =>
      simp only [parX, ← List.map_drop, isS_map hf, badX_map, ih]
      cases hq : r.drop 1 with
      | nil => rfl
      | cons t q => simp only [List.map_cons, (hf t).1, (hf t).2]
    | prime =>
      cases r with
      | nil => rfl
      | cons t r => 
        have e1 := isS_map hf (t :: r)
        have e2 := badX_map (f := f) (t :: r)
        have e3 := ih (.many sRb) (t :: r)
        have e4 := fun k => List.map_drop (l := t :: r) (i := k) (f := f)
        simp only [List.map_cons] at e1 e2 e3 e4
        simp only [List.map_cons, parX, (hf t).1, (hf t).2, e1, e2, e3, ← e4, isS_map hf, badX_map, ih]
    | _ => simp only [parX, ← List.map_drop, isS_map hf, isL_map hf, badX_map, ih]
theorem parE_map (r : List Tok) : parE (r.map f) = parE r := by
  unfold parE fuelX
  simp only [List.length_map, parX_map hf]
theorem labs_map : ∀ r : List Tok, labs (r.map f) = labs r
  | [] => rfl
  | t :: r => by simp only [List.map_cons, labs, (hf t).1, (hf t).2, labs_map r]
end
/-- A line's answer, so much further. -/
def shL (q : Nat) : LnR → LnR
  | .wrong a e => .wrong (if e = 0 then a else a + (q : Nat)) e
  | .empty => .empty
  | .attr x => .attr x
  | .begins x => .begins x
  | .bare x => .bare x
  | .fin => .fin
theorem lackR_sh (q : Nat) (row : List Tok) (stop : Int) (last : Bool) (i : Nat) : lackR (row.map (shT q)) (stop + (q : Nat)) last i = shL q (lackR row stop last i) := by
  unfold lackR
  rw [List.getElem?_map]
  cases row[i]? with
  | some t => rfl
  | none => cases last <;> rfl
theorem attrK_sh (q : Nat) (row : List Tok) (stop : Int) (last : Bool) (name : ByteArray) : attrK (row.map (shT q)) (stop + (q : Nat)) last name = shL q (attrK row stop last name) := by
  unfold attrK
  rw [← List.map_drop, parE_map (shT_kt q), List.length_map, lackR_sh, List.getElem?_map]
  split
  · rfl
  · split
    · rfl
    · next h1 h2 =>
      cases row[2 + (parE (row.drop 2)).2.1]? with
      | some t => simp only [Option.map_some, shL, if_neg h2]; rfl
      | none => rfl
theorem blockK_sh (q n : Nat) (row : List Tok) (stop : Int) (last : Bool) (name : ByteArray) : blockK n (row.map (shT q)) (stop + (q : Nat)) last name = shL q (blockK n row stop last name) := by
  unfold blockK
  simp only [← List.map_drop, labs_map (shT_kt q), isS_map (shT_kt q), List.length_map, lackR_sh, List.getElem?_map]
  split
  · rfl
  · split
    · cases row[1 + (labs (row.drop 1)).length]? with
      | some t => rfl
      | none => rfl
    · split
      · rfl
      · split
        · rfl
        · split <;> rfl
theorem lineK_sh (q n : Nat) (row : List Tok) (stop : Int) (last : Bool) : lineK n (row.map (shT q)) (stop + (q : Nat)) last = shL q (lineK n row stop last) := by
  cases row with
  | nil => rfl
  | cons t r =>
    have e1 := isS_map (shT_kt q) (t :: r)
    have e2 := lackR_sh q (t :: r) stop last
    have e3 := attrK_sh q (t :: r) stop last
    have e4 := blockK_sh q n (t :: r) stop last
    simp only [List.map_cons] at e1 e2 e3 e4
    simp only [List.map_cons, lineK, e1, e2, e3, e4, isS_map (shT_kt q), (shT_kt q t).1, (shT_kt q t).2, List.length_cons, List.length_map]
    split
    · split
      · rfl
      · split <;> rfl
    · split
      · rfl
      · split <;> rfl
/-- Stacks that differ in what the whole text's item has ahead. -/
def Ahead (pre : List Itm) (st st' : List Itm) : Prop := ∃ h h' r, st = h :: r ∧ st' = h' :: r ∧ h'.items = pre ++ h.items
theorem Itm.add_items (t x : Itm) : (t.add x).items = t.items ++ [x] := by cases t; rfl
theorem Ahead.len {pre st st' : List Itm} (h : Ahead pre st st') : st'.length = st.length := by
  obtain ⟨_, _, _, rfl, rfl, -⟩ := h
  rfl
theorem Ahead.ne {pre st st' : List Itm} (h : Ahead pre st st') : st ≠ [] := by
  obtain ⟨_, _, _, rfl, rfl, -⟩ := h
  simp
theorem Ahead.add {pre st st' : List Itm} (h : Ahead pre st st') (x : Itm) : Ahead pre (addTop st x) (addTop st' x) := by
  obtain ⟨a, b, r, rfl, rfl, e⟩ := h
  cases r with
  | nil => exact ⟨a.add x, b.add x, [], rfl, rfl, by rw [Itm.add_items, Itm.add_items, e, List.append_assoc]⟩
  | cons u r => exact ⟨a, b, addTop (u :: r) x, rfl, rfl, e⟩
theorem Ahead.push {pre st st' : List Itm} (h : Ahead pre st st') (x : Itm) : Ahead pre (st ++ [x]) (st' ++ [x]) := by
  obtain ⟨a, b, r, rfl, rfl, e⟩ := h
  exact ⟨a, b, r ++ [x], rfl, rfl, e⟩
theorem Ahead.pop {pre st st' : List Itm} (h : Ahead pre st st') (hl : st.length ≠ 1) : Ahead pre st.dropLast st'.dropLast ∧ st'.getLast?.getD zeroI = st.getLast?.getD zeroI := by
  obtain ⟨a, b, r, rfl, rfl, e⟩ := h
  cases r with
  | nil => simp at hl
  | cons u r => exact ⟨⟨a, b, (u :: r).dropLast, rfl, rfl, e⟩, by simp [List.getLast?_cons_cons]⟩
theorem readR_fin {n : Nat} {row : List Tok} {stop : Int} {last : Bool} {st : List Itm} (hl : st.length = n) (h : lineK n row stop last = .fin) : st.length ≠ 1 := by
  rw [hl]; exact lineK_fin h
theorem readK_sh {pre st st' : List Itm} (h : Ahead pre st st') (q : Nat) (row : List Tok) (stop : Int) (last : Bool) :
    (readK st' (row.map (shT q)) (stop + (q : Nat)) last).2.2 = (readK st row stop last).2.2 ∧ ((readK st row stop last).2.2 ≠ 0 → (readK st' (row.map (shT q)) (stop + (q : Nat)) last).2.1 = (readK st row stop last).2.1 + (q : Nat)) ∧
    Ahead pre (readK st row stop last).1 (readK st' (row.map (shT q)) (stop + (q : Nat)) last).1 := by
  rw [readK_R, readK_R, h.len, lineK_sh]
  have hf := fun e => readR_fin (st := st) (row := row) (stop := stop) (last := last) rfl e
  revert hf
  cases lineK st.length row stop last with
  | wrong a e => intro _; exact ⟨rfl, fun he => by simp only [shL, readR] at he ⊢; rw [if_neg he], h⟩
  | empty => intro _; exact ⟨rfl, fun he => absurd rfl he, h⟩
  | attr x => intro _; exact ⟨rfl, fun he => absurd rfl he, h.add x⟩
  | begins x => intro _; exact ⟨rfl, fun he => absurd rfl he, h.push x⟩
  | bare x => intro _; exact ⟨rfl, fun he => absurd rfl he, h.add x⟩
  | fin =>
    intro hf
    obtain ⟨h1, h2⟩ := h.pop (hf rfl)
    refine ⟨rfl, fun he => absurd rfl he, ?_⟩
    simp only [shL, readR, h2]
    exact h1.add _
/-- Answers of which the second one lies so much further, and has these items ahead. -/
def Sim (pre : List Itm) (q : Nat) (R R' : List Itm × Int × Int) : Prop := R'.2.2 = R.2.2 ∧ (R.2.2 ≠ 0 → R'.1 = [] ∧ R'.2.1 = R.2.1 + (q : Nat)) ∧ (R.2.2 = 0 → R'.1 = pre ++ R.1 ∧ R'.2.1 = -1)
theorem linesF_sh (size : Int) (q : Nat) (pre : List Itm) : ∀ (toks : List Tok) (st st' : List Itm) (row : List Tok), Ahead pre st st' → Sim pre q (linesF size toks st row) (linesF (size + (q : Nat)) (toks.map (shT q)) st' (row.map (shT q)))
  | [], st, st', row, h => by
    obtain ⟨h1, h2, h3⟩ := readK_sh h q row size true
    simp only [List.map_nil, linesF, h1, h3.len]
    by_cases he : (readK st row size true).2.2 = 0
    · rw [if_neg (c := (readK st row size true).2.2 ≠ 0) (fun q => q he), if_neg (c := (readK st row size true).2.2 ≠ 0) (fun q => q he)]
      split
      · exact ⟨rfl, fun _ => ⟨rfl, rfl⟩, fun e => by cases e⟩
      · next hn =>
        obtain ⟨a, b, r, e1, e2, e3⟩ := h3
        rw [e1, e2]
        exact ⟨rfl, fun e => absurd rfl e, fun _ => ⟨e3, rfl⟩⟩
    · rw [if_pos he, if_pos he]
      exact ⟨h1, fun _ => ⟨rfl, h2 he⟩, fun e => absurd e he⟩
  | t :: r, st, st', row, h => by
    simp only [List.map_cons, linesF, (shT_kt q t).1]
    split
    · exact linesF_sh size q pre r st st' row h
    · split
      · obtain ⟨h1, h2, h3⟩ := readK_sh h q row t.pos false
        have hp : (shT q t).pos = t.pos + (q : Nat) := rfl
        rw [hp, h1]
        by_cases he : (readK st row t.pos false).2.2 = 0
        · rw [if_neg (by simpa using he), if_neg (by simpa using he)]
          exact linesF_sh size q pre r _ _ [] h3
        · rw [if_pos he, if_pos he]
          exact ⟨h1, fun _ => ⟨rfl, h2 he⟩, fun e => absurd e he⟩
      · have := linesF_sh size q pre r st st' (row ++ [t]) h
        rw [List.map_append] at this
        exact this
/-- A line that isn't wrong at its end says the same wherever it ends. -/
theorem lackR_ne (row : List Tok) (stop : Int) (last : Bool) (i : Nat) : ∃ a e, e ≠ 0 ∧ lackR row stop last i = .wrong a e := by
  unfold lackR
  split
  · exact ⟨_, 3, by decide, rfl⟩
  · split
    · exact ⟨_, 2, by decide, rfl⟩
    · exact ⟨_, 3, by decide, rfl⟩
theorem lineK_last (n : Nat) (row : List Tok) (stop stop2 : Int) (last last2 : Bool) : lineK n row stop2 last2 = lineK n row stop last ∨ ∃ a e, e ≠ 0 ∧ lineK n row stop last = .wrong a e := by
  cases row with
  | nil => exact .inl rfl
  | cons t r =>
    simp only [lineK]
    split
    · split
      · exact .inr (lackR_ne _ _ _ _)
      · split
        · exact .inr (lackR_ne _ _ _ _)
        · exact .inl rfl
    · split
      · exact .inr (lackR_ne _ _ _ _)
      · split
        · unfold attrK
          split
          · exact .inr (lackR_ne _ _ _ _)
          · exact .inl rfl
        · unfold blockK
          simp only
          split
          · exact .inr (lackR_ne _ _ _ _)
          · split
            · exact .inl rfl
            · split
              · exact .inl rfl
              · split
                · exact .inr (lackR_ne _ _ _ _)
                · split
                  · exact .inr (lackR_ne _ _ _ _)
                  · exact .inl rfl
theorem readK_last {st : List Itm} {row : List Tok} {stop : Int} {last : Bool} (h : (readK st row stop last).2.2 = 0) (stop2 : Int) (last2 : Bool) : readK st row stop2 last2 = readK st row stop last := by
  rw [readK_R] at h ⊢
  rw [readK_R]
  rcases lineK_last st.length row stop stop2 last last2 with e | ⟨a, e, h1, h2⟩
  · rw [e]
  · rw [h2] at h; exact absurd h h1
theorem addTop_ne {st : List Itm} (h : st ≠ []) (x : Itm) : addTop st x ≠ [] := fun e => by
  have := addTop_len st x
  rw [e] at this
  exact h (List.eq_nil_of_length_eq_zero this.symm)
theorem readK_ne {st : List Itm} (hs : st ≠ []) (row : List Tok) (stop : Int) (last : Bool) : (readK st row stop last).1 ≠ [] := by
  rw [readK_R]
  have hf := fun e => readR_fin (st := st) (row := row) (stop := stop) (last := last) rfl e
  revert hf
  cases lineK st.length row stop last with
  | wrong a e => intro _; exact hs
  | empty => intro _; exact hs
  | attr x => intro _; exact addTop_ne hs x
  | begins x => intro _; simp [readR]
  | bare x => intro _; exact addTop_ne hs x
  | fin =>
    intro hf
    refine addTop_ne (fun e => hf rfl ?_) _
    have h1 := congrArg List.length e
    have h2 := List.length_pos_iff.2 hs
    rw [List.length_dropLast, List.length_nil] at h1
    omega
/-- Behind lines that end well one goes on with what they are. -/
theorem linesF_app (size size2 : Int) (x : ByteArray) (p : Int) (tb : List Tok) : ∀ (ta : List Tok) (st row : List Tok × List Itm), st.2 ≠ [] → (linesF size ta st.2 row.1).2.2 = 0 → ∃ t : Itm, t.items = (linesF size ta st.2 row.1).1 ∧ linesF size2 (ta ++ ⟨5, x, p⟩ :: tb) st.2 row.1 = linesF size2 tb [t] []
  | [], (_, st), (row, _), hs, h => by
    simp only at hs h ⊢
    simp only [linesF, List.nil_append] at h ⊢
    by_cases he : (readK st row size true).2.2 = 0
    · rw [if_neg (c := (readK st row size true).2.2 ≠ 0) (fun q => q he)] at h
      rw [if_neg (c := (readK st row size true).2.2 ≠ 0) (fun q => q he)]
      have h2 := readK_last he p false
      rw [if_neg (c := (5 : Int) = 6 ∨ (5 : Int) = 7) (by decide), if_pos (c := True) trivial, h2, if_neg (c := (readK st row size true).2.2 ≠ 0) (fun q => q he)]
      split at h
      · cases h
      · next hl =>
        have hn := readK_ne hs row size true
        generalize (readK st row size true).1 = S at *
        match S, hn, hl with
        | [t], _, _ => exact ⟨t, rfl, rfl⟩
        | _ :: _ :: _, _, hl => simp at hl
    · rw [if_pos he] at h
      exact absurd h he
  | t :: r, (u, st), (row, v), hs, h => by
    simp only at hs h ⊢
    simp only [linesF, List.cons_append] at h ⊢
    split
    · next hk =>
      rw [if_pos hk] at h
      exact linesF_app size size2 x p tb r (u, st) (row, v) hs h
    · next hk =>
      rw [if_neg hk] at h
      split
      · next h5 =>
        rw [if_pos h5] at h
        by_cases he : (readK st row t.pos false).2.2 = 0
        · rw [if_neg (by simpa using he)] at h ⊢
          rw [if_neg (by simpa using he)]
          exact linesF_app size size2 x p tb r (u, _) ([], v) (readK_ne hs _ _ _) h
        · rw [if_pos he] at h
          exact absurd h he
      · next h5 =>
        rw [if_neg h5] at h
        exact linesF_app size size2 x p tb r (u, st) (row ++ [t], v) hs h
theorem linesP_of {l : Bs} (h : (lexL l 0).2.2 = 0) : linesP l = linesF l.length (lexL l 0).1 [zeroI] [] := by
  unfold linesP lexP
  rw [if_pos h]
  simp
theorem linesP_bad {l : Bs} (h : (lexL l 0).2.2 ≠ 0) : linesP l = ([], (lexL l 0).2) := by
  unfold linesP lexP
  rw [if_neg h]
  simp only
  rw [if_pos h]
theorem linesP_lex {l : Bs} (h : (linesP l).2.2 = 0) : (lexL l 0).2.2 = 0 := by
  by_cases h2 : (lexL l 0).2.2 = 0
  · exact h2
  · rw [linesP_bad h2] at h; exact h
/-- Two configurations with the line's end between. -/
theorem linesP_join {s t : Bs} (h : (linesP s).2.2 = 0) : Sim (linesP s).1 (s.length + 1) (linesP t) (linesP (s ++ 10 :: t)) := by
  have hl := linesP_lex h
  have hn := lex_nl s.length s 0 t (Nat.le_refl _) hl
  have hq := lex_shift t.length t 0 (s.length + 1) (Nat.le_refl _)
  rw [Nat.zero_add] at hq
  rw [Nat.zero_add] at hn
  rw [hq] at hn
  by_cases ht : (lexL t 0).2.2 = 0
  · rw [linesP_of ht, linesP_of (l := s ++ 10 :: t) (by rw [hn]; exact ht), hn]
    rw [linesP_of hl] at h
    rw [linesP_of hl]
    obtain ⟨u, h1, h2⟩ := linesF_app s.length ((s ++ 10 :: t).length : Nat) (strL [10]) ((s.length : Nat) : Int) ((lexL t 0).1.map (shT (s.length + 1))) (lexL s 0).1 ([], [zeroI]) ([], []) (by simp) h
    simp only at h1 h2 ⊢
    rw [h2, ← h1]
    have h3 := linesF_sh (t.length : Nat) (s.length + 1) u.items (lexL t 0).1 [zeroI] [u] [] ⟨zeroI, u, [], rfl, rfl, by simp [zeroI, Itm.items]⟩
    rw [List.map_nil] at h3
    rw [show (((s ++ 10 :: t).length : Nat) : Int) = ((t.length : Nat) : Int) + ((s.length + 1 : Nat) : Int) by simp; omega]
    exact h3
  · rw [linesP_bad ht, linesP_bad (l := s ++ 10 :: t) (by rw [hn]; exact ht), hn]
    refine ⟨rfl, fun _ => ⟨rfl, ?_⟩, fun e => absurd e ht⟩
    simp only
    rw [if_neg ht]
end Go.Proofs.YthmmgpbojbjihaaGreatDoor

/- Plain law of layer 13: how many items lie open, and in what is open, behind lines. -/
namespace Go.Proofs.YthmmgpbojbjihaaGreatDoor

def Small (m : Nat) (st : List Itm) : Prop := st ≠ [] ∧ st.length ≤ m + 1 ∧ ∀ x ∈ st, x.items.length ≤ m
theorem Small.le {m k : Nat} {st : List Itm} (h : Small m st) (hk : m ≤ k) : Small k st := ⟨h.1, Nat.le_trans h.2.1 (by omega), fun x hx => Nat.le_trans (h.2.2 x hx) hk⟩
/-- What begins has no items yet. -/
def LnR.leaf : LnR → Prop
  | .attr x => x.items = []
  | .begins x => x.items = []
  | .bare x => x.items = []
  | _ => True
theorem lackR_leaf (row : List Tok) (stop : Int) (last : Bool) (i : Nat) : (lackR row stop last i).leaf := by
  obtain ⟨a, e, -, h⟩ := lackR_ne row stop last i
  rw [h]; trivial
theorem lineK_leaf (n : Nat) (row : List Tok) (stop : Int) (last : Bool) : (lineK n row stop last).leaf := by
  cases row with
  | nil => trivial
  | cons t r =>
    simp only [lineK]
    split
    · split
      · exact lackR_leaf ..
      · split
        · exact lackR_leaf ..
        · trivial
    · split
      · exact lackR_leaf ..
      · split
        · unfold attrK
          split
          · exact lackR_leaf ..
          · split
            · rfl
            · split <;> trivial
        · unfold blockK
          simp only
          split
          · exact lackR_leaf ..
          · split
            · split <;> trivial
            · split
              · rfl
              · split
                · exact lackR_leaf ..
                · split
                  · exact lackR_leaf ..
                  · rfl
/-- Without an error no place. -/
def LnR.calm : LnR → Prop
  | .wrong a e => e = 0 → a = 0
  | _ => True
theorem lackR_calm (row : List Tok) (stop : Int) (last : Bool) (i : Nat) : (lackR row stop last i).calm := by
  obtain ⟨a, e, he, h⟩ := lackR_ne row stop last i
  rw [h]; exact fun q => absurd q he
theorem lineK_calm (n : Nat) (row : List Tok) (stop : Int) (last : Bool) : (lineK n row stop last).calm := by
  cases row with
  | nil => trivial
  | cons t r =>
    simp only [lineK]
    split
    · split
      · exact lackR_calm ..
      · split
        · exact lackR_calm ..
        · trivial
    · split
      · exact lackR_calm ..
      · split
        · unfold attrK
          split
          · exact lackR_calm ..
          · split
            · trivial
            · next h1 h2 => split
                            · exact fun q => absurd q h2
                            · exact fun _ => rfl
        · unfold blockK
          simp only
          split
          · exact lackR_calm ..
          · split
            · split
              · exact fun q => by cases q
              · exact fun _ => rfl
            · split
              · trivial
              · split
                · exact lackR_calm ..
                · split
                  · exact lackR_calm ..
                  · trivial
theorem readK_zero {st : List Itm} {row : List Tok} {stop : Int} {last : Bool} (h : (readK st row stop last).2.2 = 0) : (readK st row stop last).2.1 = 0 := by
  rw [readK_R] at h ⊢
  have hc := lineK_calm st.length row stop last
  revert h hc
  cases lineK st.length row stop last with
  | wrong a e => intro h hc; exact hc h
  | _ => intro _ _; rfl
theorem addTop_small : ∀ (st : List Itm) (x : Itm) (m : Nat), (∀ y ∈ st, y.items.length ≤ m) → ∀ y ∈ addTop st x, y.items.length ≤ m + 1
  | [], _, _, _, y, hy => by cases hy
  | [t], x, m, h, y, hy => by
    simp only [addTop, List.mem_singleton] at hy
    subst hy
    rw [Itm.add_items, List.length_append]
    have := h t (by simp)
    simpa using this
  | t :: u :: r, x, m, h, y, hy => by
    simp only [addTop, List.mem_cons] at hy
    rcases hy with rfl | hy
    · exact Nat.le_succ_of_le (h _ (by simp))
    · exact addTop_small (u :: r) x m (fun z hz => h z (by simp at hz ⊢; exact .inr hz)) y hy
theorem readK_small {m : Nat} {st : List Itm} (h : Small m st) (row : List Tok) (stop : Int) (last : Bool) : Small (m + 1) (readK st row stop last).1 := by
  refine ⟨readK_ne h.1 row stop last, ?_⟩
  rw [readK_R]
  have hl := lineK_leaf st.length row stop last
  revert hl
  cases lineK st.length row stop last with
  | wrong a e => intro _; exact (h.le (Nat.le_succ m)).2
  | empty => intro _; exact (h.le (Nat.le_succ m)).2
  | attr x => intro _; exact ⟨by simp only [readR]; rw [addTop_len]; have := h.2.1; omega, addTop_small _ _ _ h.2.2⟩
  | begins x =>
    intro hl
    refine ⟨by simp only [readR, List.length_append, List.length_singleton]; have := h.2.1; omega, fun y hy => ?_⟩
    simp only [readR, List.mem_append, List.mem_singleton] at hy
    rcases hy with hy | rfl
    · exact Nat.le_succ_of_le (h.2.2 y hy)
    · simp only [LnR.leaf] at hl
      rw [hl]; exact Nat.zero_le _
  | bare x => intro _; exact ⟨by simp only [readR]; rw [addTop_len]; have := h.2.1; omega, addTop_small _ _ _ h.2.2⟩
  | fin =>
    intro _
    refine ⟨by simp only [readR]; rw [addTop_len, List.length_dropLast]; have := h.2.1; omega, addTop_small _ _ _ (fun y hy => h.2.2 y (List.dropLast_subset st hy))⟩
theorem zeroI_small : Small 0 [zeroI] := ⟨by simp, by simp, fun x hx => by simp at hx; subst hx; simp [zeroI, Itm.items]⟩
/-- What is left, with what has been gathered, is all. -/
def RestL (size : Int) (toks : List Tok) (k : Nat) (st : List Itm) (row : List Tok) : Prop := linesF size toks [zeroI] [] = linesF size (toks.drop k) st row
theorem RestL.zero (size : Int) (toks : List Tok) : RestL size toks 0 [zeroI] [] := rfl
section
variable {size : Int} {toks : List Tok} {k : Nat} {st : List Itm} {row : List Tok}
theorem RestL.open (h : RestL size toks k st row) (hk : k < toks.length) : linesF size toks [zeroI] [] = (if toks[k].kind = 6 ∨ toks[k].kind = 7 then linesF size (toks.drop (k + 1)) st row
    else if toks[k].kind = 5 then
      (if (readK st row toks[k].pos false).2.2 ≠ 0 then ([], (readK st row toks[k].pos false).2) else linesF size (toks.drop (k + 1)) (readK st row toks[k].pos false).1 [])
    else linesF size (toks.drop (k + 1)) st (row ++ [toks[k]])) := by
  unfold RestL at h
  rw [h, List.drop_eq_getElem_cons hk, linesF]
theorem RestL.skip (h : RestL size toks k st row) (hk : k < toks.length) (h6 : toks[k].kind = 6 ∨ toks[k].kind = 7) : RestL size toks (k + 1) st row := by
  have := h.open hk
  rw [if_pos h6] at this
  exact this
theorem RestL.bad (h : RestL size toks k st row) (hk : k < toks.length) (h5 : toks[k].kind = 5) (he : (readK st row toks[k].pos false).2.2 ≠ 0) : linesF size toks [zeroI] [] = ([], (readK st row toks[k].pos false).2) := by
  have := h.open hk
  rw [if_neg (by omega), if_pos h5, if_pos he] at this
  exact this
theorem RestL.line (h : RestL size toks k st row) (hk : k < toks.length) (h5 : toks[k].kind = 5) (he : (readK st row toks[k].pos false).2.2 = 0) : RestL size toks (k + 1) (readK st row toks[k].pos false).1 [] := by
  have := h.open hk
  rw [if_neg (by omega), if_pos h5, if_neg (by omega)] at this
  exact this
theorem RestL.tok (h : RestL size toks k st row) (hk : k < toks.length) (h5 : toks[k].kind ≠ 5) (h6 : ¬ (toks[k].kind = 6 ∨ toks[k].kind = 7)) : RestL size toks (k + 1) st (row ++ [toks[k]]) := by
  have := h.open hk
  rw [if_neg h6, if_neg h5] at this
  exact this
theorem RestL.last (h : RestL size toks k st row) (hk : toks.length ≤ k) : linesF size toks [zeroI] [] = (if (readK st row size true).2.2 ≠ 0 then ([], (readK st row size true).2)
    else if 1 < (readK st row size true).1.length then ([], size, 2)
    else (((readK st row size true).1.head?.getD zeroI).items, -1, 0)) := by
  unfold RestL at h
  rw [h, List.drop_eq_nil_of_le hk, linesF]
end
end Go.Proofs.YthmmgpbojbjihaaGreatDoor

/- While lines are read: what holds, and what each step keeps of it (layer 13). -/
namespace Go.Proofs.YthmmgpbojbjihaaGreatDoor
open Go.RowKit Go.Tab

def BodyP (R : List Itm × Int × Int) (w : World) (e : Ending) (w' : World) : Prop := (∃ v, e = .returned (.tuple #[v, .int .i64 R.2.1, .int .i64 R.2.2]) ∧ ItmsAt w' v R.1) ∧ Below w.heap.size w w'
theorem ItmsAt.nil {w : World} : ItmsAt w (.slice none 0 0) [] := ⟨none, 0, rfl, Nat.le_refl _, Nat.zero_le _, fun _ => rfl, fun x h => by cases h⟩
/-- What an item's last cell reads as. -/
theorem ItmAt.items {w : World} {t : Itm} {cs : List Value} {v : Value} (h : ItmAt w t cs) (h6 : cs[6]? = some v) : ItmsAt w v t.items := by
  obtain ⟨b, n, e, ls, its⟩ := t
  obtain ⟨vo, vt, vk, lv, a, cap, rfl, -, -, h3, h4, h5, h7⟩ := ItmR.open h
  simp only [List.getElem?_cons_succ, List.getElem?_cons_zero, Option.some.injEq] at h6
  subst h6
  exact ⟨a, cap, rfl, h3, h4, h5, h7⟩

structure InP (toks : List Tok) (size : Int) (B g k : Nat) (C : List Opn) (row : List Tok) (rv v : Value) (w wr : World) : Prop where
  st : StC B g rv.ownBlock wr v C
  box : PBox wr g v 0 0
  own : OwnT B wr rv row
  kept : Below B w wr
  big : B ≤ wr.heap.size
  rest : RestL size toks k (C.map (·.x)) row
  small : Small k (C.map (·.x))
  len : row.length ≤ k
  mem : ∀ t ∈ row, t ∈ toks
section
variable {toks : List Tok} {size : Int} {B g k : Nat} {C : List Opn} {row : List Tok} {rv v : Value} {w wr : World}
theorem InP.below (h : InP toks size B g k C row rv v w wr) {w' : World} (hb : Below wr.heap.size wr w') : InP toks size B g k C row rv v w w' :=
  ⟨h.st.below hb, h.box.below hb h.st.gl, h.own.below hb (Nat.le_refl _), h.kept.trans (hb.mono h.big), Nat.le_trans h.big hb.size, h.rest, h.small, h.len, h.mem⟩
theorem InP.skip (h : InP toks size B g k C row rv v w wr) (hk : k < toks.length) (h6 : toks[k].kind = 6 ∨ toks[k].kind = 7) : InP toks size B g (k + 1) C row rv v w wr :=
  ⟨h.st, h.box, h.own, h.kept, h.big, h.rest.skip hk h6, h.small.le (Nat.le_succ k), Nat.le_succ_of_le h.len, h.mem⟩
theorem InP.tok (h : InP toks size B g k C row rv v w wr) (hk : k < toks.length) (h5 : toks[k].kind ≠ 5) (h6 : ¬ (toks[k].kind = 6 ∨ toks[k].kind = 7)) {g3 n cap3 : Nat} {w3 : World}
    (h1 : OwnT B w3 (.slice (some ⟨g3, 0, none⟩) n cap3) (row ++ [toks[k]])) (h2 : wr.grownBy w3 rv.ownBlock) (h3 : rv.ownBlock = some g3 ∨ g3 = wr.heap.size) (h4 : g3 < w3.heap.size) :
    InP toks size B g (k + 1) C (row ++ [toks[k]]) (.slice (some ⟨g3, 0, none⟩) n cap3) v w w3 := by
  have hrl : ∀ b, rv.ownBlock = some b → B ≤ b ∧ b < wr.heap.size := World.ownsRow.lt h.own
  have hk2 : ∀ b, b < wr.heap.size → b ≠ g → rv.ownBlock ≠ some b → w3.heap[b]? = wr.heap[b]? := fun b hb _ hn => h2.block b hb (fun e => hn e.symm)
  refine ⟨h.st.keep h2.size hk2 (fun b e => ?_), ?_, h1, h.kept.trans ⟨h2.os, h2.tape, h2.output, h2.size, fun b hb => h2.block b (Nat.lt_of_lt_of_le hb h.big) (fun e => by have := (hrl b e.symm).1; omega)⟩, Nat.le_trans h.big h2.size, h.rest.tok hk h5 h6, h.small.le (Nat.le_succ k), by rw [List.length_append]; simpa using h.len, fun t ht => ?_⟩
  · simp only [Value.ownBlock, Option.some.injEq] at e
    subst e
    exact ⟨h3.imp id (fun q => by omega), h4⟩
  · exact h.box.kept h2 (fun e => h.st.apart.rg e.symm)
  · rcases List.mem_append.1 ht with ht | ht
    · exact h.mem t ht
    · simp at ht; subst ht; exact List.getElem_mem hk
/-- A row of tokens cut to nothing. -/
theorem OwnT.none {base : Nat} {a : Option Addr} {n cap : Nat} {l : List Tok} (h : OwnT base w (.slice a n cap) l) : OwnT base w (.slice a 0 cap) [] := by
  obtain ⟨h1, h2⟩ := h
  refine ⟨rfl, ?_⟩
  rcases h2 with ⟨h2, -⟩ | ⟨g, cap', cur, he, hb, hg, h3, h4, h5, h6⟩
  · cases h2; exact .inl ⟨rfl, rfl⟩
  · cases he; exact .inr ⟨_, _, cur, rfl, hb, hg, Nat.zero_le _, h4, h5, by simp⟩
theorem OwnT.capB {base : Nat} {a : Option Addr} {n cap : Nat} {l : List Tok} (h : OwnT base w (.slice a n cap) l) : n = l.length ∧ n ≤ cap ∧ cap ≤ maxLen := by
  obtain ⟨h1, h2⟩ := h
  rcases h2 with ⟨h2, h3⟩ | ⟨g, cap', cur, he, hb, hg, h3, h4, h5, h6⟩
  · cases h2; exact ⟨h3.symm, Nat.le_refl _, Nat.zero_le _⟩
  · cases he; exact ⟨rfl, h3, h4⟩
/-- Behind a line that ends well. -/
theorem InP.line {a : Option Addr} {n cap : Nat} (h : InP toks size B g k C row (.slice a n cap) v w wr) (hk : k < toks.length) (h5 : toks[k].kind = 5) (he : (readK (C.map (·.x)) row toks[k].pos false).2.2 = 0) {w3 : World} {v3 : Value} {C3 : List Opn} {e1 : Int}
    (h0 : (readK (C.map (·.x)) row toks[k].pos false).1 = C3.map (·.x)) (h1 : StC B g (Value.slice a n cap).ownBlock w3 v3 C3) (h2 : PBox w3 g v3 e1 (readK (C.map (·.x)) row toks[k].pos false).2.2) (h21 : e1 = 0) (h3 : KeepR B (Value.slice a n cap).ownBlock wr w3) :
    InP toks size B g (k + 1) C3 [] (.slice a 0 cap) v3 w w3 := by
  rw [he] at h2
  subst h21
  have hob : (Value.slice a 0 cap).ownBlock = (Value.slice a n cap).ownBlock := by cases a <;> rfl
  exact ⟨by rw [hob]; exact h1, h2, (h.own.moved (fun b e => h3.2 b e)).none, h.kept.trans h3.1, Nat.le_trans h.big h3.1.size, by rw [← h0]; exact h.rest.line hk h5 he, by rw [← h0]; exact readK_small h.small _ _ _, Nat.zero_le _, fun t ht => by cases ht⟩
end
section
variable {P : Program} {w : World} {ops : Array Oper} {rest : List Oper} {o : Oper} {a : Act} {Q : Exit → Act → World → Prop}
/-- 's[:0]'. -/
theorem wpList_slice_none (hgd : Region.wanted o (yielded ops a.tmps) = true) (x hi : Operand) (t : TypeId) (sz : Nat) (ho : o.op = .slice t x none (some hi) none)
    (ht : P.underlying t = some (.slice (P.elem t))) (hs : (P.info? (P.elem t)).map (fun i => i.size) = some sz)
    (ad : Option Addr) (n cap : Nat) (hx : a.eval x = .slice ad n cap) (k : IntKind) (eH : a.eval hi = .int k 0)
    (hK : wpList P ops Q rest (a.put o.dst (.slice ad 0 cap)) w) : wpList P ops Q (o :: rest) a w := by
  refine wpList_want hgd fun K hK' => ?_
  have hrun := run_slice_h (P := P) w t ad n cap ht k 0 (by omega) (by omega)
  unfold Oper.wp
  simp only [execOp, ho, hx, eH, Option.map_some, Option.map_none, Sem.run_bind, run_sliceAt_slice (P := P) w t _ _ _ _ ht, hrun, run_sizeOf_n hs, Result.andThen, Sem.run_pure, Oper.upon_value, Int.toNat_zero]
  have e1 : sliced ad 0 0 cap sz = .slice ad 0 cap := by
    unfold sliced
    cases ad with
    | none => simp
    | some y => simp [Addr.add]
  rw [e1]
  exact hK' _ _ hK
/-- 'make([]T, n)', with what lies in it. -/
theorem wpList_make_z (hgd : Region.wanted o (yielded ops a.tmps) = true) (l c : Operand) (t : TypeId) (hop : o.op = .makeSlice t l c)
    (e : TypeId) (bytes size : Nat) (z : Value) (ht : P.underlying t = some (.slice e)) (hi : (P.info? e).map (fun i => (i.zero, i.size, i.bytes)) = some (some z, size, bytes))
    (kl kc : IntKind) (n : Nat) (hl : a.eval l = .int kl (n : Int)) (hc : a.eval c = .int kc (n : Int)) (hby : bytes * n ≤ 281474976710656) (hm : n ≤ maxLen)
    (hK : wpList P ops Q rest (a.put o.dst (.slice (some ⟨w.heap.size, 0, Option.none⟩) n n)) (w.alloc (.cells (madeCells z.cells (n * size)) e))) : wpList P ops Q (o :: rest) a w := by
  obtain ⟨i, hi1, hi2⟩ := Option.map_eq_some_iff.1 hi
  simp only [Prod.mk.injEq] at hi2
  obtain ⟨hz, hs, hb⟩ := hi2
  refine wpList_want hgd fun K hK' => ?_
  have hb' : (i.bytes : Int) * (n : Int) ≤ 281474976710656 := by
    have h : ((i.bytes * n : Nat) : Int) ≤ 281474976710656 := by rw [hb]; omega
    rwa [Int.natCast_mul] at h
  have hr := run_make (P := P) w t e i z ht hi1 hz kl kc n n (by omega) (Int.le_refl _) hb' (by simp [maxLen] at hm; omega)
  simp only [Int.toNat_natCast, hs] at hr
  unfold Oper.wp
  simp [execOp, hop, hl, hc, hr, Result.andThen]
  exact hK' _ _ hK
end
/-- What stands before the first line. -/
theorem InP.start (toks : List Tok) (size : Int) (w : World) :
    InP toks size w.heap.size (w.heap.size + 1) 0 [⟨zeroI, zeroIC, .slice none 0 0⟩] [] (.slice none 0 0) (.slice (some ⟨w.heap.size, 0, none⟩) 1 1) w
      ((w.alloc (.cells zeroIC.toArray 37)).alloc (.cells #[.slice (some ⟨w.heap.size, 0, none⟩) 1 1, .int .i64 0, .int .i64 0] 43)) := by
  have hB : Below w.heap.size w ((w.alloc (.cells zeroIC.toArray 37)).alloc (.cells #[.slice (some ⟨w.heap.size, 0, none⟩) 1 1, .int .i64 0, .int .i64 0] 43)) := ((Below.refl _ w).alloc (Nat.le_refl _) _).alloc (by simp) _
  have hc := Cells.new (w.alloc (.cells zeroIC.toArray 37)) #[.slice (some ⟨w.heap.size, 0, none⟩) 1 1, .int .i64 0, .int .i64 0] 43
  rw [World.size_alloc] at hc
  have hrow : ((w.alloc (.cells zeroIC.toArray 37)).alloc (.cells #[.slice (some ⟨w.heap.size, 0, none⟩) 1 1, .int .i64 0, .int .i64 0] 43)).ownsRow w.heap.size 37 7 (.slice (some ⟨w.heap.size, 0, none⟩) 1 1) 1 zeroIC := by
    refine World.ownsRow.alloc (w := w.alloc (.cells zeroIC.toArray 37)) ⟨rfl, .inr ⟨w.heap.size, 1, zeroIC.toArray, rfl, Nat.le_refl _, ?_, Nat.le_refl _, by unfold maxLen; omega, rfl, rfl⟩⟩ _
    exact Cells.new w zeroIC.toArray 37
  refine ⟨⟨by simp, fun b e => (by cases e), hrow, ⟨?_, fun b _ e => (by cases e), (fun e => by cases e), fun c hc b e => ?_, by simp⟩, fun c hc => ?_⟩, hc, OwnT.nil, hB, hB.size, RestL.zero size toks, zeroI_small, Nat.le_refl _, fun t ht => by cases ht⟩
  · simp only [Value.ownBlock, ne_eq, Option.some.injEq]; omega
  · simp at hc; subst hc; cases e
  · simp at hc; subst hc
    exact OneAt.fresh (ItmIn.zero _ _) rfl
/-- The whole text's items, when all is read. -/
theorem StC.end {B g : Nat} {rb : Option Nat} {w : World} {v : Value} {C : List Opn} (h : StC B g rb w v C) (hn : ¬ 1 < C.length) (h0 : C ≠ []) :
    ∃ ob oc iv, v = .slice (some ⟨ob, 0, none⟩) 1 oc ∧ w.cell? ⟨ob, 6, none⟩ = some iv ∧ ItmsAt w iv ((C.map (·.x)).head?.getD zeroI).items := by
  obtain ⟨c, rfl⟩ : ∃ c, C = [c] := by
    match C, hn, h0 with
    | [c], _, _ => exact ⟨c, rfl⟩
    | _ :: _ :: _, hn, _ => simp at hn
  have hc := h.all c (by simp)
  obtain ⟨ob, oc, q, -⟩ := World.ownsRow.form h.row (by simp)
  have q' : v = .slice (some ⟨ob, 0, none⟩) 1 oc := q
  subst q'
  have hro := h.row
  refine ⟨ob, oc, c.iv, rfl, ?_, ?_⟩
  · have := hro.cellAt 6 (by simp)
    rw [this]
    simpa using hc.cell6
  · exact ItmAt.items (ItmIn.at _ _ (hc.itm (Q := fun _ => True) (fun _ _ _ => trivial) (fun _ _ => trivial))) hc.cell6
end Go.Proofs.YthmmgpbojbjihaaGreatDoor

/- The walk of the parser of configurations (layer 13). -/
namespace Go.Proofs.YthmmgpbojbjihaaGreatDoor
open Go.RowKit Go.Tab

set_option maxHeartbeats 4000000 in
set_option maxRecDepth 100000 in
/-- One line is read, whatever is open. -/
theorem readI_any {toks : List Tok} {size : Int} {B g k : Nat} {C : List Opn} {row : List Tok} {rv v : Value} {w wr : World} (h : InP toks size B g k C row rv v w wr) (stop : Int) (last : Bool) (hT : LexT wr) (hk : k ≤ 800000) (hB : B ≤ g) (hsh : ∀ t ∈ toks, t.text.size ≤ 1000000) (hq : ∀ t ∈ toks, t.kind = 3 → quoX t.text ≠ none) :
    Calls Tryz.prog 12 #[.pointer (some ⟨g, 0, none⟩), lineV rv stop last] wr (ReadP B g rv.ownBlock (readK (C.map (·.x)) row stop last) wr) := by
  rcases List.eq_nil_or_concat C with rfl | ⟨C0, c, hC⟩
  · exact absurd rfl h.small.1
  · rw [List.concat_eq_append] at hC
    subst hC
    have hl := h.small.2.1
    simp only [List.length_map, List.length_append, List.length_singleton] at hl
    exact read_any B g rv.ownBlock v C0 c row rv stop last wr h.st h.box h.own.toks (fun b e => (World.ownsRow.lt h.own b e).2) hT (by have := h.len; omega) (fun t ht => hsh t (h.mem t ht)) (fun t ht => hq t (h.mem t ht)) (by omega)
      (fun d hd => by have := h.small.2.2 d.x (List.mem_map.2 ⟨d, hd, rfl⟩); omega) h.big hB

/-- 'append(s, t)' of a token: the new row lies where the old one lay, or anew. -/
theorem wpList_append_tokL {w : World} {ops : Array Oper} {rest : List Oper} {o : Oper} {a : Act} {Q : Exit → Act → World → Prop} (hgd : o.guard = none) (s x : Operand)
    (ho : o.op = .call { callee := .builtin .append, args := #[s, x], argTypes := #[38, 38] })
    (base : Nat) (l : List Tok) (t : Tok) (hown : OwnT base w (a.eval s) l) (g : Nat) (hx : a.eval x = .slice (some ⟨g, 0, none⟩) 1 1)
    (hc : Cells w g #[.int .i64 t.kind, .string t.text, .int .i64 t.pos] 45)
    (hm : l.length ≤ 1000000) (hbase : base ≤ w.heap.size) (H : Nat) (hH : w.heap.size = H)
    (hK : ∀ gb cap w', OwnT base w' (.slice (some ⟨gb, 0, none⟩) (l.length + 1) cap) (l ++ [t]) → w.grownBy w' (a.eval s).ownBlock → ((a.eval s).ownBlock = some gb ∨ gb = H) → gb < w'.heap.size →
      wpList Tryz.prog ops Q rest (a.put o.dst (.slice (some ⟨gb, 0, none⟩) (l.length + 1) cap)) w') : wpList Tryz.prog ops Q (o :: rest) a w := by
  obtain ⟨i, hi1, hi2, hi3, hi4⟩ := info_parts Tryz.infoTok
  refine wpList_append_lies w hgd s x 38 ho base 45 i _ 3 32 Tryz.underlying38 hi1 hi2 hi3 hi4 rfl (by decide) (a.eval s) l.length (l.flatMap tokC) rfl hown ⟨g, 0, none⟩ 1 1 (tokC t) hx rfl ?_ (tokC_one t) (by omega) (by unfold maxLen; omega) (by omega) hbase H hH ?_
  · intro j u hu
    rw [Addr.add_lit, Nat.zero_add]
    exact hc.cell _ _ (by simpa [tokC] using hu)
  · intro gb cap w' hown' hg hat hlt
    exact hK gb cap w' (by unfold OwnT; simpa using hown') hg hat hlt
set_option maxHeartbeats 8000000 in
set_option maxRecDepth 100000 in
theorem bodyParse_any (s : ByteArray) (w : World) (hT : LexT w) (hs : s.size ≤ 800000) : Calls Tryz.prog 7 #[.string s] w (BodyP (linesP s.data.toList) w) := by
  have hL := lexParse_any s w hT (by omega)
  obtain ⟨hlen, htxt⟩ := lexP_len s.data.toList
  have hquo : ∀ t ∈ (lexP s.data.toList).1, t.kind = 3 → quoX t.text ≠ none := by
    have := lexL_quo s.data.toList.length s.data.toList 0 (Nat.le_refl _)
    unfold lexP
    split
    · exact this
    · intro t ht
      cases ht
  have hsz : s.data.toList.length = s.size := size_list2 s
  rw [hsz] at hlen htxt
  have hR : linesP s.data.toList = (if (lexP s.data.toList).2.2 ≠ 0 then ([], (lexP s.data.toList).2) else linesF s.size (lexP s.data.toList).1 [zeroI] []) := by unfold linesP; rw [hsz]
  rw [hR]
  generalize lexP s.data.toList = X at *
  obtain ⟨toks, at_, er⟩ := X
  simp only at hL hlen htxt hquo ⊢
  clear hR hsz
  obtain ⟨R, hRd⟩ : ∃ R, R = (if er ≠ 0 then (([] : List Itm), at_, er) else linesF s.size toks [zeroI] []) := ⟨_, rfl⟩
  rw [← hRd]
  have HRD := Lib.hid hRd
  clear hRd
  have HT := Lib.hid (And.intro htxt hquo)
  clear htxt hquo
  go_enter Tryz.func7, Tryz.ntmps7
  go_wp2_with fail
  refine hL.mono ?_
  clear hL
  rintro _ w1 ⟨tv, rfl, hown, hb1⟩
  by_cases he : er = 0
  · subst he
    have hT1 := hT.below hb1
    have hpos := hT1.utf.pos
    have htk := hown.toks
    obtain ⟨ta, tc, rfl⟩ := hown.len
    have HB1 := Lib.hid (And.intro hb1 hT1)
    have HOW := Lib.hid htk
    have HRL : Hid (R = linesF s.size toks [zeroI] []) := Lib.hid (by rw [HRD.out, if_neg (fun q => q rfl)])
    clear hown htk hb1 hT1 hpos hT
    obtain ⟨G, hG⟩ : ∃ G, G = w1.heap.size + 1 := ⟨_, rfl⟩
    have HG := Lib.hid hG
    go_wp2_with (with_reducible first | refine stop_make ?_)
    refine Stop.out ?_
    refine wpList_make_z rfl _ _ _ rfl 37 128 7 _ Tryz.underlying23 Tryz.infoItm _ _ 1 rfl rfl (by omega) (by unfold maxLen; omega) ?_
    rw [show madeCells (Value.agg #[.bool false, .string ⟨#[]⟩, .string ⟨#[]⟩, .string ⟨#[]⟩, .slice none 0 0, .slice none 0 0, .slice none 0 0]).cells (1 * 7) = zeroIC.toArray by kernel_rfl]
    go_wp2_with fail
    rw [← hG]
    have hstart := InP.start toks s.size w1
    rw [← hG] at hstart
    clear hG
    go_loopw [7, 9, 25] (fun rv _ i wr => ∃ (k : Nat) (C : List Opn) (row : List Tok) (v : Value), k ≤ toks.length ∧ i = .int .i64 (k : Int) ∧ InP toks s.size w1.heap.size G k C row rv v w1 wr) (fun _ _ i _ => toks.length - (intOf i).toNat)
    case atStart => exact ⟨0, _, [], _, Nat.zero_le _, rfl, hstart⟩
    case round =>
      clear hstart
      obtain ⟨k, C, row, v, hk, rfl, hI⟩ := hrel
      have hTr := LexT.below HB1.out.2 hI.kept
      have hGl : G < wr.heap.size := hI.st.gl
      have hw1 : w1.heap.size ≤ wr.heap.size := hI.big
      obtain ⟨ra, rc, rfl⟩ := hI.own.len
      by_cases hkl : k < toks.length
      · obtain ⟨bb, off, rfl, hlt, q0, q1, q2⟩ := (HOW.out.below hI.kept (Nat.le_refl _)).get hkl
        have hA : Below wr.heap.size wr (wr.alloc (.cells #[.int .i64 toks[k].kind, .string toks[k].text, .int .i64 toks[k].pos] 45)) := (Below.refl _ wr).alloc (Nat.le_refl _) _
        have hI1 := hI.below hA
        have hNew := Cells.new wr #[.int .i64 toks[k].kind, .string toks[k].text, .int .i64 toks[k].pos] 45
        have HS := Lib.hid (fun h6 => hI1.skip hkl h6)
        have HR := Lib.hid (And.intro (fun stop last => readI_any hI1 stop last (hTr.below hA) (by omega) (by have := HG.out; omega) (fun t ht => Nat.le_trans (HT.out.1 t ht) (by omega)) HT.out.2) (And.intro hI hI1))
        have hbx := hI.box
        clear hI hI1 hTr hA
        have hKind : ∃ kd tx ps, toks[k].kind = kd ∧ toks[k].text = tx ∧ toks[k].pos = ps := ⟨_, _, _, rfl, rfl, rfl⟩
        obtain ⟨kd, tx, ps, hkd, htx, hps⟩ := hKind
        have HK := Lib.hid (And.intro hkd (And.intro htx hps))
        rw [hkd, htx, hps] at hNew
        rw [hkd] at q0
        rw [htx] at q1
        rw [hps] at q2
        have HQ : Hid (wr.alloc (.cells #[.int .i64 toks[k].kind, .string toks[k].text, .int .i64 toks[k].pos] 45) = wr.alloc (.cells #[.int .i64 kd, .string tx, .int .i64 ps] 45)) := Lib.hid (by rw [hkd, htx, hps])
        clear hkd htx hps
        by_cases h6 : kd = 6 ∨ kd = 7
        · have hS := HS.out (by rw [HK.out.1]; exact h6)
          rw [HQ.out] at hS
          have HS6 := Lib.hid hS
          have hbxc0 := hbx.cell 0 _ rfl
          have hbxf0 := hbx.frozen 0
          have hbxc1 := hbx.cell 1 _ rfl
          have hbxf1 := hbx.frozen 1
          have hbxc2 := hbx.cell 2 _ rfl
          have hbxf2 := hbx.frozen 2
          clear hS HS HR hbx hNew
          rcases h6 with rfl | rfl
          · have e5 : ((6 : Int) != 5) = true := by decide
            go_wp2_with fail
            go_roundw
            case rel => exact ⟨k + 1, C, row, v, hkl, by go_num, HS6.out⟩
            case measure => simp [intOf]; omega
          · go_wp2_with fail
            go_roundw
            case rel => exact ⟨k + 1, C, row, v, hkl, by go_num, HS6.out⟩
            case measure => simp [intOf]; omega
        · by_cases h5 : kd = 5
          · subst h5
            have hrd := HR.out.1 ps false
            obtain ⟨RR, hRR⟩ : ∃ RR, RR = readK (C.map (·.x)) row ps false := ⟨_, rfl⟩
            rw [← hRR] at hrd
            rw [HQ.out] at hrd
            have HRR := Lib.hid hRR
            have hbxc0 := hbx.cell 0 _ rfl
            have hbxf0 := hbx.frozen 0
            have hbxc1 := hbx.cell 1 _ rfl
            have hbxf1 := hbx.frozen 1
            have hbxc2 := hbx.cell 2 _ rfl
            have hbxf2 := hbx.frozen 2
            clear hRR hbx h6
            have e6 : ((5 : Int) == 6) = false := by decide
            have e7 : ((5 : Int) == 7) = false := by decide
            go_wp2_with fail
            refine hrd.mono ?_
            clear hrd hNew hbxc0 hbxc1 hbxc2 hbxf0 hbxf1 hbxf2
            rintro _ w3 ⟨rfl, v3, ⟨C3, hC3, hS3⟩, hP3, hK3⟩
            have hG3 : G < w3.heap.size := hS3.gl
            have hcap := HR.out.2.1.own.capB
            obtain ⟨-, hcap1, hcap2⟩ := hcap
            unfold maxLen at hcap2
            by_cases he5 : RR.2.2 = 0
            · have hz : RR.2.1 = 0 := by rw [HRR.out] at he5 ⊢; exact readK_zero he5
              rw [he5, hz] at hP3
              have hL : Hid (InP toks s.size w1.heap.size G (k + 1) C3 [] (.slice ra 0 rc) v3 w1 w3) := Lib.hid (by
                have hI1 := HR.out.2.2
                have h9 : RR = readK (C.map (·.x)) row toks[k].pos false := by rw [HK.out.2.2]; exact HRR.out
                rw [h9] at he5 hC3
                refine hI1.line hkl HK.out.1 he5 hC3 hS3 (e1 := 0) ?_ rfl (by rw [HQ.out]; exact hK3)
                rw [he5]; exact hP3)
              have hP3c0 := hP3.cell 0 _ rfl
              have hP3f0 := hP3.frozen 0
              have hP3c1 := hP3.cell 1 _ rfl
              have hP3f1 := hP3.frozen 1
              have hP3c2 := hP3.cell 2 _ rfl
              have hP3f2 := hP3.frozen 2
              clear hP3 hC3 hS3 hK3 HR HS he5 hz HRR HQ
              go_wp2_with (with_reducible first | refine stop_slice ?_)
              refine Stop.out ?_
              refine wpList_slice_none rfl _ _ _ 3 rfl Tryz.underlying38 (by kernel_rfl) ra row.length rc rfl _ rfl ?_
              go_wp2_with fail
              go_roundw
              case rel => exact ⟨k + 1, C3, [], v3, hkl, by go_num, hL.out⟩
              case measure => simp [intOf]; omega
            · have hbad : Hid (R = ([], RR.2)) := Lib.hid (by
                have h9 : RR = readK (C.map (·.x)) row toks[k].pos false := by rw [HK.out.2.2]; exact HRR.out
                rw [HRL.out, h9]
                exact HR.out.2.1.rest.bad hkl HK.out.1 (by rw [← h9]; exact he5))
              have hBw : Hid (Below w.heap.size w w3) := Lib.hid (HB1.out.1.trans ((HR.out.2.1.kept.trans ((Below.refl _ wr).alloc HR.out.2.1.big (.cells #[.int .i64 5, .string tx, .int .i64 ps] 45) |>.trans hK3.1)).mono HB1.out.1.size))
              have ebad : (RR.2.2 != 0) = true := by simpa using he5
              have hR2 : Hid (RR.2 = (RR.2.1, RR.2.2)) := Lib.hid rfl
              clear hC3 hS3 hK3 HR HS HRR HQ he5
              generalize RR.2.1 = pa at *
              generalize RR.2.2 = pe at *
              have hP3c0 := hP3.cell 0 _ rfl
              have hP3f0 := hP3.frozen 0
              have hP3c1 := hP3.cell 1 _ rfl
              have hP3f1 := hP3.frozen 1
              have hP3c2 := hP3.cell 2 _ rfl
              have hP3f2 := hP3.frozen 2
              clear hP3
              go_wp2_with (with_reducible first | refine stop_slice ?_)
              refine Stop.out ?_
              refine wpList_slice_none rfl _ _ _ 3 rfl Tryz.underlying38 (by kernel_rfl) ra row.length rc rfl _ rfl ?_
              go_wp2_with fail
              go_quiet (fail)
              go_wp2_with fail
              refine bodyPost_ret (v := .tuple #[.slice none 0 0, .int .i64 pa, .int .i64 pe]) (by simp [results, Tryz.results7, go_sem]) rfl ?_
              rw [hbad.out, hR2.out]
              exact ⟨⟨_, rfl, ItmsAt.nil⟩, below_drewN hBw.out _⟩
          · have h56 : toks[k].kind ≠ 5 ∧ ¬ (toks[k].kind = 6 ∨ toks[k].kind = 7) := by rw [HK.out.1]; exact ⟨h5, h6⟩
            have e5 : (kd == 5) = false := by simpa using h5
            have e6 : (kd == 6) = false := by simp at h6 ⊢; omega
            have e7 : (kd == 7) = false := by simp at h6 ⊢; omega
            have H56 := Lib.hid h56
            have hrow : OwnT w1.heap.size (wr.alloc (.cells #[.int .i64 kd, .string tx, .int .i64 ps] 45)) (.slice ra row.length rc) row := by rw [← HQ.out]; exact HR.out.2.2.own
            have hrl := HR.out.2.1.len
            have hbxc0 := hbx.cell 0 _ rfl
            have hbxf0 := hbx.frozen 0
            have hbxc1 := hbx.cell 1 _ rfl
            have hbxf1 := hbx.frozen 1
            have hbxc2 := hbx.cell 2 _ rfl
            have hbxf2 := hbx.frozen 2
            clear hbx h56 h5 h6
            go_wp2_with (with_reducible first | refine stop_append ?_)
            refine Stop.out ?_
            refine wpList_append_tokL rfl _ _ rfl w1.heap.size row ⟨kd, tx, ps⟩ (by exact hrow.alloc _) (wr.heap.size + 1) (by first | rfl | simp) (by
              have := Cells.new (wr.alloc (.cells #[.int .i64 kd, .string tx, .int .i64 ps] 45)) #[.int .i64 kd, .string tx, .int .i64 ps] 45
              rw [World.size_alloc] at this
              exact this) (by omega) (by simp; omega) (wr.heap.size + 2) (by simp) ?_
            intro g3 cap3 w3 hown3 hg3 hat3 hlt3
            have hI3 : Hid (InP toks s.size w1.heap.size G (k + 1) C (row ++ [toks[k]]) (.slice (some ⟨g3, 0, none⟩) (row.length + 1) cap3) v w1 w3) := Lib.hid (by
              have hI2 := HR.out.2.2
              rw [HQ.out] at hI2
              have hI2 := hI2.below ((Below.refl _ _).alloc (Nat.le_refl _) (.cells #[.int .i64 kd, .string tx, .int .i64 ps] 45))
              have htk : toks[k] = ⟨kd, tx, ps⟩ := by
                obtain ⟨z1, z2, z3⟩ := HK.out
                rw [← z1, ← z2, ← z3]
              have hown4 : OwnT w1.heap.size w3 (.slice (some ⟨g3, 0, none⟩) (row.length + 1) cap3) (row ++ [toks[k]]) := by rw [htk]; exact hown3
              exact hI2.tok hkl H56.out.1 H56.out.2 hown4 hg3 (hat3.imp id (fun q => by simpa using q)) hlt3)
            have hbx := hI3.out.box
            have hG3 : G < w3.heap.size := hI3.out.st.gl
            clear hown3 hg3 hat3 hlt3 hrow hNew HR HQ HS q0 q1 q2 hbxc0 hbxc1 hbxc2 hbxf0 hbxf1 hbxf2
            have hbxc0 := hbx.cell 0 _ rfl
            have hbxf0 := hbx.frozen 0
            have hbxc1 := hbx.cell 1 _ rfl
            have hbxf1 := hbx.frozen 1
            have hbxc2 := hbx.cell 2 _ rfl
            have hbxf2 := hbx.frozen 2
            clear hbx
            go_wp2_with fail
            go_roundw
            case rel => exact ⟨k + 1, C, _, v, hkl, by go_num, by simpa using hI3.out⟩
            case measure => simp [intOf]; omega
      · obtain rfl : k = toks.length := by omega
        have hrd := readI_any hI s.size true hTr (by omega) (by have := HG.out; omega) (fun t ht => Nat.le_trans (HT.out.1 t ht) (by omega)) HT.out.2
        have hlast := hI.rest.last (Nat.le_refl _)
        have hne := readK_ne hI.small.1 row s.size true
        have HI := Lib.hid hI
        rw [← HRL.out] at hlast
        have hbx := hI.box
        generalize readK (C.map (·.x)) row s.size true = RR at *
        have HRR := Lib.hid (And.intro hlast hne)
        clear hI hTr hlast hne
        have hbxc0 := hbx.cell 0 _ rfl
        have hbxf0 := hbx.frozen 0
        have hbxc1 := hbx.cell 1 _ rfl
        have hbxf1 := hbx.frozen 1
        have hbxc2 := hbx.cell 2 _ rfl
        have hbxf2 := hbx.frozen 2
        clear hbx
        go_wp2_with fail
        refine hrd.mono ?_
        clear hrd hbxc0 hbxc1 hbxc2 hbxf0 hbxf1 hbxf2
        rintro _ w3 ⟨rfl, v3, ⟨C3, hC3, hS3⟩, hP3, hK3⟩
        have hG3 : G < w3.heap.size := hS3.gl
        have hBw : Hid (Below w.heap.size w w3) := Lib.hid (HB1.out.1.trans ((HI.out.kept.trans hK3.1).mono HB1.out.1.size))
        clear HI hK3
        by_cases he5 : RR.2.2 = 0
        · have hz3 : C3 ≠ [] := fun e => HRR.out.2 (by rw [hC3, e]; rfl)
          have hrr := HRR.out.1
          rw [if_neg (fun q => q he5), hC3] at hrr
          rw [he5] at hP3
          generalize RR.2.1 = pa at *
          clear HRR he5
          by_cases hn : 1 < C3.length
          · rw [if_pos (by simpa using hn)] at hrr
            have hR9 := Lib.hid hrr
            obtain ⟨ob, oc, hv3, -⟩ := World.ownsRow.form hS3.row (by omega)
            subst hv3
            have hF := bfail_any G _ _ _ s.size 2 w3 hP3
            have hm : (1 : Int) < (C3.length : Int) := by omega
            generalize C3.length = n3 at *
            have hP3c0 := hP3.cell 0 _ rfl
            have hP3f0 := hP3.frozen 0
            have hP3c1 := hP3.cell 1 _ rfl
            have hP3f1 := hP3.frozen 1
            have hP3c2 := hP3.cell 2 _ rfl
            have hP3f2 := hP3.frozen 2
            clear hP3 hS3 hC3 hz3 hn hrr
            go_wp2_with fail
            refine hF.mono ?_
            clear hF hP3c0 hP3c1 hP3c2 hP3f0 hP3f1 hP3f2
            rintro _ w4 ⟨rfl, hP4, hw4⟩
            have hBw4 : Hid (Below w.heap.size w w4) := Lib.hid (by
              rw [hw4]
              have h1 := HG.out
              have h2 := HB1.out.1.size
              exact (hBw.out.setCell (p := ⟨G, 1, none⟩) (by show w.heap.size ≤ G; omega) _).setCell (p := ⟨G, 2, none⟩) (by show w.heap.size ≤ G; omega) _)
            have hG4 : G < w4.heap.size := hP4.lt
            have hP4c0 := hP4.cell 0 _ rfl
            have hP4f0 := hP4.frozen 0
            have hP4c1 := hP4.cell 1 _ rfl
            have hP4f1 := hP4.frozen 1
            have hP4c2 := hP4.cell 2 _ rfl
            have hP4f2 := hP4.frozen 2
            clear hP4 hw4
            have e2 : ((2 : Int) != 0) = true := by decide
            go_wp2_with fail
            go_quiet (fail)
            go_wp2_with fail
            refine bodyPost_ret (v := .tuple #[.slice none 0 0, .int .i64 s.size, .int .i64 2]) (by simp [results, Tryz.results7, go_sem]) rfl ?_
            rw [hR9.out]
            exact ⟨⟨_, rfl, ItmsAt.nil⟩, below_drewN hBw4.out _⟩
          · rw [if_neg (by simpa using hn)] at hrr
            obtain ⟨ob, oc, iv, rfl, hcell, hits⟩ := hS3.end hn hz3
            have hR9 := Lib.hid (And.intro hrr hits)
            obtain ⟨ia, ic, rfl, -⟩ := hits.len
            generalize ((C3.map (·.x)).head?.getD zeroI).items = its at *
            have hP3c0 := hP3.cell 0 _ rfl
            have hP3f0 := hP3.frozen 0
            have hP3c1 := hP3.cell 1 _ rfl
            have hP3f1 := hP3.frozen 1
            have hP3c2 := hP3.cell 2 _ rfl
            have hP3f2 := hP3.frozen 2
            clear hP3 hS3 hC3 hz3 hn hrr hits
            go_wp2_with fail
            refine bodyPost_ret (v := .tuple #[.slice ia its.length ic, .int .i64 (-1), .int .i64 0]) (by simp [results, Tryz.results7, go_sem]) rfl ?_
            rw [hR9.out.1]
            exact ⟨⟨_, rfl, hR9.out.2⟩, hBw.out⟩
        · have hbad : Hid (R = ([], RR.2.1, RR.2.2)) := Lib.hid (by rw [HRR.out.1, if_pos he5])
          have ebad : (RR.2.2 != 0) = true := by simpa using he5
          have ebad2 : (RR.2.2 == 0) = false := by simpa using he5
          clear hC3 hS3 HRR he5
          generalize RR.2.1 = pa at *
          generalize RR.2.2 = pe at *
          have hP3c0 := hP3.cell 0 _ rfl
          have hP3f0 := hP3.frozen 0
          have hP3c1 := hP3.cell 1 _ rfl
          have hP3f1 := hP3.frozen 1
          have hP3c2 := hP3.cell 2 _ rfl
          have hP3f2 := hP3.frozen 2
          clear hP3
          go_wp2_with fail
          go_quiet (fail)
          go_wp2_with fail
          refine bodyPost_ret (v := .tuple #[.slice none 0 0, .int .i64 pa, .int .i64 pe]) (by simp [results, Tryz.results7, go_sem]) rfl ?_
          rw [hbad.out]
          exact ⟨⟨_, rfl, ItmsAt.nil⟩, below_drewN hBw.out _⟩
  · have e0 : (er != 0) = true := by simpa using he
    go_wp2_with fail
    refine bodyPost_end (v := .tuple #[.slice none 0 0, .int .i64 at_, .int .i64 er]) (by simp [results, Tryz.results7, go_sem]) rfl ?_
    rw [HRD.out, if_pos he]
    exact ⟨⟨_, rfl, ItmsAt.nil⟩, hb1⟩
end Go.Proofs.YthmmgpbojbjihaaGreatDoor

/- The walks that hold two rows of texts against each other (layers 8 and 13). -/
namespace Go.Proofs.YthmmgpbojbjihaaGreatDoor
open Go.RowKit Go.Tab

set_option maxHeartbeats 4000000 in
set_option maxRecDepth 100000 in
theorem Texts_any (a b : Value) (la lb : List ByteArray) (w : World) (ha : RowOf Value.string w a la) (hb : RowOf Value.string w b lb) :
    Calls Tryz.prog 15 #[a, b] w fun e w' => e = .returned (.bool (decide (la = lb))) ∧ Below w.heap.size w w' := by
  obtain ⟨xa, ca, rfl, hla, hca, -⟩ := ha.len
  obtain ⟨xb, cb, rfl, hlb, hcb, -⟩ := hb.len
  unfold maxLen at hca hcb
  by_cases hlen : la.length = lb.length
  · go_enter Tryz.func15, Tryz.ntmps15
    go_wp2_with fail
    go_loopw [5] (fun i wr => ∃ k : Nat, k ≤ la.length ∧ i = .int .i64 (k : Int) ∧ (∀ j (h1 : j < la.length) (h2 : j < lb.length), j < k → la[j] = lb[j]) ∧ Below w.heap.size w wr) (fun i _ => la.length - (intOf i).toNat)
    case atStart => exact ⟨0, Nat.zero_le _, rfl, fun j _ _ h => by omega, Below.refl _ w⟩
    case round =>
      obtain ⟨k, hk, rfl, hall, hbl⟩ := hrel
      have HA := Lib.hid hall
      clear hall
      have ha1 := ha.below hbl (Nat.le_refl _)
      have hb1 := hb.below hbl (Nat.le_refl _)
      by_cases hkl : k < la.length
      · have hkb : k < lb.length := by omega
        obtain ⟨ba, oa, rfl, hlta, hcella⟩ := ha1.at hkl
        obtain ⟨bb, ob, rfl, hltb, hcellb⟩ := hb1.at hkb
        have hcka := hcella k hkl
        have hckb := hcellb k hkb
        clear hcella hcellb
        by_cases heq : la[k] = lb[k]
        · have HA2 : Hid (∀ j (h1 : j < la.length) (h2 : j < lb.length), j < k + 1 → la[j] = lb[j]) := Lib.hid (fun j h1 h2 h => by
            by_cases hjk : j = k
            · subst hjk; exact heq
            · exact HA.out j h1 h2 (by omega))
          clear HA
          rw [← heq] at hckb
          clear heq
          generalize la[k] = x at *
          go_wp2_with fail
          go_quiet (fail)
          all_goals
            go_wp2
            go_roundw
          case rel => exact ⟨k + 1, by omega, by go_num, HA2.out, hbl.trans (below_draws w.heap.size wr _)⟩
          case measure => simp [intOf]; omega
        · have hR := Lib.hid (rows_ne hkl hkb heq)
          generalize la[k] = x at *
          generalize lb[k] = y at *
          go_wp2_with fail
          go_quiet (fail)
          all_goals
            go_wp2
          · go_ret
            refine ⟨?_, hbl.trans (below_draws w.heap.size wr _)⟩
            rw [decide_eq_false hR.out]
            rfl
          · rename_i hh
            rw [str_ne heq] at hh
            cases hh
      · obtain rfl : k = la.length := by omega
        have hR := Lib.hid (rows_eq hlen (fun j h1 h2 => HA.out j h1 h2 h1))
        go_wp2
        go_ret
        refine ⟨?_, hbl⟩
        rw [decide_eq_true hR.out]
        rfl
  · have hR : Hid (la ≠ lb) := Lib.hid (by rintro rfl; exact hlen rfl)
    have hq : ((la.length : Int) != (lb.length : Int)) = true := by rw [bne_iff_ne]; omega
    clear hlen
    go_enter Tryz.func15, Tryz.ntmps15
    go_wp2
    go_ret
    refine ⟨?_, Below.refl _ w⟩
    rw [decide_eq_false hR.out]
    rfl

set_option maxHeartbeats 4000000 in
set_option maxRecDepth 100000 in
theorem Equal_any (a b : Value) (la lb : List ByteArray) (w : World) (ha : RowOf Value.string w a la) (hb : RowOf Value.string w b lb) :
    Calls Tryz.prog 17 #[a, b] w fun e w' => e = .returned (.bool (decide (la = lb))) ∧ Below w.heap.size w w' := by
  obtain ⟨xa, ca, rfl, hla, hca, -⟩ := ha.len
  obtain ⟨xb, cb, rfl, hlb, hcb, -⟩ := hb.len
  unfold maxLen at hca hcb
  by_cases hlen : la.length = lb.length
  · go_enter Tryz.func17, Tryz.ntmps17
    go_wp2_with fail
    go_loopw [13] (fun i wr => ∃ k : Nat, k ≤ la.length ∧ i = .int .i64 (k : Int) ∧ (∀ j (h1 : j < la.length) (h2 : j < lb.length), j < k → la[j] = lb[j]) ∧ Below w.heap.size w wr) (fun i _ => la.length - (intOf i).toNat)
    case atStart => exact ⟨0, Nat.zero_le _, rfl, fun j _ _ h => by omega, Below.refl _ w⟩
    case round =>
      obtain ⟨k, hk, rfl, hall, hbl⟩ := hrel
      have HA := Lib.hid hall
      clear hall
      have ha1 := ha.below hbl (Nat.le_refl _)
      have hb1 := hb.below hbl (Nat.le_refl _)
      by_cases hkl : k < la.length
      · have hkb : k < lb.length := by omega
        obtain ⟨ba, oa, rfl, hlta, hcella⟩ := ha1.at hkl
        obtain ⟨bb, ob, rfl, hltb, hcellb⟩ := hb1.at hkb
        have hcka := hcella k hkl
        have hckb := hcellb k hkb
        clear hcella hcellb
        by_cases heq : la[k] = lb[k]
        · have HA2 : Hid (∀ j (h1 : j < la.length) (h2 : j < lb.length), j < k + 1 → la[j] = lb[j]) := Lib.hid (fun j h1 h2 h => by
            by_cases hjk : j = k
            · subst hjk; exact heq
            · exact HA.out j h1 h2 (by omega))
          clear HA
          rw [← heq] at hckb
          clear heq
          generalize la[k] = x at *
          go_wp2_with fail
          go_quiet (fail)
          all_goals
            go_wp2
            go_roundw
          case rel => exact ⟨k + 1, by omega, by go_num, HA2.out, hbl.trans (below_draws w.heap.size wr _)⟩
          case measure => simp [intOf]; omega
        · have hR := Lib.hid (rows_ne hkl hkb heq)
          generalize la[k] = x at *
          generalize lb[k] = y at *
          go_wp2_with fail
          go_quiet (fail)
          all_goals
            go_wp2
          · go_ret
            refine ⟨?_, hbl.trans (below_draws w.heap.size wr _)⟩
            rw [decide_eq_false hR.out]
            rfl
          · rename_i hh
            rw [str_ne heq] at hh
            cases hh
      · obtain rfl : k = la.length := by omega
        have hR := Lib.hid (rows_eq hlen (fun j h1 h2 => HA.out j h1 h2 h1))
        go_wp2
        go_ret
        refine ⟨?_, hbl⟩
        rw [decide_eq_true hR.out]
        rfl
  · have hR : Hid (la ≠ lb) := Lib.hid (by rintro rfl; exact hlen rfl)
    have hq : ((la.length : Int) != (lb.length : Int)) = true := by rw [bne_iff_ne]; omega
    clear hlen
    go_enter Tryz.func17, Tryz.ntmps17
    go_wp2
    go_ret
    refine ⟨?_, Below.refl _ w⟩
    rw [decide_eq_false hR.out]
    rfl
end Go.Proofs.YthmmgpbojbjihaaGreatDoor

/- Two lists of items held against each other, on both sides (layer 13). -/
namespace Go.Proofs.YthmmgpbojbjihaaGreatDoor
open Go.RowKit Go.Tab

mutual
/-- How deep and how many. -/
def Itm.bulk : Itm → Nat
  | .mk _ _ _ _ its => 1 + bulkI its
def bulkI : List Itm → Nat
  | [] => 0
  | t :: r => t.bulk + 1 + bulkI r
end
theorem bulkI_kid : ∀ {l : List Itm} {k : Nat} (hk : k < l.length), bulkI l[k].items + 2 ≤ bulkI l
  | .mk _ _ _ _ its :: r, 0, _ => by simp only [bulkI, List.getElem_cons_zero, Itm.bulk, Itm.items]; omega
  | t :: r, k + 1, hk => by
    have := bulkI_kid (l := r) (k := k) (by simpa using hk)
    simp only [bulkI, List.getElem_cons_succ]; omega
/-- An item's seven cells, at its place. -/
theorem itm_at {w : World} {bl : Bool} {nm : ByteArray} {v : Exp} {ls : List ByteArray} {its : List Itm} {cs : List Value} {b o : Nat} (hv : ItmAt w (.mk bl nm v ls its) cs) (hc : ∀ (j : Nat) (u : Value), cs[j]? = some u → w.cell? ⟨b, o + j, none⟩ = some u) :
    ∃ vo vt sa sn sc la lc ia ic, w.cell? ⟨b, o, none⟩ = some (.bool bl) ∧ w.cell? ⟨b, o + 1, none⟩ = some (.string nm) ∧ w.cell? ⟨b, o + 2, none⟩ = some (.string vo) ∧ w.cell? ⟨b, o + 3, none⟩ = some (.string vt) ∧
      w.cell? ⟨b, o + 4, none⟩ = some (.slice sa sn sc) ∧ w.cell? ⟨b, o + 5, none⟩ = some (.slice la ls.length lc) ∧ w.cell? ⟨b, o + 6, none⟩ = some (.slice ia its.length ic) ∧
      ExpAt w v [.string vo, .string vt, .slice sa sn sc] ∧ RowOf Value.string w (.slice la ls.length lc) ls ∧ ItmsAt w (.slice ia its.length ic) its := by
  obtain ⟨vo, vt, vk, lv, ia, ic, rfl, h1, h2, h3, h4, h5, h6⟩ := ItmR.open hv
  obtain ⟨_, _, sa, sn, sc, he⟩ := h1.shape
  cases he
  obtain ⟨la, lc, rfl, -⟩ := h2.len
  exact ⟨vo, vt, sa, sn, sc, la, lc, ia, ic, by simpa using hc 0 _ rfl, hc 1 _ rfl, hc 2 _ rfl, hc 3 _ rfl, hc 4 _ rfl, hc 5 _ rfl, hc 6 _ rfl, h1, h2, ia, ic, rfl, h3, h4, h5, h6⟩
theorem ItmsAt.under {w : World} {v : Value} {l : List Itm} (h : ItmsAt w v l) (x : Under w) : ItmsAt x.w v l := h.below x.below
theorem bool_ne {a b : Bool} (h : ¬ a = b) : (a != b) = true := by simpa using h
/-- Items that differ in something are not the same. -/
theorem itms_ne {l m : List Itm} {k : Nat} (h1 : k < l.length) (h2 : k < m.length) (h : ¬ l[k] = m[k]) : ¬ l = m := rows_ne h1 h2 h

set_option maxHeartbeats 4000000 in
set_option maxRecDepth 100000 in
theorem xISame_step (n : Nat) (IH : ∀ (l m : List Itm), bulkI l + 1 ≤ n → ∀ (w : World) (v u : Value), ItmsAt w v l → ItmsAt w u m → Calls Tryz.prog 10 #[v, u] w (SameP (l = m) w))
    (l m : List Itm) (hn : bulkI l ≤ n + 1) (w : World) (v u : Value) (hv : ItmsAt w v l) (hu : ItmsAt w u m) : Calls Tryz.prog 10 #[v, u] w (SameP (l = m) w) := by
  obtain ⟨a, cap, rfl, hl1, hm1, -⟩ := hv.len
  obtain ⟨a2, cap2, rfl, hl2, hm2, -⟩ := hu.len
  unfold maxLen at hm1 hm2
  by_cases hlen : l.length = m.length
  · have hq : ((l.length : Int) != (m.length : Int)) = false := by simp [hlen]
    obtain ⟨p, hp⟩ : ∃ p, p = (l = m) := ⟨_, rfl⟩
    rw [← hp]
    have HP := Lib.hid hp
    have HL := Lib.hid hlen
    have HIH := Lib.hid IH
    have HV := Lib.hid hv
    have HU := Lib.hid hu
    clear hp hlen IH hv hu
    go_enter Tryz.func10, Tryz.ntmps10
    go_wp2_with fail
    go_loopw [15] (fun i wr => ∃ k : Nat, k ≤ l.length ∧ i = .int .i64 (k : Int) ∧ (∀ j (h1 : j < l.length) (h2 : j < m.length), j < k → l[j] = m[j]) ∧ Below w.heap.size w wr) (fun i _ => l.length - (intOf i).toNat)
    case atStart => exact ⟨0, Nat.zero_le _, rfl, fun j _ _ h => by omega, Below.refl _ _⟩
    case round =>
      obtain ⟨k, hk, rfl, hall, hbl⟩ := hrel
      have HBL := Lib.hid hbl
      have HA := Lib.hid hall
      clear hall
      by_cases hkl : k < l.length
      · have hkl2 : k < m.length := by have := HL.out; omega
        obtain ⟨b, off, cs, rfl, hlt, hc, hi⟩ := (HV.out.below hbl).get hkl
        obtain ⟨b2, off2, ds, rfl, hlt2, hd, hj⟩ := (HU.out.below hbl).get hkl2
        have hIH := HIH.out l[k].items m[k].items (by have := bulkI_kid hkl; omega)
        have HD : Hid (l[k] = m[k] → ∀ j (h1 : j < l.length) (h2 : j < m.length), j < k + 1 → l[j] = m[j]) := Lib.hid (fun heq j h1 h2 h => by
            by_cases hjk : j = k
            · subst hjk; exact heq
            · exact HA.out j h1 h2 (by omega))
        have HN : Hid (¬ l[k] = m[k] → ¬ p) := Lib.hid (fun h hp => by rw [HP.out] at hp; exact itms_ne hkl hkl2 h hp)
        clear HA hbl
        generalize l[k] = x at *
        generalize m[k] = y at *
        obtain ⟨bl, nm, ve, ls, its⟩ := x
        obtain ⟨bl2, nm2, ve2, ls2, its2⟩ := y
        obtain ⟨vo, vt, sa, sn, sc, la, lc, ia, ic, q0, q1, q2, q3, q4, q5, q6, q7, q8, q9⟩ := itm_at hi hc
        obtain ⟨vo2, vt2, sa2, sn2, sc2, la2, lc2, ia2, ic2, r0, r1, r2, r3, r4, r5, r6, r7, r8, r9⟩ := itm_at hj hd
        simp only [Itm.items] at hIH
        clear hi hj hc hd
        obtain ⟨W2, hW2⟩ : ∃ W2, W2 = (wr.alloc (.cells #[.bool bl, .string nm, .string vo, .string vt, .slice sa sn sc, .slice la ls.length lc, .slice ia its.length ic] 37)).alloc (.cells #[.bool bl2, .string nm2, .string vo2, .string vt2, .slice sa2 sn2 sc2, .slice la2 ls2.length lc2, .slice ia2 its2.length ic2] 37) := ⟨_, rfl⟩
        have hbB : Below wr.heap.size wr W2 := by rw [hW2]; exact ((Below.refl _ _).alloc (Nat.le_refl _) _).alloc (by simp) _
        have hA : Cells W2 wr.heap.size #[.bool bl, .string nm, .string vo, .string vt, .slice sa sn sc, .slice la ls.length lc, .slice ia its.length ic] 37 := by rw [hW2]; exact (Cells.new _ _ _).alloc _
        have hC : Cells W2 (wr.heap.size + 1) #[.bool bl2, .string nm2, .string vo2, .string vt2, .slice sa2 sn2 sc2, .slice la2 ls2.length lc2, .slice ia2 its2.length ic2] 37 := by
          rw [hW2]
          have h := Cells.new (wr.alloc (.cells #[.bool bl, .string nm, .string vo, .string vt, .slice sa sn sc, .slice la ls.length lc, .slice ia its.length ic] 37)) #[.bool bl2, .string nm2, .string vo2, .string vt2, .slice sa2 sn2 sc2, .slice la2 ls2.length lc2, .slice ia2 its2.length ic2] 37
          simpa using h
        have HB := Lib.hid (HBL.out.trans (hbB.mono HBL.out.size))
        have HQ := Lib.hid (And.intro (And.intro (ExpAt.below hbB _ _ q7) (And.intro (q8.below hbB (Nat.le_refl _)) (q9.below hbB))) (And.intro (ExpAt.below hbB _ _ r7) (And.intro (r8.below hbB (Nat.le_refl _)) (r9.below hbB))))
        have HC := Lib.hid (And.intro hA hC)
        have HW := Lib.hid hW2
        clear hbB hA hC q7 q8 q9 r7 r8 r9 hW2
        by_cases hbl : bl = bl2
        · subst hbl
          have e0 : (bl != bl) = false := by simp
          by_cases hnm : nm = nm2
          · subst hnm
            have hE := Equal_any _ _ ls ls2 W2 HQ.out.1.2.1 HQ.out.2.2.1
            rw [HW.out] at hE
            go_wp2_with fail
            refine hE.mono ?_
            rw [← HW.out]
            rintro _ w3 ⟨rfl, hb3⟩
            clear hE q0 q1 q2 q3 q4 q5 q6 r0 r1 r2 r3 r4 r5 r6
            have HB3 := Lib.hid (HB.out.trans (hb3.mono HB.out.size))
            by_cases hls : ls = ls2
            · subst hls
              rw [decide_eq_true rfl]
              obtain ⟨hA, hC⟩ := HC.out
              have hA3 := hA.below hb3 hA.lt
              have hC3 := hC.below hb3 hC.lt
              have hlA := hA3.lt
              have hlC := hC3.lt
              obtain ⟨bv, hbv⟩ := some_bool (ve = ve2)
              have hV := SameP.fix hbv (xSame_any ve ve2 w3 _ _ (ExpAt.below hb3 _ _ HQ.out.1.1) (ExpAt.below hb3 _ _ HQ.out.2.1))
              have HQ3 := Lib.hid (And.intro (HQ.out.1.2.2.below hb3) (HQ.out.2.2.2.below hb3))
              have HC3 := Lib.hid (And.intro hA3 hC3)
              have HBV := Lib.hid hbv
              simp only [vX] at hV
              have hA3c0 := hA3.cell 0 _ rfl
              have hA3f0 := hA3.frozen 0
              have hA3c1 := hA3.cell 1 _ rfl
              have hA3f1 := hA3.frozen 1
              have hA3c2 := hA3.cell 2 _ rfl
              have hA3f2 := hA3.frozen 2
              have hA3c3 := hA3.cell 3 _ rfl
              have hA3f3 := hA3.frozen 3
              have hA3c4 := hA3.cell 4 _ rfl
              have hA3f4 := hA3.frozen 4
              have hA3c5 := hA3.cell 5 _ rfl
              have hA3f5 := hA3.frozen 5
              have hA3c6 := hA3.cell 6 _ rfl
              have hA3f6 := hA3.frozen 6
              have hC3c0 := hC3.cell 0 _ rfl
              have hC3f0 := hC3.frozen 0
              have hC3c1 := hC3.cell 1 _ rfl
              have hC3f1 := hC3.frozen 1
              have hC3c2 := hC3.cell 2 _ rfl
              have hC3f2 := hC3.frozen 2
              have hC3c3 := hC3.cell 3 _ rfl
              have hC3f3 := hC3.frozen 3
              have hC3c4 := hC3.cell 4 _ rfl
              have hC3f4 := hC3.frozen 4
              have hC3c5 := hC3.cell 5 _ rfl
              have hC3f5 := hC3.frozen 5
              have hC3c6 := hC3.cell 6 _ rfl
              have hC3f6 := hC3.frozen 6
              clear hA hC hA3 hC3 hb3 hbv HQ HC HB
              go_wp2_with fail
              refine hV.mono ?_
              rintro _ w4 ⟨rfl, hb4⟩
              clear hV hA3c0 hA3c1 hA3c2 hA3c3 hA3c4 hA3c5 hA3c6 hA3f0 hA3f1 hA3f2 hA3f3 hA3f4 hA3f5 hA3f6 hC3c0 hC3c1 hC3c2 hC3c3 hC3c4 hC3c5 hC3c6 hC3f0 hC3f1 hC3f2 hC3f3 hC3f4 hC3f5 hC3f6
              have HB4 := Lib.hid (HB3.out.trans (hb4.mono HB3.out.size))
              cases bv with
              | false =>
                have HX := Lib.hid (HN.out (fun h => by injection h with _ _ h; have := HBV.out.2 h; cases this))
                clear hb4
                go_wp2
                go_ret
                exact ⟨⟨false, rfl, no_iff HX.out⟩, HB4.out⟩
              | true =>
                obtain ⟨hA3, hC3⟩ := HC3.out
                have hA4 := hA3.below hb4 hlA
                have hC4 := hC3.below hb4 hlC
                have hlA4 := hA4.lt
                have hlC4 := hC4.lt
                obtain ⟨bi, hbi⟩ := some_bool (its = its2)
                have hI := SameP.fix hbi (hIH w4 _ _ (HQ3.out.1.below hb4) (HQ3.out.2.below hb4))
                have HBI := Lib.hid hbi
                have hA4c0 := hA4.cell 0 _ rfl
                have hA4f0 := hA4.frozen 0
                have hA4c1 := hA4.cell 1 _ rfl
                have hA4f1 := hA4.frozen 1
                have hA4c2 := hA4.cell 2 _ rfl
                have hA4f2 := hA4.frozen 2
                have hA4c3 := hA4.cell 3 _ rfl
                have hA4f3 := hA4.frozen 3
                have hA4c4 := hA4.cell 4 _ rfl
                have hA4f4 := hA4.frozen 4
                have hA4c5 := hA4.cell 5 _ rfl
                have hA4f5 := hA4.frozen 5
                have hA4c6 := hA4.cell 6 _ rfl
                have hA4f6 := hA4.frozen 6
                have hC4c0 := hC4.cell 0 _ rfl
                have hC4f0 := hC4.frozen 0
                have hC4c1 := hC4.cell 1 _ rfl
                have hC4f1 := hC4.frozen 1
                have hC4c2 := hC4.cell 2 _ rfl
                have hC4f2 := hC4.frozen 2
                have hC4c3 := hC4.cell 3 _ rfl
                have hC4f3 := hC4.frozen 3
                have hC4c4 := hC4.cell 4 _ rfl
                have hC4f4 := hC4.frozen 4
                have hC4c5 := hC4.cell 5 _ rfl
                have hC4f5 := hC4.frozen 5
                have hC4c6 := hC4.cell 6 _ rfl
                have hC4f6 := hC4.frozen 6
                clear hA3 hC3 hA4 hC4 hb4 hbi HQ3 HC3 HB3
                go_wp2_with fail
                refine hI.mono ?_
                rintro _ w5 ⟨rfl, hb5⟩
                clear hI hA4c0 hA4c1 hA4c2 hA4c3 hA4c4 hA4c5 hA4c6 hA4f0 hA4f1 hA4f2 hA4f3 hA4f4 hA4f5 hA4f6 hC4c0 hC4c1 hC4c2 hC4c3 hC4c4 hC4c5 hC4c6 hC4f0 hC4f1 hC4f2 hC4f3 hC4f4 hC4f5 hC4f6
                have HB5 := Lib.hid (HB4.out.trans (hb5.mono HB4.out.size))
                clear hb5
                cases bi with
                | false =>
                  have HX := Lib.hid (HN.out (fun h => by injection h with _ _ _ _ h; have := HBI.out.2 h; cases this))
                  go_wp2
                  go_ret
                  exact ⟨⟨false, rfl, no_iff HX.out⟩, HB5.out⟩
                | true =>
                  have HX := Lib.hid (HD.out (by rw [HBV.out.1 (by trivial), HBI.out.1 (by trivial)]))
                  go_wp2
                  go_roundw
                  case rel => exact ⟨k + 1, by omega, by go_num, HX.out, HB5.out⟩
                  case measure => simp [intOf]; omega
            · have HX := Lib.hid (HN.out (fun h => by injection h with _ _ _ h; exact hls h))
              rw [decide_eq_false hls]
              clear hls hb3
              go_wp2
              go_ret
              exact ⟨⟨false, rfl, no_iff HX.out⟩, HB3.out⟩
          · have e1 := str_ne hnm
            have HX := Lib.hid (HN.out (fun h => by injection h with _ h; exact hnm h))
            rw [HW.out] at HB
            clear hnm
            go_wp2
            go_ret
            exact ⟨⟨false, rfl, no_iff HX.out⟩, HB.out⟩
        · have e0 := bool_ne hbl
          have HX := Lib.hid (HN.out (fun h => by injection h with h; exact hbl h))
          rw [HW.out] at HB
          clear HW e0
          cases bl <;> cases bl2
          · exact absurd rfl hbl
          · clear hbl
            go_wp2
            go_ret
            exact ⟨⟨false, rfl, no_iff HX.out⟩, HB.out⟩
          · clear hbl
            go_wp2
            go_ret
            exact ⟨⟨false, rfl, no_iff HX.out⟩, HB.out⟩
          · exact absurd rfl hbl
      · obtain rfl : k = l.length := by omega
        have hR := Lib.hid (rows_eq HL.out (fun j h1 h2 => HA.out j h1 h2 h1))
        go_wp2_with fail
        go_ret
        exact ⟨⟨true, rfl, yes_iff (by rw [HP.out]; exact hR.out)⟩, HBL.out⟩
  · have hq : ((l.length : Int) != (m.length : Int)) = true := by rw [bne_iff_ne]; omega
    have HN : Hid (¬ l = m) := Lib.hid (fun h => hlen (by rw [h]))
    have HB := Lib.hid (Below.refl w.heap.size w)
    clear hlen
    go_enter Tryz.func10, Tryz.ntmps10
    go_wp2
    go_ret
    exact ⟨⟨false, rfl, no_iff HN.out⟩, HB.out⟩
theorem xISame_upto (n : Nat) : ∀ (l m : List Itm), bulkI l + 1 ≤ n → ∀ (w : World) (v u : Value), ItmsAt w v l → ItmsAt w u m → Calls Tryz.prog 10 #[v, u] w (SameP (l = m) w) := by
  induction n with
  | zero => intro l m h; omega
  | succ n IH => exact fun l m h w v u hv hu => xISame_step n IH l m (by omega) w v u hv hu
/-- Same: just if they are. -/
theorem xISame_any (l m : List Itm) (w : World) (v u : Value) (hv : ItmsAt w v l) (hu : ItmsAt w u m) : Calls Tryz.prog 10 #[v, u] w (SameP (l = m) w) :=
  xISame_upto (bulkI l + 1) l m (Nat.le_refl _) w v u hv hu
end Go.Proofs.YthmmgpbojbjihaaGreatDoor

/- The reference's Same of items (layer 13). -/
namespace Go.Proofs.YthmmgpbojbjihaaGreatDoor
open Go.RowKit Go.Tab

theorem two_in (w : World) (a b : Array Value) (T : TypeId) : Cells (((w.alloc (.cells a T)).alloc (.cells b T)).drew) w.heap.size a T ∧ Cells (((w.alloc (.cells a T)).alloc (.cells b T)).drew) (w.heap.size + 1) b T ∧ Below w.heap.size w (((w.alloc (.cells a T)).alloc (.cells b T)).drew) := by
  refine ⟨((Cells.new w a T).alloc _).drew, ?_, ((((Below.refl _ _).alloc (Nat.le_refl _) _).alloc (by simp) _)).drew⟩
  have h := Cells.new (w.alloc (.cells a T)) b T
  simp only [World.size_alloc] at h
  exact h.drew
set_option maxHeartbeats 4000000 in
set_option maxRecDepth 100000 in
theorem rISame_step (n : Nat) (IH : ∀ (l m : List Itm), bulkI l + 1 ≤ n → ∀ (w : World) (v u : Value), ItmsAt w v l → ItmsAt w u m → Calls Tryz.prog 8 #[v, u] w (SameP (l = m) w))
    (l m : List Itm) (hn : bulkI l ≤ n + 1) (w : World) (v u : Value) (hv : ItmsAt w v l) (hu : ItmsAt w u m) : Calls Tryz.prog 8 #[v, u] w (SameP (l = m) w) := by
  obtain ⟨a, cap, rfl, hl1, hm1, -⟩ := hv.len
  obtain ⟨a2, cap2, rfl, hl2, hm2, -⟩ := hu.len
  unfold maxLen at hm1 hm2
  by_cases hlen : l.length = m.length
  · have hq : ((l.length : Int) != (m.length : Int)) = false := by simp [hlen]
    obtain ⟨p, hp⟩ : ∃ p, p = (l = m) := ⟨_, rfl⟩
    rw [← hp]
    have HP := Lib.hid hp
    have HL := Lib.hid hlen
    have HIH := Lib.hid IH
    have HV := Lib.hid hv
    have HU := Lib.hid hu
    clear hp hlen IH hv hu
    go_enter Tryz.func8, Tryz.ntmps8
    go_wp2_with fail
    go_loopw [5] (fun i wr => ∃ k : Nat, k ≤ l.length ∧ i = .int .i64 (k : Int) ∧ (∀ j (h1 : j < l.length) (h2 : j < m.length), j < k → l[j] = m[j]) ∧ Below w.heap.size w wr) (fun i _ => l.length - (intOf i).toNat)
    case atStart => exact ⟨0, Nat.zero_le _, rfl, fun j _ _ h => by omega, Below.refl _ _⟩
    case round =>
      obtain ⟨k, hk, rfl, hall, hbl⟩ := hrel
      have HBL := Lib.hid hbl
      have HA := Lib.hid hall
      clear hall
      by_cases hkl : k < l.length
      · have hkl2 : k < m.length := by have := HL.out; omega
        obtain ⟨b, off, cs, rfl, hlt, hc, hi⟩ := (HV.out.below hbl).get hkl
        obtain ⟨b2, off2, ds, rfl, hlt2, hd, hj⟩ := (HU.out.below hbl).get hkl2
        have hIH := HIH.out l[k].items m[k].items (by have := bulkI_kid hkl; omega)
        have HD : Hid (l[k] = m[k] → ∀ j (h1 : j < l.length) (h2 : j < m.length), j < k + 1 → l[j] = m[j]) := Lib.hid (fun heq j h1 h2 h => by
            by_cases hjk : j = k
            · subst hjk; exact heq
            · exact HA.out j h1 h2 (by omega))
        have HN : Hid (¬ l[k] = m[k] → ¬ p) := Lib.hid (fun h hp => by rw [HP.out] at hp; exact itms_ne hkl hkl2 h hp)
        clear HA hbl
        generalize l[k] = x at *
        generalize m[k] = y at *
        obtain ⟨bl, nm, ve, ls, its⟩ := x
        obtain ⟨bl2, nm2, ve2, ls2, its2⟩ := y
        obtain ⟨vo, vt, sa, sn, sc, la, lc, ia, ic, q0, q1, q2, q3, q4, q5, q6, q7, q8, q9⟩ := itm_at hi hc
        obtain ⟨vo2, vt2, sa2, sn2, sc2, la2, lc2, ia2, ic2, r0, r1, r2, r3, r4, r5, r6, r7, r8, r9⟩ := itm_at hj hd
        simp only [Itm.items] at hIH
        clear hi hj hc hd
        have HQ := Lib.hid (And.intro (And.intro q7 (And.intro q8 q9)) (And.intro r7 (And.intro r8 r9)))
        clear q7 q8 q9 r7 r8 r9
        go_upto_region 6 with fail
        go_cut [6, 7] (fun x y wc => ∃ p6 p7 : Nat, x = .pointer (some ⟨p6, 0, none⟩) ∧ y = .pointer (some ⟨p7, 0, none⟩) ∧
          Cells wc p6 #[.bool bl, .string nm, .string vo, .string vt, .slice sa sn sc, .slice la ls.length lc, .slice ia its.length ic] 37 ∧
          Cells wc p7 #[.bool bl2, .string nm2, .string vo2, .string vt2, .slice sa2 sn2 sc2, .slice la2 ls2.length lc2, .slice ia2 its2.length ic2] 37 ∧ Below wr.heap.size wr wc)
        case first =>
          go_region
          all_goals go_wp2_with fail
          all_goals go_meet
          all_goals
            first
              | exact ⟨_, _, rfl, rfl, (two_in _ _ _ _).1, (two_in _ _ _ _).2.1, (two_in _ _ _ _).2.2⟩
              | exact ⟨_, _, rfl, rfl, (two_in _ _ _ _).2.1, (two_in _ _ _ _).1, (two_in _ _ _ _).2.2⟩
        case rest =>
          obtain ⟨p6, p7, rfl, rfl, hA, hC, hbB⟩ := hcut
          have HB := Lib.hid (HBL.out.trans (hbB.mono HBL.out.size))
          have HQ2 := Lib.hid (And.intro (And.intro (ExpAt.below hbB _ _ HQ.out.1.1) (And.intro (HQ.out.1.2.1.below hbB (Nat.le_refl _)) (HQ.out.1.2.2.below hbB))) (And.intro (ExpAt.below hbB _ _ HQ.out.2.1) (And.intro (HQ.out.2.2.1.below hbB (Nat.le_refl _)) (HQ.out.2.2.2.below hbB))))
          have HC := Lib.hid (And.intro hA hC)
          have hlA := hA.lt
          have hlC := hC.lt
          have hAc0 := hA.cell 0 _ rfl
          have hAf0 := hA.frozen 0
          have hAc1 := hA.cell 1 _ rfl
          have hAf1 := hA.frozen 1
          have hAc2 := hA.cell 2 _ rfl
          have hAf2 := hA.frozen 2
          have hAc3 := hA.cell 3 _ rfl
          have hAf3 := hA.frozen 3
          have hAc4 := hA.cell 4 _ rfl
          have hAf4 := hA.frozen 4
          have hAc5 := hA.cell 5 _ rfl
          have hAf5 := hA.frozen 5
          have hAc6 := hA.cell 6 _ rfl
          have hAf6 := hA.frozen 6
          have hCc0 := hC.cell 0 _ rfl
          have hCf0 := hC.frozen 0
          have hCc1 := hC.cell 1 _ rfl
          have hCf1 := hC.frozen 1
          have hCc2 := hC.cell 2 _ rfl
          have hCf2 := hC.frozen 2
          have hCc3 := hC.cell 3 _ rfl
          have hCf3 := hC.frozen 3
          have hCc4 := hC.cell 4 _ rfl
          have hCf4 := hC.frozen 4
          have hCc5 := hC.cell 5 _ rfl
          have hCf5 := hC.frozen 5
          have hCc6 := hC.cell 6 _ rfl
          have hCf6 := hC.frozen 6
          clear HQ hbB hA hC q0 q1 q2 q3 q4 q5 q6 r0 r1 r2 r3 r4 r5 r6
          by_cases hbl : bl = bl2
          · subst hbl
            have e0 : (bl != bl) = false := by simp
            by_cases hnm : nm = nm2
            · subst hnm
              obtain ⟨bv, hbv⟩ := some_bool (ve = ve2)
              have hV := SameP.fix hbv (rSame_any ve ve2 wc _ _ HQ2.out.1.1 HQ2.out.2.1)
              have HBV := Lib.hid hbv
              simp only [vX] at hV
              clear hbv
              go_wp2_with fail
              refine hV.mono ?_
              rintro _ w3 ⟨rfl, hb3⟩
              clear hV hAc0 hAc1 hAc2 hAc3 hAc4 hAc5 hAc6 hAf0 hAf1 hAf2 hAf3 hAf4 hAf5 hAf6 hCc0 hCc1 hCc2 hCc3 hCc4 hCc5 hCc6 hCf0 hCf1 hCf2 hCf3 hCf4 hCf5 hCf6
              have HB3 := Lib.hid (HB.out.trans (hb3.mono HB.out.size))
              cases bv with
              | false =>
                have HX := Lib.hid (HN.out (fun h => by injection h with _ _ h; have := HBV.out.2 h; cases this))
                clear hb3
                go_wp2
                go_ret
                exact ⟨⟨false, rfl, no_iff HX.out⟩, HB3.out⟩
              | true =>
                obtain ⟨hA, hC⟩ := HC.out
                have hA3 := hA.below hb3 hlA
                have hC3 := hC.below hb3 hlC
                have hlA3 := hA3.lt
                have hlC3 := hC3.lt
                have hE := Texts_any _ _ ls ls2 w3 (HQ2.out.1.2.1.below hb3 (Nat.le_refl _)) (HQ2.out.2.2.1.below hb3 (Nat.le_refl _))
                have HQ3 := Lib.hid (And.intro (HQ2.out.1.2.2.below hb3) (HQ2.out.2.2.2.below hb3))
                have HC3 := Lib.hid (And.intro hA3 hC3)
                have hA3c0 := hA3.cell 0 _ rfl
                have hA3f0 := hA3.frozen 0
                have hA3c1 := hA3.cell 1 _ rfl
                have hA3f1 := hA3.frozen 1
                have hA3c2 := hA3.cell 2 _ rfl
                have hA3f2 := hA3.frozen 2
                have hA3c3 := hA3.cell 3 _ rfl
                have hA3f3 := hA3.frozen 3
                have hA3c4 := hA3.cell 4 _ rfl
                have hA3f4 := hA3.frozen 4
                have hA3c5 := hA3.cell 5 _ rfl
                have hA3f5 := hA3.frozen 5
                have hA3c6 := hA3.cell 6 _ rfl
                have hA3f6 := hA3.frozen 6
                have hC3c0 := hC3.cell 0 _ rfl
                have hC3f0 := hC3.frozen 0
                have hC3c1 := hC3.cell 1 _ rfl
                have hC3f1 := hC3.frozen 1
                have hC3c2 := hC3.cell 2 _ rfl
                have hC3f2 := hC3.frozen 2
                have hC3c3 := hC3.cell 3 _ rfl
                have hC3f3 := hC3.frozen 3
                have hC3c4 := hC3.cell 4 _ rfl
                have hC3f4 := hC3.frozen 4
                have hC3c5 := hC3.cell 5 _ rfl
                have hC3f5 := hC3.frozen 5
                have hC3c6 := hC3.cell 6 _ rfl
                have hC3f6 := hC3.frozen 6
                clear hA hC hA3 hC3 hb3 HQ2 HC HB
                go_wp2_with fail
                refine hE.mono ?_
                rintro _ w4 ⟨rfl, hb4⟩
                clear hE hA3c0 hA3c1 hA3c2 hA3c3 hA3c4 hA3c5 hA3c6 hA3f0 hA3f1 hA3f2 hA3f3 hA3f4 hA3f5 hA3f6 hC3c0 hC3c1 hC3c2 hC3c3 hC3c4 hC3c5 hC3c6 hC3f0 hC3f1 hC3f2 hC3f3 hC3f4 hC3f5 hC3f6
                have HB4 := Lib.hid (HB3.out.trans (hb4.mono HB3.out.size))
                by_cases hls : ls = ls2
                · subst hls
                  rw [decide_eq_true rfl]
                  obtain ⟨hA3, hC3⟩ := HC3.out
                  have hA4 := hA3.below hb4 hlA3
                  have hC4 := hC3.below hb4 hlC3
                  have hlA4 := hA4.lt
                  have hlC4 := hC4.lt
                  obtain ⟨bi, hbi⟩ := some_bool (its = its2)
                  have hI := SameP.fix hbi (hIH w4 _ _ (HQ3.out.1.below hb4) (HQ3.out.2.below hb4))
                  have HBI := Lib.hid hbi
                  have hA4c0 := hA4.cell 0 _ rfl
                  have hA4f0 := hA4.frozen 0
                  have hA4c1 := hA4.cell 1 _ rfl
                  have hA4f1 := hA4.frozen 1
                  have hA4c2 := hA4.cell 2 _ rfl
                  have hA4f2 := hA4.frozen 2
                  have hA4c3 := hA4.cell 3 _ rfl
                  have hA4f3 := hA4.frozen 3
                  have hA4c4 := hA4.cell 4 _ rfl
                  have hA4f4 := hA4.frozen 4
                  have hA4c5 := hA4.cell 5 _ rfl
                  have hA4f5 := hA4.frozen 5
                  have hA4c6 := hA4.cell 6 _ rfl
                  have hA4f6 := hA4.frozen 6
                  have hC4c0 := hC4.cell 0 _ rfl
                  have hC4f0 := hC4.frozen 0
                  have hC4c1 := hC4.cell 1 _ rfl
                  have hC4f1 := hC4.frozen 1
                  have hC4c2 := hC4.cell 2 _ rfl
                  have hC4f2 := hC4.frozen 2
                  have hC4c3 := hC4.cell 3 _ rfl
                  have hC4f3 := hC4.frozen 3
                  have hC4c4 := hC4.cell 4 _ rfl
                  have hC4f4 := hC4.frozen 4
                  have hC4c5 := hC4.cell 5 _ rfl
                  have hC4f5 := hC4.frozen 5
                  have hC4c6 := hC4.cell 6 _ rfl
                  have hC4f6 := hC4.frozen 6
                  clear hA3 hC3 hA4 hC4 hb4 hbi HQ3 HC3 HB3
                  go_wp2_with fail
                  refine hI.mono ?_
                  rintro _ w5 ⟨rfl, hb5⟩
                  clear hI hA4c0 hA4c1 hA4c2 hA4c3 hA4c4 hA4c5 hA4c6 hA4f0 hA4f1 hA4f2 hA4f3 hA4f4 hA4f5 hA4f6 hC4c0 hC4c1 hC4c2 hC4c3 hC4c4 hC4c5 hC4c6 hC4f0 hC4f1 hC4f2 hC4f3 hC4f4 hC4f5 hC4f6
                  have HB5 := Lib.hid (HB4.out.trans (hb5.mono HB4.out.size))
                  clear hb5
                  cases bi with
                  | false =>
                    have HX := Lib.hid (HN.out (fun h => by injection h with _ _ _ _ h; have := HBI.out.2 h; cases this))
                    go_wp2
                    go_ret
                    exact ⟨⟨false, rfl, no_iff HX.out⟩, HB5.out⟩
                  | true =>
                    have HX := Lib.hid (HD.out (by rw [HBV.out.1 (by trivial), HBI.out.1 (by trivial)]))
                    go_wp2
                    go_roundw
                    case rel => exact ⟨k + 1, by omega, by go_num, HX.out, HB5.out⟩
                    case measure => simp [intOf]; omega
                · have HX := Lib.hid (HN.out (fun h => by injection h with _ _ _ h; exact hls h))
                  rw [decide_eq_false hls]
                  clear hls hb4
                  go_wp2
                  go_ret
                  exact ⟨⟨false, rfl, no_iff HX.out⟩, HB4.out⟩
            · have e1 := str_ne hnm
              have HX := Lib.hid (HN.out (fun h => by injection h with _ h; exact hnm h))
              clear hnm
              go_wp2
              go_ret
              exact ⟨⟨false, rfl, no_iff HX.out⟩, HB.out⟩
          · have HX := Lib.hid (HN.out (fun h => by injection h with h; exact hbl h))
            cases bl <;> cases bl2
            · exact absurd rfl hbl
            · clear hbl
              go_wp2
              go_ret
              exact ⟨⟨false, rfl, no_iff HX.out⟩, HB.out⟩
            · clear hbl
              go_wp2
              go_ret
              exact ⟨⟨false, rfl, no_iff HX.out⟩, HB.out⟩
            · exact absurd rfl hbl
      · obtain rfl : k = l.length := by omega
        have hR := Lib.hid (rows_eq HL.out (fun j h1 h2 => HA.out j h1 h2 h1))
        go_wp2_with fail
        go_ret
        exact ⟨⟨true, rfl, yes_iff (by rw [HP.out]; exact hR.out)⟩, HBL.out⟩
  · have hq : ((l.length : Int) != (m.length : Int)) = true := by rw [bne_iff_ne]; omega
    have HN : Hid (¬ l = m) := Lib.hid (fun h => hlen (by rw [h]))
    have HB := Lib.hid (Below.refl w.heap.size w)
    clear hlen
    go_enter Tryz.func8, Tryz.ntmps8
    go_wp2
    go_ret
    exact ⟨⟨false, rfl, no_iff HN.out⟩, HB.out⟩
theorem rISame_upto (n : Nat) : ∀ (l m : List Itm), bulkI l + 1 ≤ n → ∀ (w : World) (v u : Value), ItmsAt w v l → ItmsAt w u m → Calls Tryz.prog 8 #[v, u] w (SameP (l = m) w) := by
  induction n with
  | zero => intro l m h; omega
  | succ n IH => exact fun l m h w v u hv hu => rISame_step n IH l m (by omega) w v u hv hu
/-- Same: just if they are. -/
theorem rISame_any (l m : List Itm) (w : World) (v u : Value) (hv : ItmsAt w v l) (hu : ItmsAt w u m) : Calls Tryz.prog 8 #[v, u] w (SameP (l = m) w) :=
  rISame_upto (bulkI l + 1) l m (Nat.le_refl _) w v u hv hu
end Go.Proofs.YthmmgpbojbjihaaGreatDoor

/- Arguments that came in, read as rows of items (layer 13). -/
namespace Go.Proofs.YthmmgpbojbjihaaGreatDoor
open Go.RowKit Go.Tab Go.ChangeShapes

mutual
/-- No slice and no text in it has more than the statements' reach. -/
def FitI : Itm → Prop
  | .mk _ n v ls its => n.size ≤ 140737488351232 ∧ FitX v ∧ (ls.length ≤ 140737488351232 ∧ ∀ s ∈ ls, s.size ≤ 140737488351232) ∧ its.length ≤ 140737488351232 ∧ FitIs its
def FitIs : List Itm → Prop
  | [] => True
  | t :: r => FitI t ∧ FitIs r
end
theorem FitI.kid : ∀ {l : List Itm} {k : Nat} (h : k < l.length), FitIs l → FitI l[k]
  | t :: r, 0, _, h => by simp only [FitIs] at h; exact h.1
  | t :: r, k + 1, hk, h => by
    simp only [FitIs] at h
    exact FitI.kid (l := r) (k := k) (by simpa using hk) h.2
def FitL (l : List Itm) : Prop := l.length ≤ 140737488351232 ∧ FitIs l
theorem len7' {α : Type} {l : List α} (h : l.length = 7) : ∃ a b c d e f g, l = [a, b, c, d, e, f, g] := by
  match l, h with
  | [a, b, c, d, e, f, g], _ => exact ⟨a, b, c, d, e, f, g, rfl⟩

section
variable {H : Type} {enc : TypeId × Value → H} {W : World} {base : Nat} {spare : Nat → Bool} {held : Bool}
theorem its_of : ∀ (l : List (DataW H)) (b off : Nat) (h : ∀ i (hi : i < l.length), ∃ t cs, (∀ j u, cs[j]? = some u → W.cell? ⟨b, off + i * 7 + j, none⟩ = some u) ∧ ItmAt W t cs ∧ ((∀ m ∈ l[i].weights Tryz.prog 37, m ≤ reachBytes) → FitI t)),
    ∃ its : List Itm, its.length = l.length ∧ ItmsR (ExpAt W) (RowOf Value.string W) (fun b => b < W.heap.size) W b off its ∧ ((∀ m ∈ DataW.weightsAll Tryz.prog 37 l, m ≤ reachBytes) → FitIs its)
  | [], _, _, _ => ⟨[], rfl, (by unfold ItmsR; trivial), fun _ => by simp only [FitIs]⟩
  | d :: r, b, off, h => by
    obtain ⟨t, cs, h1, h2, h4⟩ := h 0 (by simp)
    obtain ⟨its, g1, g2, g4⟩ := its_of r b (off + 7) (fun i hi => by
      obtain ⟨t, cs, k1, k2, k4⟩ := h (i + 1) (by simp; omega)
      refine ⟨t, cs, fun j u hu => ?_, k2, by simpa using k4⟩
      rw [← k1 j u hu]
      congr 2
      omega)
    refine ⟨t :: its, by simp [g1], ?_, fun hw => ?_⟩
    · simp only [ItmsR]
      exact ⟨⟨cs, fun j u hu => by have := h1 j u hu; simpa using this, h2⟩, g2⟩
    · simp only [FitIs]
      simp only [DataW.weightsAll, List.mem_append] at hw
      exact ⟨h4 (fun m hm => hw m (.inl (by simpa using hm))), g4 (fun m hm => hw m (.inr hm))⟩
theorem Tryz.byStrI : Tryz.prog.bytesOf 9 = 16 := by kernel_rfl
theorem Tryz.byItm : Tryz.prog.bytesOf 37 = 128 := by kernel_rfl
theorem mem_strsI {k : ByteArray} : ∀ {l : List ByteArray}, k ∈ l → k.size ∈ DataW.weightsAll Tryz.prog 9 (strs l : List (DataW H))
  | a :: r, h => by
    simp only [strs, List.map_cons, DataW.weightsAll, DataW.weights, List.mem_append]
    rcases List.mem_cons.1 h with rfl | h
    · exact .inl (List.mem_singleton.2 rfl)
    · exact .inr (mem_strsI h)
theorem Tryz.uItem : ∃ f0 f1 f2 f3 f4 : Field, Tryz.prog.underlying 37 = some (.struct #[f0, f1, f2, f3, f4]) ∧ f0.type = 4 ∧ f0.offset = 0 ∧ f1.type = 9 ∧ f1.offset = 1 ∧ f2.type = 34 ∧ f2.offset = 2 ∧ f3.type = 35 ∧ f3.offset = 5 ∧ f4.type = 23 ∧ f4.offset = 6 :=
  ⟨_, _, _, _, _, Tryz.underlying37, rfl, rfl, rfl, rfl, rfl, rfl, rfl, rfl, rfl, rfl⟩
theorem Tryz.ciBool : Tryz.prog.cellsOf 4 = 1 := by kernel_rfl
theorem Tryz.ciStrs : Tryz.prog.cellsOf 35 = 1 := by kernel_rfl
theorem Tryz.ciItms : Tryz.prog.cellsOf 23 = 1 := by kernel_rfl
theorem Tryz.ciItm : Tryz.prog.cellsOf 37 = 7 := by kernel_rfl
theorem labels_open {n : Nat} {c : Value} {x : DataW H × List MemPlace} (e4 : DataW.trod enc Tryz.prog W base spare held n 35 [c] = some x) :
    ∃ keys, RowOf Value.string W c keys ∧ ((∀ m ∈ x.1.weights Tryz.prog 35, m ≤ reachBytes) → keys.length ≤ 140737488351232 ∧ ∀ k ∈ keys, k.size ≤ 140737488351232) := by
  rcases open_strings Tryz.underlying35 Tryz.underlying9 Tryz.cxStr e4 with ⟨h1, h2⟩ | ⟨a, ln, cp, ss, h1, hb, hl, hm, hsl, hx, hcell, hsz⟩
  · simp at h1
    subst h1
    exact ⟨[], RowOf.nil, fun _ => ⟨by simp, by simp⟩⟩
  · simp at h1
    subst h1
    have hln : ln ≤ ss.length := by rw [hsl]; split <;> omega
    have htl : (ss.take ln).length = ln := by rw [List.length_take]; omega
    refine ⟨ss.take ln, ⟨some a, cp, by rw [htl], by rw [htl]; exact hl, hm, (fun h => by cases h), fun y hy hne => ?_⟩, fun hw => ?_⟩
    · cases hy
      have h0 : 0 < ss.length := by
        rcases Nat.eq_zero_or_pos ss.length with h | h
        · rw [List.eq_nil_of_length_eq_zero h] at hne; simp at hne
        · exact h
      have hc0 := hcell 0 h0
      obtain ⟨bb, off, sp⟩ := a
      have hsp : sp = none := by simpa [Addr.add] using World.cell?_spot hc0
      subst hsp
      refine ⟨rfl, World.block_lt_of_cell? W _ hc0, fun j hj => ?_⟩
      rw [htl] at hj
      have := hcell j (by omega)
      rw [Addr.add_lit] at this
      rw [this, List.getD_eq_getElem?_getD, List.getElem?_eq_getElem (by omega)]
      simp
    · rw [hx] at hw
      simp only [DataW.weights, Tryz.underlying35, Tryz.byStrI, List.mem_cons, List.mem_append] at hw
      refine ⟨?_, fun k hk => ?_⟩
      · have := hw _ (.inl rfl)
        simp only [strs, List.length_map] at this
        unfold reachBytes at this
        omega
      · have := hw _ (.inr (.inl (mem_strsI hk)))
        unfold reachBytes at this
        omega

set_option maxHeartbeats 2000000 in
set_option maxRecDepth 100000 in
theorem itm_open (n : Nat) (IH : ∀ m, m < n → ∀ (c : Value) (y : DataW H × List MemPlace), DataW.trod enc Tryz.prog W base spare held m 23 [c] = some y → ∃ l, ItmsAt W c l ∧ ((∀ m ∈ y.1.weights Tryz.prog 23, m ≤ reachBytes) → FitL l))
    (cs : List Value) (x : DataW H × List MemPlace) (h : DataW.trod enc Tryz.prog W base spare held n 37 cs = some x) : ∃ t, ItmAt W t cs ∧ ((∀ m ∈ x.1.weights Tryz.prog 37, m ≤ reachBytes) → FitI t) := by
  obtain ⟨f0, f1, f2, f3, f4, hu, t0, o0, t1, o1, t2, o2, t3, o3, t4, o4⟩ := Tryz.uItem
  obtain ⟨xs, n1, rfl, rfl, hlen, hxl, hf⟩ := DataW.trod_struct hu h
  rw [Tryz.ciItm] at hlen
  obtain ⟨c0, c1, c2, c3, c4, c5, c6, rfl⟩ := len7' hlen
  obtain ⟨y0, y1, y2, y3, y4, rfl⟩ := len5 (by simpa using hxl)
  have e0 := hf 0 f0 rfl
  have e1 := hf 1 f1 rfl
  have e2 := hf 2 f2 rfl
  have e3 := hf 3 f3 rfl
  have e4 := hf 4 f4 rfl
  rw [t0, o0, Tryz.ciBool] at e0
  rw [t1, o1, Tryz.cxStr] at e1
  rw [t2, o2, Tryz.cxExpr] at e2
  rw [t3, o3, Tryz.ciStrs] at e3
  rw [t4, o4, Tryz.ciItms] at e4
  simp at e0 e1 e2 e3 e4
  obtain ⟨blk, g0, rfl⟩ := DataW.trod_bool Tryz.underlying4 e0
  obtain ⟨name, g1, rfl, hname⟩ := DataW.trod_string Tryz.underlying9 e1
  simp at g0 g1
  subst g0 g1
  obtain ⟨v, v1, v2⟩ := exp_open _ _ _ e2
  obtain ⟨ls, l1, l2⟩ := labels_open e3
  obtain ⟨its, i1, i2⟩ := IH n1 (by omega) _ _ e4
  obtain ⟨vo, vt, sa, sn, sc, hvs⟩ := v1.shape
  simp only [List.cons.injEq, and_true] at hvs
  obtain ⟨rfl, rfl, rfl⟩ := hvs
  obtain ⟨a, cap, rfl, i3, i4, i5, i6⟩ := i1
  refine ⟨.mk blk name v ls its, ?_, fun hw => ?_⟩
  · unfold ItmAt
    simp only [ItmR]
    exact ⟨_, _, _, _, a, cap, rfl, v1, l1, i3, i4, i5, i6⟩
  · have e1 : name.size = name.data.toList.length := rfl
    simp only [DataW.weights, hu, List.map_cons, List.map_nil, DataW.weightsEach, t0, t1, t2, t3, t4, List.mem_append, List.mem_cons, List.not_mem_nil, or_false, false_or] at hw
    have k5 := hw _ (.inl rfl)
    unfold reachBytes at k5
    simp only [FitI]
    exact ⟨by omega, v2 (fun m hm => hw m (by simp [hm])), l2 (fun m hm => hw m (by simp [hm])), i2 (fun m hm => hw m (by simp [hm]))⟩
set_option maxHeartbeats 2000000 in
set_option maxRecDepth 100000 in
theorem items_open : ∀ (n : Nat) (c : Value) (x : DataW H × List MemPlace), DataW.trod enc Tryz.prog W base spare held n 23 [c] = some x → ∃ l, ItmsAt W c l ∧ ((∀ m ∈ x.1.weights Tryz.prog 23, m ≤ reachBytes) → FitL l) := by
  intro n
  induction n using Nat.strongRecOn with
  | _ n IH =>
    intro c x h
    rcases DataW.trod_slice Tryz.underlying23 h with ⟨h1, h2⟩ | ⟨a, ln, cp, elems, rest, n3, hn3, h1, hx, hb, hl, hm, hel, hcell, -, -⟩
    · simp at h1
      subst h1
      exact ⟨[], ⟨none, 0, rfl, Nat.le_refl _, by decide, fun _ => rfl, fun x h => by cases h⟩, fun _ => ⟨by simp, by simp only [FitIs]⟩⟩
    · simp at h1
      subst h1
      have each : ∀ i, i < ln → ∃ cs', W.cells? base (a.add (i * 7)) 7 = some cs' ∧ DataW.trod enc Tryz.prog W base spare held n3 37 cs' = some (elems.getD i (.nil, [])) := fun i hi => by
        have := hcell i hi
        rw [Tryz.ciItm, List.getElem?_eq_getElem (by omega)] at this
        obtain ⟨cs', r1, r2⟩ := Option.bind_eq_some_iff.1 this
        exact ⟨cs', r1, by rw [r2, List.getD_eq_getElem?_getD, List.getElem?_eq_getElem (by omega)]; rfl⟩
      by_cases h0 : ln = 0
      · subst h0
        exact ⟨[], ⟨some a, cp, rfl, hl, hm, (fun h => by cases h), fun x _ h => absurd rfl h⟩, fun _ => ⟨by simp, by simp only [FitIs]⟩⟩
      · have hsp : a.spot = none := by
          obtain ⟨cs', r1, r2⟩ := each 0 (by omega)
          obtain ⟨l1, l2⟩ := cells_at r1
          obtain ⟨u0, u1, u2, u3, u4, u5, u6, rfl⟩ := len7' l1
          have := World.cell?_spot (l2 0 u0 rfl)
          simpa [Addr.add] using this
        obtain ⟨bb, off, sp⟩ := a
        simp only at hsp
        subst hsp
        have hlt : bb < W.heap.size := by
          obtain ⟨cs', r1, r2⟩ := each 0 (by omega)
          obtain ⟨l1, l2⟩ := cells_at r1
          obtain ⟨u0, u1, u2, u3, u4, u5, u6, rfl⟩ := len7' l1
          have := World.block_lt_of_cell? W _ (l2 0 u0 rfl)
          simpa [Addr.add] using this
        obtain ⟨its, r1, r2, r4⟩ := its_of (H := H) (W := W) (elems.map (·.1)) bb off (fun i hi => by
          simp at hi
          obtain ⟨cs', r1, r2⟩ := each i (by omega)
          obtain ⟨l1, l2⟩ := cells_at r1
          obtain ⟨t, v1, v3⟩ := itm_open n3 (fun m hm => IH m (by omega)) cs' _ r2
          refine ⟨t, cs', fun j u hu => ?_, v1, ?_⟩
          · have := l2 j u hu
            rw [Addr.add_lit, Addr.add_lit] at this
            exact this
          · rw [List.getD_eq_getElem?_getD, List.getElem?_eq_getElem hi] at v3
            simpa using v3)
        simp at r1
        refine ⟨its, ⟨some ⟨bb, off, none⟩, cp, by rw [r1, hel], by omega, hm, (fun h => by cases h), (fun x hx _ => by cases hx; exact ⟨rfl, hlt, r2⟩)⟩, fun hw => ?_⟩
        rw [hx] at hw
        simp only [DataW.weights, Tryz.underlying23, Tryz.byItm, List.mem_cons, List.mem_append] at hw
        refine ⟨?_, r4 (fun m hm => hw m (.inr (.inl hm)))⟩
        have := hw _ (.inl rfl)
        simp only [List.length_map] at this
        unfold reachBytes at this
        omega
end
end Go.Proofs.YthmmgpbojbjihaaGreatDoor
