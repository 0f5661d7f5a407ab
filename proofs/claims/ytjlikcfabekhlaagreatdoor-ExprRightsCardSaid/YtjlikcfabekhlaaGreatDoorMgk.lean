/- Texts of this claim, one behind the other: LxV, LxG, LxW, ExR, ExS, ExT, ExC, ExU. -/
import Derived.Test.YtjlikcfabekhlaaGreatDoorMgb
import Derived.Test.YtjlikcfabekhlaaGreatDoorMgf
import Derived.Test.YtjlikcfabekhlaaGreatDoorMgj
import Derived.WalkMore
set_option linter.unusedSimpArgs false
set_option linter.unusedVariables false

/- The walk of the reference's one: comments within a line, signs; one, whole (layer 11). -/
namespace Go.Proofs.YtjlikcfabekhlaaGreatDoor
open Go.RowKit Go.Tab

/-- The first end of a comment in a line, and in all that follows. -/
theorem endN_line : ∀ D : Bs, (∀ n, endN (D.take (lineN D)) = some n → endN D = some n ∧ (D.take n).contains 10 = false) ∧ (endN (D.take (lineN D)) = none → endN D = none ∨ ∃ n, endN D = some n ∧ (D.take n).contains 10 = true)
  | [] => ⟨(fun n h => by cases h), fun _ => .inl rfl⟩
  | c :: D => by
    obtain ⟨h1, h2⟩ := endN_line D
    by_cases hc : c = 10
    · subst hc
      rw [lineN, if_pos rfl, List.take_zero]
      refine ⟨(fun n h => by cases h), fun _ => ?_⟩
      rw [endN, if_neg (by rintro ⟨h, -⟩; revert h; decide)]
      cases hd : endN D with
      | none => exact .inl rfl
      | some n => exact .inr ⟨n + 1, rfl, by simp⟩
    · rw [lineN, if_neg hc, List.take_succ_cons]
      have hh : (D.take (lineN D)).head? = some 47 ↔ D.head? = some 47 := by
        cases D with
        | nil => simp
        | cons d D =>
          rw [lineN]
          by_cases hd : d = 10
          · subst hd; simp
          · rw [if_neg hd]; simp
      rw [endN, endN]
      by_cases hcc : c = 42 ∧ D.head? = some 47
      · rw [if_pos ⟨hcc.1, hh.2 hcc.2⟩, if_pos hcc]
        exact ⟨fun n h => by cases h; exact ⟨rfl, by simp⟩, fun h => by cases h⟩
      · rw [if_neg (fun h => hcc ⟨h.1, hh.1 h.2⟩), if_neg hcc]
        have hcb : (c == 10) = false := by simpa using hc
        have hcb2 : ((10 : UInt8) == c) = false := by simpa using fun e : (10 : UInt8) = c => hc e.symm
        refine ⟨fun n h => ?_, fun h => ?_⟩
        · obtain ⟨m, hm, rfl⟩ := Option.map_eq_some_iff.1 h
          obtain ⟨h3, h4⟩ := h1 m hm
          rw [h3]
          exact ⟨rfl, by rw [List.take_succ_cons, List.contains_cons, h4, hcb2]; rfl⟩
        · rcases h2 (Option.map_eq_none_iff.1 h) with h3 | ⟨n, h3, h4⟩
          · left; rw [h3]; rfl
          · right; rw [h3]
            exact ⟨n + 1, rfl, by rw [List.take_succ_cons, List.contains_cons, h4]; simp⟩
theorem aside_line {c d : UInt8} {D : Bs} (hc : c ≠ 10) (hd : d ≠ 10) :
    (∀ n, endN (D.take (lineN D)) = some n → aside1 (c :: d :: D) = remT ((c :: d :: D).take (n + 4)) 7) ∧ (endN (D.take (lineN D)) = none → aside1 (c :: d :: D) = .bad 0 2) := by
  obtain ⟨h1, h2⟩ := endN_line D
  have hcb : ((10 : UInt8) == c) = false := by simpa using fun e : (10 : UInt8) = c => hc e.symm
  have hdb : ((10 : UInt8) == d) = false := by simpa using fun e : (10 : UInt8) = d => hd e.symm
  have ht : ∀ n, ((c :: d :: D).take (n + 2)).contains 10 = (D.take n).contains 10 := by
    intro n
    rw [List.take_succ_cons, List.take_succ_cons, List.contains_cons, List.contains_cons, hcb, hdb, Bool.false_or, Bool.false_or]
  refine ⟨fun n h => ?_, fun h => ?_⟩
  · obtain ⟨h3, h4⟩ := h1 n h
    unfold aside1
    simp only [List.drop_succ_cons, List.drop_zero]
    rw [h3]
    simp only
    rw [ht, h4, if_neg (by simp)]
  · unfold aside1
    simp only [List.drop_succ_cons, List.drop_zero]
    rcases h2 h with h3 | ⟨n, h3, h4⟩
    · rw [h3]
    · rw [h3]
      simp only
      rw [ht, h4, if_pos rfl]
theorem endN_drop : ∀ (E : Bs) (t : Nat), (∀ j, j < t → ([42, 47] : Bs).isPrefixOf (E.drop j) = false) → ([42, 47] : Bs).isPrefixOf (E.drop t) = true → endN E = some t
  | [], t, _, h => by simp [List.isPrefixOf] at h
  | c :: E, 0, _, h => by
    rw [List.drop_zero, pfx2] at h
    rw [endN, if_pos (by simpa using h)]
  | c :: E, t + 1, h1, h => by
    have h0 := h1 0 (by omega)
    rw [List.drop_zero, pfx2] at h0
    rw [endN, if_neg (by simpa using h0), endN_drop E t (fun j hj => by have := h1 (j + 1) (by omega); simpa using this) (by simpa using h)]
    rfl
theorem endN_no : ∀ (E : Bs), (∀ j, j < E.length → ([42, 47] : Bs).isPrefixOf (E.drop j) = false) → endN E = none
  | [], _ => rfl
  | c :: E, h1 => by
    have h0 := h1 0 (by simp)
    rw [List.drop_zero, pfx2] at h0
    rw [endN, if_neg (by simpa using h0), endN_no E (fun j hj => by have := h1 (j + 1) (by simp; omega); simpa using this)]
    rfl

set_option maxHeartbeats 4000000 in
set_option maxRecDepth 100000 in
theorem one_aside (s : ByteArray) (k : Nat) (w : World) (hs : s.size ≤ 100000) (hk : k < s.size) (hc : s[k]'hk = 47) (hr : (s.data.toList.drop (k + 1)).head? = some 42) :
    Calls Tryz.prog 38 #[.string s, .int .i64 (k : Nat)] w (OneP w s k (aside1 (s.data.toList.drop k))) := by
  have hd := drop_at hk
  rw [hc] at hd
  obtain ⟨D, hD⟩ : ∃ D, s.data.toList.drop (k + 1) = 42 :: D := by
    cases hq : s.data.toList.drop (k + 1) with
    | nil => rw [hq] at hr; cases hr
    | cons d D => rw [hq] at hr; simp at hr; subst hr; exact ⟨D, rfl⟩
  rw [hD] at hd
  have hD2 : s.data.toList.drop (k + 2) = D := by
    have := congrArg (List.drop 1) hD
    rw [List.drop_drop] at this
    simpa using this
  have hDl : D.length = s.size - (k + 2) := by rw [← hD2, List.length_drop, ← size_list]
  have h2s : k + 2 ≤ s.size := by have := congrArg List.length hD; rw [List.length_drop, ← size_list, List.length_cons] at this; omega
  obtain ⟨ln, hln⟩ : ∃ ln, lineN D = ln := ⟨_, rfl⟩
  have hlnl := lineN_le D
  rw [hln, hDl] at hlnl
  have hE := fun W => end_any s k W (by omega) (by omega)
  rw [hd, lineN, if_neg (by decide), lineN, if_neg (by decide), hln] at hE
  have hI1 := fun W => is_any s k ⟨#[47, 47]⟩ W (by omega) (by omega) (by decide)
  rw [hd, show (⟨#[47, 47]⟩ : ByteArray).data.toList.isPrefixOf (47 :: 42 :: D) = false from rfl] at hI1
  have hI2 := fun W => is_any s k ⟨#[47, 42]⟩ W (by omega) (by omega) (by decide)
  rw [hd, show (⟨#[47, 42]⟩ : ByteArray).data.toList.isPrefixOf (47 :: 42 :: D) = true from rfl] at hI2
  obtain ⟨al1, al2⟩ := aside_line (c := 47) (d := 42) (D := D) (by decide) (by decide)
  rw [hln] at al1 al2
  rw [hd]
  have hIs : ∀ t W, t ≤ ln → Calls Tryz.prog 67 #[.string (s.extract 0 (k + 2 + ln)), .int .i64 ((k + 2 + t : Nat) : Int), .string ⟨#[42, 47]⟩] W fun e w' => e = .returned (.bool (([42, 47] : Bs).isPrefixOf ((D.take ln).drop t))) ∧ W = w' := fun t W ht => by
    have h := is_any (s.extract 0 (k + 2 + ln)) (k + 2 + t) ⟨#[42, 47]⟩ W (by rw [ext_size (by omega)]; omega) (by rw [ext_size (by omega)]; omega) (by decide)
    rw [ext_take] at h
    have e : (s.data.toList.take (k + 2 + ln)).drop (k + 2 + t) = (D.take ln).drop t := by
      rw [← List.drop_drop, ← hD2]
      congr 1
      rw [List.drop_take]; congr 1; omega
    rw [e] at h
    exact h
  have hCm : ∀ t W, t + 2 ≤ ln → Calls Tryz.prog 69 #[.string s, .int .i64 (k : Nat), .int .i64 ((k + 2 + t + 2 : Nat) : Int), .int .i64 ((7 : Nat) : Int)] W (TellP W (lrT s k (remT ((47 :: 42 :: D).take (t + 4)) 7)).1 (lrT s k (remT ((47 :: 42 :: D).take (t + 4)) 7)).2.1 (lrT s k (remT ((47 :: 42 :: D).take (t + 4)) 7)).2.2) := fun t W ht => by
    have h := comment_any s k (k + 2 + t + 2) 7 W hs (by omega) (by omega)
    have e : (s.data.toList.take (k + 2 + t + 2)).drop k = (47 :: 42 :: D).take (t + 4) := by
      rw [← hd, List.drop_take]; congr 1; omega
    rw [e] at h
    exact h
  have hEl : (D.take ln).length = ln := by rw [List.length_take]; omega
  have hpl : ∀ t, ([42, 47] : Bs).isPrefixOf ((D.take ln).drop t) = true → t + 2 ≤ ln := by
    intro t ht
    have := (List.isPrefixOf_iff_prefix.1 ht).length_le
    rw [List.length_drop, hEl] at this
    simp at this; omega
  have hle1 := Letter_any 47
  rw [show letB 47 = false from rfl] at hle1
  have hcn : (s[k]'hk).toNat = 47 := by rw [hc]; rfl
  have HCM := Lib.hid hCm
  have HA := Lib.hid (And.intro al1 al2)
  have HPL := Lib.hid hpl
  have HEL := Lib.hid hEl
  clear hd hD hD2 hDl hln hr hCm hpl hEl hc al1 al2
  generalize hW : (47 :: 42 :: D : Bs) = W0 at *
  generalize D.take ln = E at *
  clear hW
  have hb : Below w.heap.size w (w.alloc (.cells #[.slice none 0 0, .int .i64 0, .int .i64 0] 26)) := (Below.refl _ w).alloc (Nat.le_refl _) _
  have hbx := Cells.new w #[.slice none 0 0, .int .i64 0, .int .i64 0] 26
  have HH := Lib.hid (And.intro hb hbx)
  clear hb hbx
  go_enter Tryz.func38, Tryz.ntmps38
  go_wp2_with fail
  refine (hle1 _).mono ?_
  rintro _ _ ⟨rfl, hw1⟩
  cases hw1
  go_wp2_with fail
  refine (hI1 _).mono ?_
  rintro _ _ ⟨rfl, hw1⟩
  cases hw1
  go_wp2_with fail
  refine (hI2 _).mono ?_
  rintro _ _ ⟨rfl, hw1⟩
  cases hw1
  go_wp2_with fail
  refine (hE _).mono ?_
  rintro _ _ ⟨rfl, hw1⟩
  cases hw1
  rw [show ((k + (ln + 1 + 1) : Nat) : Int) = ((k + 2 + ln : Nat) : Int) by omega]
  clear hle1 hI1 hI2 hE
  go_wp2_with fail
  go_loop [12] (fun n => ∃ t : Nat, n = .int .i64 ((k + 2 + t : Nat) : Int) ∧ t ≤ ln ∧ ∀ j, j < t → ([42, 47] : Bs).isPrefixOf (E.drop j) = false) (fun n => s.size - (intOf n).toNat)
  case atStart => exact ⟨0, by congr 1, Nat.zero_le _, fun j hj => by omega⟩
  case round =>
    obtain ⟨t, rfl, ht, hno⟩ := hrel
    have HN := Lib.hid hno
    clear hno
    by_cases hlt : t < ln
    · have hI := fun W => hIs t W ht
      cases hp : ([42, 47] : Bs).isPrefixOf (E.drop t) with
      | true =>
        rw [hp] at hI
        have hen := HA.out.1 t (endN_drop E t HN.out hp)
        have hC := HCM.out t (w.alloc (.cells #[.slice none 0 0, .int .i64 0, .int .i64 0] 26)) (HPL.out t hp)
        rw [hen]
        rw [show ((k + 2 + t + 2 : Nat) : Int) = ((k + 2 + t : Nat) : Int) + 2 by omega] at hC
        unfold OneP
        obtain ⟨⟨tl, ta, te⟩, hx⟩ : ∃ x, lrT s k (remT (W0.take (t + 4)) 7) = x := ⟨_, rfl⟩
        rw [hx] at hC ⊢
        simp only at hC ⊢
        clear hx hen hp
        go_wp2_with fail
        refine (hI _).mono ?_
        rintro _ _ ⟨rfl, hw1⟩
        cases hw1
        go_wp2_with fail
        obtain ⟨hb, hbx⟩ := HH.out
        refine (hC).mono ?_
        rintro _ w2 ⟨v, rfl, hown, hb2⟩
        obtain ⟨hc2, hown2, hbe, -⟩ := tell_box (a := ta) (e := te) hb hbx hb2.size hown hb2
        obtain ⟨va, vc, hve⟩ := hown.len
        (try simp only [List.length_cons, List.length_nil, Nat.zero_add] at hve)
        subst hve
        have hl2 := hc2.lt
        have HX := Lib.hid (And.intro hown2 (And.intro hbe hc2))
        clear hown hb2 hown2 hbe hb hbx
        have hc2c0 := hc2.cell 0 _ rfl
        have hc2f0 := hc2.frozen 0
        have hc2c1 := hc2.cell 1 _ rfl
        have hc2f1 := hc2.frozen 1
        have hc2c2 := hc2.cell 2 _ rfl
        have hc2f2 := hc2.frozen 2
        go_wp2
        obtain ⟨hown2, hbe, hce⟩ := HX.out
        have hq := ((hce.setI 0 (.slice va tl.length vc)).setI 1 (.int .i64 ta)).setI 2 (.int .i64 te)
        have hx := hq.cell 0 _ rfl
        have hy := hq.cell 1 _ rfl
        have hz := hq.cell 2 _ rfl
        refine bodyPost_ret (v := .agg #[.slice va tl.length vc, .int .i64 ta, .int .i64 te]) (by simp [results, Tryz.results38, go_sem, hx, hy, hz]) rfl ?_
        exact ⟨_, rfl, hown2, hbe⟩
      | false =>
        rw [hp] at hI
        have HN2 : Hid (∀ j, j < t + 1 → ([42, 47] : Bs).isPrefixOf (E.drop j) = false) := Lib.hid (fun j hj => by
          by_cases h : j = t
          · subst h; exact hp
          · exact HN.out j (by omega))
        clear hp
        go_wp2_with fail
        refine (hI _).mono ?_
        rintro _ _ ⟨rfl, hw1⟩
        cases hw1
        go_wp2
        go_round
        case rel => exact ⟨t + 1, by go_num, by omega, HN2.out⟩
        case measure => simp [intOf]; omega
    · obtain rfl : t = ln := by omega
      have hen := HA.out.2 (endN_no E (by rw [HEL.out]; exact HN.out))
      have HEN := Lib.hid hen
      clear hen
      go_wp2
      have hq := Cells.new w #[.slice none 0 0, .int .i64 (k : Nat), .int .i64 2] 26
      have hx := hq.cell 0 _ rfl
      have hy := hq.cell 1 _ rfl
      have hz := hq.cell 2 _ rfl
      refine bodyPost_ret (v := .agg #[.slice none 0 0, .int .i64 (k : Nat), .int .i64 2]) (by simp [results, Tryz.results38, go_sem, hx, hy, hz]) rfl ?_
      rw [HEN.out]
      exact ⟨_, by simp [lrT], OwnT.nil, (Below.refl _ w).alloc (Nat.le_refl _) _⟩

theorem sgl_at (j : Nat) (h : j < sgls.length) : ([(⟨#[61]⟩ : ByteArray), (⟨#[60]⟩ : ByteArray), (⟨#[62]⟩ : ByteArray), (⟨#[43]⟩ : ByteArray), (⟨#[45]⟩ : ByteArray), (⟨#[42]⟩ : ByteArray), (⟨#[47]⟩ : ByteArray), (⟨#[37]⟩ : ByteArray), (⟨#[33]⟩ : ByteArray), (⟨#[63]⟩ : ByteArray), (⟨#[58]⟩ : ByteArray), (⟨#[44]⟩ : ByteArray), (⟨#[46]⟩ : ByteArray), (⟨#[40]⟩ : ByteArray), (⟨#[41]⟩ : ByteArray), (⟨#[91]⟩ : ByteArray), (⟨#[93]⟩ : ByteArray), (⟨#[123]⟩ : ByteArray), (⟨#[125]⟩ : ByteArray)] : List ByteArray)[j]'(by exact h) = ⟨#[sgls[j]'h]⟩ := by
  have h19 : ∀ i : Fin 19, ([(⟨#[61]⟩ : ByteArray), (⟨#[60]⟩ : ByteArray), (⟨#[62]⟩ : ByteArray), (⟨#[43]⟩ : ByteArray), (⟨#[45]⟩ : ByteArray), (⟨#[42]⟩ : ByteArray), (⟨#[47]⟩ : ByteArray), (⟨#[37]⟩ : ByteArray), (⟨#[33]⟩ : ByteArray), (⟨#[63]⟩ : ByteArray), (⟨#[58]⟩ : ByteArray), (⟨#[44]⟩ : ByteArray), (⟨#[46]⟩ : ByteArray), (⟨#[40]⟩ : ByteArray), (⟨#[41]⟩ : ByteArray), (⟨#[91]⟩ : ByteArray), (⟨#[93]⟩ : ByteArray), (⟨#[123]⟩ : ByteArray), (⟨#[125]⟩ : ByteArray)] : List ByteArray)[i.val]'i.isLt = ⟨#[sgls[i.val]'i.isLt]⟩ := by decide
  exact h19 ⟨j, h⟩
theorem dbl_at (j : Nat) (h : j < dbls.length) : (dbls.map strL)[j]'(by rw [List.length_map]; exact h) = strL (dbls[j]'h) := List.getElem_map strL
theorem dbls_row : (dbls.map strL) = [⟨#[61, 61]⟩, ⟨#[33, 61]⟩, ⟨#[60, 61]⟩, ⟨#[62, 61]⟩, ⟨#[38, 38]⟩, ⟨#[124, 124]⟩] := rfl
theorem any_drop {l : List Bs} {p : Bs → Bool} {j : Nat} (h : j < l.length) : (l.drop j).any p = (p l[j] || (l.drop (j + 1)).any p) := by
  rw [List.drop_eq_getElem_cons h, List.any_cons]
set_option maxHeartbeats 4000000 in
set_option maxRecDepth 100000 in
theorem one_sign (s : ByteArray) (k : Nat) (w : World) (hs : s.size ≤ 100000) (hk : k < s.size) (h10 : s[k]'hk ≠ 10) (hl : letB (s[k]'hk) = false) (hg : dg (s[k]'hk) = false) (h34 : s[k]'hk ≠ 34) (h35 : s[k]'hk ≠ 35)
    (h47 : ¬ (s[k]'hk = 47 ∧ (s.data.toList.drop (k + 1)).head? = some 47)) (h42 : ¬ (s[k]'hk = 47 ∧ (s.data.toList.drop (k + 1)).head? = some 42)) :
    Calls Tryz.prog 38 #[.string s, .int .i64 (k : Nat)] w (OneP w s k (if sgN (s.data.toList.drop k) = 0 then .bad 0 3 else .tok 4 (sgN (s.data.toList.drop k)))) := by
  have hd := drop_at hk
  have d10 := u8_nb h10 (m := 10) rfl
  have d34 := u8_nb h34 (m := 34) rfl
  have d35 := u8_nb h35 (m := 35) rfl
  have hLe := Letter_any (s[k]'hk)
  rw [hl] at hLe
  have hdr : (s[k]'hk).toNat < 48 ∨ (48 ≤ (s[k]'hk).toNat ∧ 57 < (s[k]'hk).toNat) := by
    have : ¬ (48 ≤ (s[k]'hk).toNat ∧ (s[k]'hk).toNat ≤ 57) := by simpa [dg, dig] using hg
    omega
  have hI1 := fun W => is_any s k ⟨#[47, 47]⟩ W (by omega) (by omega) (by decide)
  rw [hd, show (⟨#[47, 47]⟩ : ByteArray).data.toList = [47, 47] from rfl, pfx2, decide_eq_false h47] at hI1
  have hI2 := fun W => is_any s k ⟨#[47, 42]⟩ W (by omega) (by omega) (by decide)
  rw [hd, show (⟨#[47, 42]⟩ : ByteArray).data.toList = [47, 42] from rfl, pfx2, decide_eq_false h42] at hI2
  have hIs : ∀ (p : ByteArray) W, p.size ≤ 1000 → Calls Tryz.prog 67 #[.string s, .int .i64 (k : Nat), .string p] W fun e w' => e = .returned (.bool (p.data.toList.isPrefixOf (s.data.toList.drop k))) ∧ W = w' := fun p W hp => is_any s k p W (by omega) (by omega) hp
  obtain ⟨B, hB⟩ : ∃ B, dbls.any (fun d => d.isPrefixOf (s.data.toList.drop k)) = B := ⟨_, rfl⟩
  obtain ⟨C, hC⟩ : ∃ C, sgls.contains (s[k]'hk) = C := ⟨_, rfl⟩
  have hsg : sgN (s.data.toList.drop k) = if B = true then 2 else if C = true then 1 else 0 := by
    unfold sgN
    rw [hB, hd]
    simp only
    rw [hC]
  rw [hsg]
  have HB := Lib.hid hB
  have HC := Lib.hid hC
  have HD := Lib.hid hd
  clear h10 hl hg h34 h35 h47 h42 hB hC hsg hd
  obtain ⟨R, hR⟩ : ∃ R, (if (if B = true then 2 else if C = true then 1 else 0) = 0 then LR.bad 0 3 else LR.tok 4 (if B = true then 2 else if C = true then 1 else 0)) = R := ⟨_, rfl⟩
  rw [hR]
  have HR := Lib.hid hR
  clear hR
  have hb : Below w.heap.size w (w.alloc (.cells #[.slice none 0 0, .int .i64 0, .int .i64 0] 26)) := (Below.refl _ w).alloc (Nat.le_refl _) _
  have hbx := Cells.new w #[.slice none 0 0, .int .i64 0, .int .i64 0] 26
  have HH := Lib.hid (And.intro hb hbx)
  clear hb hbx
  rcases hdr with hdr | hdr
  · skip
    go_enter Tryz.func38, Tryz.ntmps38
    go_wp2_with fail
    refine (hLe _).mono ?_
    rintro _ _ ⟨rfl, hw1⟩
    cases hw1
    go_wp2_with fail
    refine (hI1 _).mono ?_
    rintro _ _ ⟨rfl, hw1⟩
    cases hw1
    go_wp2_with fail
    refine (hI2 _).mono ?_
    rintro _ _ ⟨rfl, hw1⟩
    cases hw1
    clear hLe hI1 hI2
    go_wp2_with fail
    obtain ⟨hb, hbx⟩ := HH.out
    clear HH
    have hrow := (OwnOf.lit (f := Value.string) (E := 9) (base := w.heap.size) (w := w.alloc (.cells #[.slice none 0 0, .int .i64 0, .int .i64 0] 26)) (dbls.map strL) (by simp) (by decide)).row
    have hb1 := hb.alloc hb.size (.cells #[.string ⟨#[61, 61]⟩, .string ⟨#[33, 61]⟩, .string ⟨#[60, 61]⟩, .string ⟨#[62, 61]⟩, .string ⟨#[38, 38]⟩, .string ⟨#[124, 124]⟩] 9)
    have hbx1 := hbx.alloc (.cells #[.string ⟨#[61, 61]⟩, .string ⟨#[33, 61]⟩, .string ⟨#[60, 61]⟩, .string ⟨#[62, 61]⟩, .string ⟨#[38, 38]⟩, .string ⟨#[124, 124]⟩] 9)
    rw [World.size_alloc] at hrow
    change RowOf Value.string ((w.alloc (.cells #[.slice none 0 0, .int .i64 0, .int .i64 0] 26)).alloc (.cells #[.string ⟨#[61, 61]⟩, .string ⟨#[33, 61]⟩, .string ⟨#[60, 61]⟩, .string ⟨#[62, 61]⟩, .string ⟨#[38, 38]⟩, .string ⟨#[124, 124]⟩] 9)) (.slice (some ⟨w.heap.size + 1, 0, none⟩) 6 6) _ at hrow
    clear hb hbx
    generalize (w.alloc (.cells #[.slice none 0 0, .int .i64 0, .int .i64 0] 26)).alloc (.cells #[.string ⟨#[61, 61]⟩, .string ⟨#[33, 61]⟩, .string ⟨#[60, 61]⟩, .string ⟨#[62, 61]⟩, .string ⟨#[38, 38]⟩, .string ⟨#[124, 124]⟩] 9) = W1 at *
    have hb := hb1
    have hbx := hbx1
    clear hb1 hbx1
    have HHX := Lib.hid (And.intro hb hbx)
    clear hb hbx
    go_loop [14, 167] (fun _ i => ∃ j : Nat, i = .int .i64 (j : Int) ∧ j ≤ 6 ∧ (dbls.drop j).any (fun d => d.isPrefixOf (s.data.toList.drop k)) = B) (fun _ i => 6 - (intOf i).toNat)
    case atStart => exact ⟨0, rfl, by omega, HB.out⟩
    case round =>
      clear HB
      obtain ⟨j, rfl, hj, hI⟩ := hrel
      by_cases hlt : j < 6
      · have hltD : j < dbls.length := hlt
        obtain ⟨b1, o1, hq1, hbl, hcell⟩ := hrow.at (j := j) (by exact hlt)
        cases hq1
        have hcj : W1.cell? ⟨w.heap.size + 1, 0 + j, none⟩ = some (.string (strL (dbls[j]'hltD))) := (hcell j (by exact hlt)).trans (congrArg (fun x => some (Value.string x)) (dbl_at j hltD))
        rw [any_drop (l := dbls) hltD] at hI
        have hs2 : (strL (dbls[j]'hltD)).size = 2 := by
          rw [size_strL]
          have h6 : j = 0 ∨ j = 1 ∨ j = 2 ∨ j = 3 ∨ j = 4 ∨ j = 5 := by omega
          rcases h6 with rfl | rfl | rfl | rfl | rfl | rfl <;> rfl
        have hJ := fun W => hIs (strL (dbls[j]'hltD)) W (by omega)
        rw [strL_list] at hJ
        have HS2 := Lib.hid hs2
        clear hcell hs2
        cases hp : (dbls[j]'hltD).isPrefixOf (s.data.toList.drop k) with
        | true =>
          rw [hp] at hJ hI
          have hBt : B = true := by rw [← hI]; rfl
          have h2 : k + 2 ≤ s.size := by
            have := (List.isPrefixOf_iff_prefix.1 hp).length_le
            rw [List.length_drop, ← size_list, ← size_strL, HS2.out] at this
            omega
          have hRt : R = .tok 4 2 := by rw [← HR.out, hBt]; rfl
          have HRT := Lib.hid hRt
          clear hp hI hRt hBt HS2
          generalize strL (dbls[j]'hltD) = dj at *
          simp only [Nat.zero_add] at hcj
          go_wp2_with fail
          refine (hJ _).mono ?_
          rintro _ _ ⟨rfl, hw1⟩
          cases hw1
          go_wp2_with fail
          obtain ⟨hb, hbx⟩ := HHX.out
          have hT := token_any s k 2 4 W1 (by omega) h2
          refine (hT).mono ?_
          rintro _ w2 ⟨v, rfl, hown, hb2⟩
          obtain ⟨hc2, hown2, hbe, -⟩ := tell_box (a := 0) (e := 0) hb hbx hb2.size hown hb2
          obtain ⟨va, vc, hve⟩ := hown.len
          (try simp only [List.length_cons, List.length_nil, Nat.zero_add] at hve)
          subst hve
          have hl2 := hc2.lt
          have HX := Lib.hid (And.intro hown2 (And.intro hbe hc2))
          clear hown hb2 hown2 hbe hb hbx
          have hc2c0 := hc2.cell 0 _ rfl
          have hc2f0 := hc2.frozen 0
          have hc2c1 := hc2.cell 1 _ rfl
          have hc2f1 := hc2.frozen 1
          have hc2c2 := hc2.cell 2 _ rfl
          have hc2f2 := hc2.frozen 2
          go_wp2
          obtain ⟨hown2, hbe, hce⟩ := HX.out
          have hq := ((hce.setI 0 (.slice va 1 vc)).setI 1 (.int .i64 0)).setI 2 (.int .i64 0)
          have hx := hq.cell 0 _ rfl
          have hy := hq.cell 1 _ rfl
          have hz := hq.cell 2 _ rfl
          refine bodyPost_ret (v := .agg #[.slice va 1 vc, .int .i64 0, .int .i64 0]) (by simp [results, Tryz.results38, go_sem, hx, hy, hz]) rfl ?_
          rw [HRT.out]
          exact ⟨_, rfl, hown2, hbe⟩
        | false =>
          rw [hp, Bool.false_or] at hI
          rw [hp] at hJ
          have HI := Lib.hid hI
          clear hp hI HS2
          generalize strL (dbls[j]'hltD) = dj at *
          simp only [Nat.zero_add] at hcj
          go_wp2_with fail
          refine (hJ _).mono ?_
          rintro _ _ ⟨rfl, hw1⟩
          cases hw1
          go_wp2
          go_round
          case rel => exact ⟨j + 1, by go_num, by omega, HI.out⟩
          case measure => simp [intOf]; omega
      · obtain rfl : j = 6 := by omega
        have hBf : Hid (B = false) := Lib.hid hI.symm
        clear hI hrow
        go_wp2_with fail
        obtain ⟨hb, hbx⟩ := HHX.out
        have hrow := (OwnOf.lit (f := Value.string) (E := 9) (base := w.heap.size) (w := W1) [(⟨#[61]⟩ : ByteArray), (⟨#[60]⟩ : ByteArray), (⟨#[62]⟩ : ByteArray), (⟨#[43]⟩ : ByteArray), (⟨#[45]⟩ : ByteArray), (⟨#[42]⟩ : ByteArray), (⟨#[47]⟩ : ByteArray), (⟨#[37]⟩ : ByteArray), (⟨#[33]⟩ : ByteArray), (⟨#[63]⟩ : ByteArray), (⟨#[58]⟩ : ByteArray), (⟨#[44]⟩ : ByteArray), (⟨#[46]⟩ : ByteArray), (⟨#[40]⟩ : ByteArray), (⟨#[41]⟩ : ByteArray), (⟨#[91]⟩ : ByteArray), (⟨#[93]⟩ : ByteArray), (⟨#[123]⟩ : ByteArray), (⟨#[125]⟩ : ByteArray)] hb.size (by decide)).row
        have hb1 := hb.alloc hb.size (.cells #[.string ⟨#[61]⟩, .string ⟨#[60]⟩, .string ⟨#[62]⟩, .string ⟨#[43]⟩, .string ⟨#[45]⟩, .string ⟨#[42]⟩, .string ⟨#[47]⟩, .string ⟨#[37]⟩, .string ⟨#[33]⟩, .string ⟨#[63]⟩, .string ⟨#[58]⟩, .string ⟨#[44]⟩, .string ⟨#[46]⟩, .string ⟨#[40]⟩, .string ⟨#[41]⟩, .string ⟨#[91]⟩, .string ⟨#[93]⟩, .string ⟨#[123]⟩, .string ⟨#[125]⟩] 9)
        have hbx1 := hbx.alloc (.cells #[.string ⟨#[61]⟩, .string ⟨#[60]⟩, .string ⟨#[62]⟩, .string ⟨#[43]⟩, .string ⟨#[45]⟩, .string ⟨#[42]⟩, .string ⟨#[47]⟩, .string ⟨#[37]⟩, .string ⟨#[33]⟩, .string ⟨#[63]⟩, .string ⟨#[58]⟩, .string ⟨#[44]⟩, .string ⟨#[46]⟩, .string ⟨#[40]⟩, .string ⟨#[41]⟩, .string ⟨#[91]⟩, .string ⟨#[93]⟩, .string ⟨#[123]⟩, .string ⟨#[125]⟩] 9)
        change RowOf Value.string (W1.alloc (.cells #[.string ⟨#[61]⟩, .string ⟨#[60]⟩, .string ⟨#[62]⟩, .string ⟨#[43]⟩, .string ⟨#[45]⟩, .string ⟨#[42]⟩, .string ⟨#[47]⟩, .string ⟨#[37]⟩, .string ⟨#[33]⟩, .string ⟨#[63]⟩, .string ⟨#[58]⟩, .string ⟨#[44]⟩, .string ⟨#[46]⟩, .string ⟨#[40]⟩, .string ⟨#[41]⟩, .string ⟨#[91]⟩, .string ⟨#[93]⟩, .string ⟨#[123]⟩, .string ⟨#[125]⟩] 9)) (.slice (some ⟨W1.heap.size, 0, none⟩) 19 19) _ at hrow
        clear hb hbx HHX
        generalize hW2 : W1.alloc (.cells #[.string ⟨#[61]⟩, .string ⟨#[60]⟩, .string ⟨#[62]⟩, .string ⟨#[43]⟩, .string ⟨#[45]⟩, .string ⟨#[42]⟩, .string ⟨#[47]⟩, .string ⟨#[37]⟩, .string ⟨#[33]⟩, .string ⟨#[63]⟩, .string ⟨#[58]⟩, .string ⟨#[44]⟩, .string ⟨#[46]⟩, .string ⟨#[40]⟩, .string ⟨#[41]⟩, .string ⟨#[91]⟩, .string ⟨#[93]⟩, .string ⟨#[123]⟩, .string ⟨#[125]⟩] 9) = W2 at *
        generalize W1.heap.size = g2 at *
        clear hW2
        have hb := hb1
        have hbx := hbx1
        clear hb1 hbx1
        have HHX := Lib.hid (And.intro hb hbx)
        clear hb hbx
        go_loop [16, 181] (fun _ i => ∃ j : Nat, i = .int .i64 (j : Int) ∧ j ≤ 19 ∧ (sgls.drop j).contains (s[k]'hk) = C) (fun _ i => 19 - (intOf i).toNat)
        case atStart => exact ⟨0, rfl, by omega, HC.out⟩
        case round =>
          clear HC
          obtain ⟨j, rfl, hj, hI⟩ := hrel
          by_cases hlt : j < 19
          · have hltS : j < sgls.length := hlt
            obtain ⟨b1, o1, hq1, hbl, hcell⟩ := hrow.at (j := j) (by exact hlt)
            cases hq1
            have hcj : W2.cell? ⟨g2, 0 + j, none⟩ = some (.string ⟨#[sgls[j]'hltS]⟩) := (hcell j (by exact hlt)).trans (congrArg (fun x => some (Value.string x)) (sgl_at j hltS))
            rw [List.drop_eq_getElem_cons hltS, List.contains_cons] at hI
            have hJ := fun W => hIs ⟨#[sgls[j]'hltS]⟩ W (by simp [ByteArray.size])
            have hJ2 : (⟨#[sgls[j]'hltS]⟩ : ByteArray).data.toList.isPrefixOf (s.data.toList.drop k) = (s[k]'hk == sgls[j]'hltS) := by
              rw [HD.out]
              show (sgls[j]'hltS == s[k]'hk && ([] : Bs).isPrefixOf _) = _
              rw [List.isPrefixOf_nil_left, Bool.and_true, Bool.beq_comm]
            rw [hJ2] at hJ
            clear hJ2 hcell
            cases hp : (s[k]'hk == sgls[j]'hltS) with
            | true =>
              rw [hp] at hJ hI
              have hCt : C = true := by rw [← hI]; rfl
              have hRt : R = .tok 4 1 := by rw [← HR.out, hBf.out, hCt]; rfl
              have HRT := Lib.hid hRt
              have hkp : k + 1 ≤ s.size := hk
              clear hp hI hRt hCt
              generalize (⟨#[sgls[j]'hltS]⟩ : ByteArray) = dj at *
              simp only [Nat.zero_add] at hcj
              go_wp2_with fail
              refine (hJ _).mono ?_
              rintro _ _ ⟨rfl, hw1⟩
              cases hw1
              go_wp2_with fail
              obtain ⟨hb, hbx⟩ := HHX.out
              have hT := token_any s k 1 4 W2 (by omega) (by omega)
              refine (hT).mono ?_
              rintro _ w2 ⟨v, rfl, hown, hb2⟩
              obtain ⟨hc2, hown2, hbe, -⟩ := tell_box (a := 0) (e := 0) hb hbx hb2.size hown hb2
              obtain ⟨va, vc, hve⟩ := hown.len
              (try simp only [List.length_cons, List.length_nil, Nat.zero_add] at hve)
              subst hve
              have hl2 := hc2.lt
              have HX := Lib.hid (And.intro hown2 (And.intro hbe hc2))
              clear hown hb2 hown2 hbe hb hbx
              have hc2c0 := hc2.cell 0 _ rfl
              have hc2f0 := hc2.frozen 0
              have hc2c1 := hc2.cell 1 _ rfl
              have hc2f1 := hc2.frozen 1
              have hc2c2 := hc2.cell 2 _ rfl
              have hc2f2 := hc2.frozen 2
              go_wp2
              obtain ⟨hown2, hbe, hce⟩ := HX.out
              have hq := ((hce.setI 0 (.slice va 1 vc)).setI 1 (.int .i64 0)).setI 2 (.int .i64 0)
              have hx := hq.cell 0 _ rfl
              have hy := hq.cell 1 _ rfl
              have hz := hq.cell 2 _ rfl
              refine bodyPost_ret (v := .agg #[.slice va 1 vc, .int .i64 0, .int .i64 0]) (by simp [results, Tryz.results38, go_sem, hx, hy, hz]) rfl ?_
              rw [HRT.out]
              exact ⟨_, rfl, hown2, hbe⟩
            | false =>
              rw [hp, Bool.false_or] at hI
              rw [hp] at hJ
              have HI := Lib.hid hI
              clear hp hI
              generalize (⟨#[sgls[j]'hltS]⟩ : ByteArray) = dj at *
              simp only [Nat.zero_add] at hcj
              go_wp2_with fail
              refine (hJ _).mono ?_
              rintro _ _ ⟨rfl, hw1⟩
              cases hw1
              go_wp2
              go_round
              case rel => exact ⟨j + 1, by go_num, by omega, HI.out⟩
              case measure => simp [intOf]; omega
          · obtain rfl : j = 19 := by omega
            have hRt : R = .bad 0 3 := by rw [← HR.out, hBf.out, ← hI]; rfl
            have HRT := Lib.hid hRt
            clear hI hrow hRt
            obtain ⟨hb, hbx⟩ := HHX.out
            have HB := Lib.hid hb
            have HC := Lib.hid hbx
            have hlx := hbx.lt
            clear hb HHX
            have hbxc0 := hbx.cell 0 _ rfl
            have hbxf0 := hbx.frozen 0
            have hbxc1 := hbx.cell 1 _ rfl
            have hbxf1 := hbx.frozen 1
            have hbxc2 := hbx.cell 2 _ rfl
            have hbxf2 := hbx.frozen 2
            clear hbx
            go_wp2
            rw [HRT.out]
            have hq := (((HC.out).setI 0 (.slice none 0 0)).setI 1 (.int .i64 (k : Nat))).setI 2 (.int .i64 3)
            have hx := hq.cell 0 _ rfl
            have hy := hq.cell 1 _ rfl
            have hz := hq.cell 2 _ rfl
            refine bodyPost_ret (v := .agg #[.slice none 0 0, .int .i64 (k : Nat), .int .i64 3]) (by simp [results, Tryz.results38, go_sem, hx, hy, hz]) rfl ?_
            exact ⟨_, by simp [lrT], OwnT.nil, setAll_below _ _ (Nat.le_refl _) [.slice none 0 0, .int .i64 (k : Nat), .int .i64 3] 0 _ _ HB.out⟩
  · skip
    go_enter Tryz.func38, Tryz.ntmps38
    go_wp2_with fail
    refine (hLe _).mono ?_
    rintro _ _ ⟨rfl, hw1⟩
    cases hw1
    go_wp2_with fail
    refine (hI1 _).mono ?_
    rintro _ _ ⟨rfl, hw1⟩
    cases hw1
    go_wp2_with fail
    refine (hI2 _).mono ?_
    rintro _ _ ⟨rfl, hw1⟩
    cases hw1
    clear hLe hI1 hI2
    go_wp2_with fail
    obtain ⟨hb, hbx⟩ := HH.out
    clear HH
    have hrow := (OwnOf.lit (f := Value.string) (E := 9) (base := w.heap.size) (w := w.alloc (.cells #[.slice none 0 0, .int .i64 0, .int .i64 0] 26)) (dbls.map strL) (by simp) (by decide)).row
    have hb1 := hb.alloc hb.size (.cells #[.string ⟨#[61, 61]⟩, .string ⟨#[33, 61]⟩, .string ⟨#[60, 61]⟩, .string ⟨#[62, 61]⟩, .string ⟨#[38, 38]⟩, .string ⟨#[124, 124]⟩] 9)
    have hbx1 := hbx.alloc (.cells #[.string ⟨#[61, 61]⟩, .string ⟨#[33, 61]⟩, .string ⟨#[60, 61]⟩, .string ⟨#[62, 61]⟩, .string ⟨#[38, 38]⟩, .string ⟨#[124, 124]⟩] 9)
    rw [World.size_alloc] at hrow
    change RowOf Value.string ((w.alloc (.cells #[.slice none 0 0, .int .i64 0, .int .i64 0] 26)).alloc (.cells #[.string ⟨#[61, 61]⟩, .string ⟨#[33, 61]⟩, .string ⟨#[60, 61]⟩, .string ⟨#[62, 61]⟩, .string ⟨#[38, 38]⟩, .string ⟨#[124, 124]⟩] 9)) (.slice (some ⟨w.heap.size + 1, 0, none⟩) 6 6) _ at hrow
    clear hb hbx
    generalize (w.alloc (.cells #[.slice none 0 0, .int .i64 0, .int .i64 0] 26)).alloc (.cells #[.string ⟨#[61, 61]⟩, .string ⟨#[33, 61]⟩, .string ⟨#[60, 61]⟩, .string ⟨#[62, 61]⟩, .string ⟨#[38, 38]⟩, .string ⟨#[124, 124]⟩] 9) = W1 at *
    have hb := hb1
    have hbx := hbx1
    clear hb1 hbx1
    have HHX := Lib.hid (And.intro hb hbx)
    clear hb hbx
    go_loop [14, 167] (fun _ i => ∃ j : Nat, i = .int .i64 (j : Int) ∧ j ≤ 6 ∧ (dbls.drop j).any (fun d => d.isPrefixOf (s.data.toList.drop k)) = B) (fun _ i => 6 - (intOf i).toNat)
    case atStart => exact ⟨0, rfl, by omega, HB.out⟩
    case round =>
      clear HB
      obtain ⟨j, rfl, hj, hI⟩ := hrel
      by_cases hlt : j < 6
      · have hltD : j < dbls.length := hlt
        obtain ⟨b1, o1, hq1, hbl, hcell⟩ := hrow.at (j := j) (by exact hlt)
        cases hq1
        have hcj : W1.cell? ⟨w.heap.size + 1, 0 + j, none⟩ = some (.string (strL (dbls[j]'hltD))) := (hcell j (by exact hlt)).trans (congrArg (fun x => some (Value.string x)) (dbl_at j hltD))
        rw [any_drop (l := dbls) hltD] at hI
        have hs2 : (strL (dbls[j]'hltD)).size = 2 := by
          rw [size_strL]
          have h6 : j = 0 ∨ j = 1 ∨ j = 2 ∨ j = 3 ∨ j = 4 ∨ j = 5 := by omega
          rcases h6 with rfl | rfl | rfl | rfl | rfl | rfl <;> rfl
        have hJ := fun W => hIs (strL (dbls[j]'hltD)) W (by omega)
        rw [strL_list] at hJ
        have HS2 := Lib.hid hs2
        clear hcell hs2
        cases hp : (dbls[j]'hltD).isPrefixOf (s.data.toList.drop k) with
        | true =>
          rw [hp] at hJ hI
          have hBt : B = true := by rw [← hI]; rfl
          have h2 : k + 2 ≤ s.size := by
            have := (List.isPrefixOf_iff_prefix.1 hp).length_le
            rw [List.length_drop, ← size_list, ← size_strL, HS2.out] at this
            omega
          have hRt : R = .tok 4 2 := by rw [← HR.out, hBt]; rfl
          have HRT := Lib.hid hRt
          clear hp hI hRt hBt HS2
          generalize strL (dbls[j]'hltD) = dj at *
          simp only [Nat.zero_add] at hcj
          go_wp2_with fail
          refine (hJ _).mono ?_
          rintro _ _ ⟨rfl, hw1⟩
          cases hw1
          go_wp2_with fail
          obtain ⟨hb, hbx⟩ := HHX.out
          have hT := token_any s k 2 4 W1 (by omega) h2
          refine (hT).mono ?_
          rintro _ w2 ⟨v, rfl, hown, hb2⟩
          obtain ⟨hc2, hown2, hbe, -⟩ := tell_box (a := 0) (e := 0) hb hbx hb2.size hown hb2
          obtain ⟨va, vc, hve⟩ := hown.len
          (try simp only [List.length_cons, List.length_nil, Nat.zero_add] at hve)
          subst hve
          have hl2 := hc2.lt
          have HX := Lib.hid (And.intro hown2 (And.intro hbe hc2))
          clear hown hb2 hown2 hbe hb hbx
          have hc2c0 := hc2.cell 0 _ rfl
          have hc2f0 := hc2.frozen 0
          have hc2c1 := hc2.cell 1 _ rfl
          have hc2f1 := hc2.frozen 1
          have hc2c2 := hc2.cell 2 _ rfl
          have hc2f2 := hc2.frozen 2
          go_wp2
          obtain ⟨hown2, hbe, hce⟩ := HX.out
          have hq := ((hce.setI 0 (.slice va 1 vc)).setI 1 (.int .i64 0)).setI 2 (.int .i64 0)
          have hx := hq.cell 0 _ rfl
          have hy := hq.cell 1 _ rfl
          have hz := hq.cell 2 _ rfl
          refine bodyPost_ret (v := .agg #[.slice va 1 vc, .int .i64 0, .int .i64 0]) (by simp [results, Tryz.results38, go_sem, hx, hy, hz]) rfl ?_
          rw [HRT.out]
          exact ⟨_, rfl, hown2, hbe⟩
        | false =>
          rw [hp, Bool.false_or] at hI
          rw [hp] at hJ
          have HI := Lib.hid hI
          clear hp hI HS2
          generalize strL (dbls[j]'hltD) = dj at *
          simp only [Nat.zero_add] at hcj
          go_wp2_with fail
          refine (hJ _).mono ?_
          rintro _ _ ⟨rfl, hw1⟩
          cases hw1
          go_wp2
          go_round
          case rel => exact ⟨j + 1, by go_num, by omega, HI.out⟩
          case measure => simp [intOf]; omega
      · obtain rfl : j = 6 := by omega
        have hBf : Hid (B = false) := Lib.hid hI.symm
        clear hI hrow
        go_wp2_with fail
        obtain ⟨hb, hbx⟩ := HHX.out
        have hrow := (OwnOf.lit (f := Value.string) (E := 9) (base := w.heap.size) (w := W1) [(⟨#[61]⟩ : ByteArray), (⟨#[60]⟩ : ByteArray), (⟨#[62]⟩ : ByteArray), (⟨#[43]⟩ : ByteArray), (⟨#[45]⟩ : ByteArray), (⟨#[42]⟩ : ByteArray), (⟨#[47]⟩ : ByteArray), (⟨#[37]⟩ : ByteArray), (⟨#[33]⟩ : ByteArray), (⟨#[63]⟩ : ByteArray), (⟨#[58]⟩ : ByteArray), (⟨#[44]⟩ : ByteArray), (⟨#[46]⟩ : ByteArray), (⟨#[40]⟩ : ByteArray), (⟨#[41]⟩ : ByteArray), (⟨#[91]⟩ : ByteArray), (⟨#[93]⟩ : ByteArray), (⟨#[123]⟩ : ByteArray), (⟨#[125]⟩ : ByteArray)] hb.size (by decide)).row
        have hb1 := hb.alloc hb.size (.cells #[.string ⟨#[61]⟩, .string ⟨#[60]⟩, .string ⟨#[62]⟩, .string ⟨#[43]⟩, .string ⟨#[45]⟩, .string ⟨#[42]⟩, .string ⟨#[47]⟩, .string ⟨#[37]⟩, .string ⟨#[33]⟩, .string ⟨#[63]⟩, .string ⟨#[58]⟩, .string ⟨#[44]⟩, .string ⟨#[46]⟩, .string ⟨#[40]⟩, .string ⟨#[41]⟩, .string ⟨#[91]⟩, .string ⟨#[93]⟩, .string ⟨#[123]⟩, .string ⟨#[125]⟩] 9)
        have hbx1 := hbx.alloc (.cells #[.string ⟨#[61]⟩, .string ⟨#[60]⟩, .string ⟨#[62]⟩, .string ⟨#[43]⟩, .string ⟨#[45]⟩, .string ⟨#[42]⟩, .string ⟨#[47]⟩, .string ⟨#[37]⟩, .string ⟨#[33]⟩, .string ⟨#[63]⟩, .string ⟨#[58]⟩, .string ⟨#[44]⟩, .string ⟨#[46]⟩, .string ⟨#[40]⟩, .string ⟨#[41]⟩, .string ⟨#[91]⟩, .string ⟨#[93]⟩, .string ⟨#[123]⟩, .string ⟨#[125]⟩] 9)
        change RowOf Value.string (W1.alloc (.cells #[.string ⟨#[61]⟩, .string ⟨#[60]⟩, .string ⟨#[62]⟩, .string ⟨#[43]⟩, .string ⟨#[45]⟩, .string ⟨#[42]⟩, .string ⟨#[47]⟩, .string ⟨#[37]⟩, .string ⟨#[33]⟩, .string ⟨#[63]⟩, .string ⟨#[58]⟩, .string ⟨#[44]⟩, .string ⟨#[46]⟩, .string ⟨#[40]⟩, .string ⟨#[41]⟩, .string ⟨#[91]⟩, .string ⟨#[93]⟩, .string ⟨#[123]⟩, .string ⟨#[125]⟩] 9)) (.slice (some ⟨W1.heap.size, 0, none⟩) 19 19) _ at hrow
        clear hb hbx HHX
        generalize hW2 : W1.alloc (.cells #[.string ⟨#[61]⟩, .string ⟨#[60]⟩, .string ⟨#[62]⟩, .string ⟨#[43]⟩, .string ⟨#[45]⟩, .string ⟨#[42]⟩, .string ⟨#[47]⟩, .string ⟨#[37]⟩, .string ⟨#[33]⟩, .string ⟨#[63]⟩, .string ⟨#[58]⟩, .string ⟨#[44]⟩, .string ⟨#[46]⟩, .string ⟨#[40]⟩, .string ⟨#[41]⟩, .string ⟨#[91]⟩, .string ⟨#[93]⟩, .string ⟨#[123]⟩, .string ⟨#[125]⟩] 9) = W2 at *
        generalize W1.heap.size = g2 at *
        clear hW2
        have hb := hb1
        have hbx := hbx1
        clear hb1 hbx1
        have HHX := Lib.hid (And.intro hb hbx)
        clear hb hbx
        go_loop [16, 181] (fun _ i => ∃ j : Nat, i = .int .i64 (j : Int) ∧ j ≤ 19 ∧ (sgls.drop j).contains (s[k]'hk) = C) (fun _ i => 19 - (intOf i).toNat)
        case atStart => exact ⟨0, rfl, by omega, HC.out⟩
        case round =>
          clear HC
          obtain ⟨j, rfl, hj, hI⟩ := hrel
          by_cases hlt : j < 19
          · have hltS : j < sgls.length := hlt
            obtain ⟨b1, o1, hq1, hbl, hcell⟩ := hrow.at (j := j) (by exact hlt)
            cases hq1
            have hcj : W2.cell? ⟨g2, 0 + j, none⟩ = some (.string ⟨#[sgls[j]'hltS]⟩) := (hcell j (by exact hlt)).trans (congrArg (fun x => some (Value.string x)) (sgl_at j hltS))
            rw [List.drop_eq_getElem_cons hltS, List.contains_cons] at hI
            have hJ := fun W => hIs ⟨#[sgls[j]'hltS]⟩ W (by simp [ByteArray.size])
            have hJ2 : (⟨#[sgls[j]'hltS]⟩ : ByteArray).data.toList.isPrefixOf (s.data.toList.drop k) = (s[k]'hk == sgls[j]'hltS) := by
              rw [HD.out]
              show (sgls[j]'hltS == s[k]'hk && ([] : Bs).isPrefixOf _) = _
              rw [List.isPrefixOf_nil_left, Bool.and_true, Bool.beq_comm]
            rw [hJ2] at hJ
            clear hJ2 hcell
            cases hp : (s[k]'hk == sgls[j]'hltS) with
            | true =>
              rw [hp] at hJ hI
              have hCt : C = true := by rw [← hI]; rfl
              have hRt : R = .tok 4 1 := by rw [← HR.out, hBf.out, hCt]; rfl
              have HRT := Lib.hid hRt
              have hkp : k + 1 ≤ s.size := hk
              clear hp hI hRt hCt
              generalize (⟨#[sgls[j]'hltS]⟩ : ByteArray) = dj at *
              simp only [Nat.zero_add] at hcj
              go_wp2_with fail
              refine (hJ _).mono ?_
              rintro _ _ ⟨rfl, hw1⟩
              cases hw1
              go_wp2_with fail
              obtain ⟨hb, hbx⟩ := HHX.out
              have hT := token_any s k 1 4 W2 (by omega) (by omega)
              refine (hT).mono ?_
              rintro _ w2 ⟨v, rfl, hown, hb2⟩
              obtain ⟨hc2, hown2, hbe, -⟩ := tell_box (a := 0) (e := 0) hb hbx hb2.size hown hb2
              obtain ⟨va, vc, hve⟩ := hown.len
              (try simp only [List.length_cons, List.length_nil, Nat.zero_add] at hve)
              subst hve
              have hl2 := hc2.lt
              have HX := Lib.hid (And.intro hown2 (And.intro hbe hc2))
              clear hown hb2 hown2 hbe hb hbx
              have hc2c0 := hc2.cell 0 _ rfl
              have hc2f0 := hc2.frozen 0
              have hc2c1 := hc2.cell 1 _ rfl
              have hc2f1 := hc2.frozen 1
              have hc2c2 := hc2.cell 2 _ rfl
              have hc2f2 := hc2.frozen 2
              go_wp2
              obtain ⟨hown2, hbe, hce⟩ := HX.out
              have hq := ((hce.setI 0 (.slice va 1 vc)).setI 1 (.int .i64 0)).setI 2 (.int .i64 0)
              have hx := hq.cell 0 _ rfl
              have hy := hq.cell 1 _ rfl
              have hz := hq.cell 2 _ rfl
              refine bodyPost_ret (v := .agg #[.slice va 1 vc, .int .i64 0, .int .i64 0]) (by simp [results, Tryz.results38, go_sem, hx, hy, hz]) rfl ?_
              rw [HRT.out]
              exact ⟨_, rfl, hown2, hbe⟩
            | false =>
              rw [hp, Bool.false_or] at hI
              rw [hp] at hJ
              have HI := Lib.hid hI
              clear hp hI
              generalize (⟨#[sgls[j]'hltS]⟩ : ByteArray) = dj at *
              simp only [Nat.zero_add] at hcj
              go_wp2_with fail
              refine (hJ _).mono ?_
              rintro _ _ ⟨rfl, hw1⟩
              cases hw1
              go_wp2
              go_round
              case rel => exact ⟨j + 1, by go_num, by omega, HI.out⟩
              case measure => simp [intOf]; omega
          · obtain rfl : j = 19 := by omega
            have hRt : R = .bad 0 3 := by rw [← HR.out, hBf.out, ← hI]; rfl
            have HRT := Lib.hid hRt
            clear hI hrow hRt
            obtain ⟨hb, hbx⟩ := HHX.out
            have HB := Lib.hid hb
            have HC := Lib.hid hbx
            have hlx := hbx.lt
            clear hb HHX
            have hbxc0 := hbx.cell 0 _ rfl
            have hbxf0 := hbx.frozen 0
            have hbxc1 := hbx.cell 1 _ rfl
            have hbxf1 := hbx.frozen 1
            have hbxc2 := hbx.cell 2 _ rfl
            have hbxf2 := hbx.frozen 2
            clear hbx
            go_wp2
            rw [HRT.out]
            have hq := (((HC.out).setI 0 (.slice none 0 0)).setI 1 (.int .i64 (k : Nat))).setI 2 (.int .i64 3)
            have hx := hq.cell 0 _ rfl
            have hy := hq.cell 1 _ rfl
            have hz := hq.cell 2 _ rfl
            refine bodyPost_ret (v := .agg #[.slice none 0 0, .int .i64 (k : Nat), .int .i64 3]) (by simp [results, Tryz.results38, go_sem, hx, hy, hz]) rfl ?_
            exact ⟨_, by simp [lrT], OwnT.nil, setAll_below _ _ (Nat.le_refl _) [.slice none 0 0, .int .i64 (k : Nat), .int .i64 3] 0 _ _ HB.out⟩
end Go.Proofs.YtjlikcfabekhlaaGreatDoor

/- The walk of the lexer's Parse (layer 11). -/
namespace Go.Proofs.YtjlikcfabekhlaaGreatDoor
open Go.RowKit Go.Tab

theorem one1_err {l : Bs} {o : Nat} {e : Int} (h : one1 l = .bad o e) : e ≠ 0 := by
  have hT : ∀ (q : Bs) k, remT q k = .bad o e → e ≠ 0 := by
    intro q k hq
    cases hw : wth q with
    | none => rw [remT_none hw] at hq; cases hq
    | some x =>
      rw [remT_some hw] at hq
      cases hq
      simpa using wth_err hw
  cases l with
  | nil => cases h; decide
  | cons c r =>
    rw [one1] at h
    split at h
    · cases h
    split at h
    · unfold num1 at h
      split at h
      · cases h
      · next hn => cases h; exact hn
    split at h
    · unfold quo1 at h
      split at h
      · cases h
      · next hn => cases h; omega
    split at h
    · cases h
    split at h
    · exact hT _ _ h
    split at h
    · unfold aside1 at h
      split at h
      · cases h; decide
      · split at h
        · cases h; decide
        · exact hT _ _ h
    split at h
    · cases h; decide
    · cases h

theorem scan_pos : ∀ (m : Nat) (l : List Nat) (a : Nat), l.length ≤ m → (∀ x ∈ l, x < 256) → ∀ x ∈ (scan l a).1, x.1 < a + l.length
  | m, l, a, hm, hl, x, hx => by
    by_cases h0 : l = []
    · subst h0; simp [scan_nil] at hx
    have hp := List.length_pos_iff.2 h0
    by_cases hn : (oneN l).2 = 0
    · rw [scan_bad h0 hn] at hx; simp at hx
    · have hle := (oneN_le l hl).1
      cases m with
      | zero => omega
      | succ m =>
        rw [scan_step h0, if_neg hn] at hx
        rcases List.mem_cons.1 hx with rfl | hx
        · simp only; omega
        · have := scan_pos m (l.drop (oneN l).2) (a + (oneN l).2) (by simp; omega) (fun x hx => hl x (List.mem_of_mem_drop hx)) x hx
          simp at this; omega
theorem wth_pos {l : Bs} {x : Nat × Int} (h : wth l = some x) : x.1 < l.length := by
  unfold wth at h
  split at h
  · next y hy =>
    cases h
    have := scan_pos _ (nb l) 0 (Nat.le_refl _) (nb_byt l) y (List.mem_of_find?_eq_some hy)
    rw [nb_len] at this; simpa using this
  · split at h
    · next a ha =>
      cases h
      have := scan_lt _ (nb l) 0 a (Nat.le_refl _) (nb_byt l) ha
      rw [nb_len] at this; simpa using this
    · cases h
theorem one1_off {l : Bs} {o : Nat} {e : Int} (h : one1 l = .bad o e) : o ≤ l.length := by
  have hT : ∀ (q : Bs) k, q.length ≤ l.length → remT q k = .bad o e → o ≤ l.length := by
    intro q k hl hq
    cases hw : wth q with
    | none => rw [remT_none hw] at hq; cases hq
    | some x =>
      rw [remT_some hw] at hq
      cases hq
      have := wth_pos hw
      omega
  cases l with
  | nil => cases h; exact Nat.zero_le _
  | cons c r =>
    rw [one1] at h
    split at h
    · cases h
    split at h
    · unfold num1 at h
      split at h
      · cases h
      · cases h; exact Nat.zero_le _
    split at h
    · unfold quo1 at h
      split at h
      · cases h
      · cases h; exact Nat.zero_le _
    split at h
    · cases h
    split at h
    · exact hT _ _ (remS_len _) h
    split at h
    · unfold aside1 at h
      split at h
      · cases h; exact Nat.zero_le _
      · split at h
        · cases h; exact Nat.zero_le _
        · exact hT _ _ (by rw [List.length_take]; omega) h
    split at h
    · cases h; exact Nat.zero_le _
    · cases h
set_option maxHeartbeats 2000000 in
set_option maxRecDepth 100000 in
/-- The closure that keeps each token: one more lies in the row. -/
theorem keep_any (t : Tok) (g : Nat) (v : Value) (l : List Tok) (W : World) (hc : Cells W g #[v] 23) (hown : OwnT (g + 1) W v l) (hl : l.length ≤ 1000000) :
    Calls Tryz.prog 61 #[tokV t, .pointer (some ⟨g, 0, none⟩)] W fun e w' => e = .returned (.bool true) ∧ ∃ v', Cells w' g #[v'] 23 ∧ OwnT (g + 1) w' v' (l ++ [t]) ∧ Below g W w' := by
  obtain ⟨va, vc, rfl⟩ := hown.len
  have hlt := hc.lt
  have hcc0 := hc.cell 0 _ rfl
  have hcf0 := hc.frozen 0
  go_enter Tryz.func61, Tryz.ntmps61
  go_wp2_with (with_reducible first | refine stop_append ?_)
  refine Stop.out ?_
  refine wpList_append_tok rfl _ _ rfl (g + 1) l t (by exact (hown.alloc _).alloc _) (W.heap.size + 1) rfl (by simp [World.cell?_alloc_new]) (by simp) (by simp) hl (by simp; omega) W (by (repeat' (first | (with_reducible refine Below.setCell ?_ ?_ _) | (with_reducible refine Below.alloc ?_ ?_ _) | (with_reducible refine Below.drew ?_) | (with_reducible refine below_drewN ?_ _) | (with_reducible assumption) | (with_reducible exact Below.refl _ _) | (simp only [World.size_alloc, World.size_setCell, World.size_drew]; done) | (simp only [World.size_alloc, World.size_setCell, World.size_drew]; omega) | omega))) ?_
  intro v' w' hown' hb' hg'
  obtain ⟨a2, c2, rfl⟩ := hown'.len
  have hq := hc.below hb' (Nat.lt_succ_self g)
  have hlt' := hq.lt
  clear hcc0 hcf0 hg'
  have hqc0 := hq.cell 0 _ rfl
  have hqf0 := hq.frozen 0
  have HX := Lib.hid (And.intro hown' (And.intro hb' hq))
  clear hown' hb' hown hc
  go_wp2
  go_ret
  obtain ⟨hown', hb', hq⟩ := HX.out
  exact ⟨rfl, .slice a2 (l ++ [t]).length c2, by simpa using hq.setI 0 _, hown'.moved (fun k hk => Below.heap_setCell w' ⟨g, 0, none⟩ _ _ (by show k ≠ g; have := (World.ownsRow.lt hown' k hk).1; omega)), (hb'.mono (Nat.le_succ g)).setCell (Nat.le_refl _) _⟩

theorem lexL_parts (l : Bs) (p : Nat) : lexL l p = ((lexL l p).1, (lexL l p).2.1, (lexL l p).2.2) := rfl
/-- What has been told, and what is told from a place on, is all. -/
def LexRest (l : Bs) (k : Nat) (pre : List Tok) : Prop := lexL l 0 = (pre ++ (lexL (l.drop k) k).1, (lexL (l.drop k) k).2)
theorem LexRest.zero (l : Bs) : LexRest l 0 [] := by unfold LexRest; simp
theorem drop_hd {l : Bs} {k : Nat} (h : k < l.length) : l.drop k = l[k] :: l.drop (k + 1) := List.drop_eq_getElem_cons h
theorem LexRest.blank {l : Bs} {k : Nat} {pre : List Tok} (h : LexRest l k pre) (hk : k < l.length) (hb : blankB l[k] = true) : LexRest l (k + 1) pre := by
  unfold LexRest at h ⊢
  rw [h, drop_hd hk, lexL_blank hb]
theorem LexRest.bad {l : Bs} {k : Nat} {pre : List Tok} (h : LexRest l k pre) (hk : k < l.length) (hb : blankB l[k] = false) {o : Nat} {e : Int} (ho : one1 (l.drop k) = .bad o e) : lexL l 0 = (pre, ((k + o : Nat) : Int), e) := by
  unfold LexRest at h
  rw [drop_hd hk] at ho h
  rw [h, lexL_bad hb ho]; simp
theorem LexRest.tok {l : Bs} {k : Nat} {pre : List Tok} (h : LexRest l k pre) (hk : k < l.length) (hb : blankB l[k] = false) {kd sz : Nat} (ho : one1 (l.drop k) = .tok kd sz) :
    LexRest l (k + sz) (pre ++ [⟨(kd : Nat), strL ((l.drop k).take sz), (k : Nat)⟩]) := by
  unfold LexRest at h ⊢
  have ho2 := ho
  rw [drop_hd hk] at ho2
  rw [h, drop_hd hk, lexL_tok hb ho2, ← drop_hd hk, List.drop_drop]
  simp
theorem LexRest.done {l : Bs} {k : Nat} {pre : List Tok} (h : LexRest l k pre) (hk : k = l.length) : lexL l 0 = (pre, -1, 0) := by
  unfold LexRest at h
  rw [h, hk, List.drop_length, lexL_nil]; simp
theorem LexRest.len {l : Bs} {k : Nat} {pre : List Tok} (h : LexRest l k pre) : pre.length ≤ l.length := by
  have h1 := lexL_len l.length l 0 (Nat.le_refl _)
  unfold LexRest at h
  rw [h] at h1
  simp at h1; omega

/-- What walk hands back. -/
def walkV (x : List Tok × Int × Int) : Value := if x.2.2 = 0 then .tuple #[.int .i64 0, .int .i64 0] else .tuple #[.int .i64 x.2.1, .int .i64 x.2.2]
set_option maxHeartbeats 4000000 in
set_option maxRecDepth 100000 in
theorem walkP_any (s : ByteArray) (w0 w : World) (hb0 : Below w0.heap.size w0 w) (hT0 : LexT w0) (hs : s.size ≤ 100000) (hc0 : Cells w w0.heap.size #[.slice none 0 0] 23) :
    Calls Tryz.prog 60 #[.string s, .func (.func 61) #[] #[.pointer (some ⟨w0.heap.size, 0, none⟩)]] w fun e w' => e = .returned (walkV (lexL s.data.toList 0)) ∧
      ∃ v, Cells w' w0.heap.size #[v] 23 ∧ OwnT (w0.heap.size + 1) w' v (lexL s.data.toList 0).1 ∧ Below w0.heap.size w0 w' := by
  have HC0 := Lib.hid (And.intro hc0 hb0)
  clear hc0 hb0
  go_enter Tryz.func60, Tryz.ntmps60
  go_wp2_with fail
  go_step3
  go_wp2_with fail
  go_step3
  go_wp2_with fail
  go_loopw [4, 5, 6, 7, 8, 9, 10] (fun a e p _ _ _ _ wr => ∃ (k : Nat) (pre : List Tok) (v : Value), a = .int .i64 0 ∧ e = .int .i64 0 ∧ p = .int .i64 (k : Int) ∧ k ≤ s.size ∧ LexRest s.data.toList k pre ∧ Cells wr w0.heap.size #[v] 23 ∧ OwnT (w0.heap.size + 1) wr v pre ∧ Below w0.heap.size w0 wr) (fun _ _ p _ _ _ _ _ => s.size - (intOf p).toNat)
  case atStart => exact ⟨0, [], _, rfl, rfl, rfl, Nat.zero_le _, LexRest.zero _, HC0.out.1, OwnT.nil, HC0.out.2⟩
  case round =>
    clear HC0
    obtain ⟨k, pre, v, rfl, rfl, rfl, hk, hR, hc, hown, hb⟩ := hrel
    by_cases hlt : k < s.size
    · have hB := has_any ⟨#[32, 9, 13]⟩ (s[k]'hlt)
      rw [show (⟨#[32, 9, 13]⟩ : ByteArray).data.toList.contains (s[k]'hlt) = blankB (s[k]'hlt) from rfl] at hB
      have hkl : k < s.data.toList.length := by rw [← size_list]; exact hlt
      have hRl := hR.len
      rw [← size_list] at hRl
      have HR := Lib.hid hR
      clear hR
      cases hb1 : blankB (s[k]'hlt) with
      | true =>
        rw [hb1] at hB
        have HR2 := Lib.hid (HR.out.blank hkl hb1)
        clear HR hb1
        go_wp2_with fail
        refine (hB _).mono ?_
        rintro _ _ ⟨⟨i, rfl, hi⟩, rfl⟩
        go_wp2
        go_roundw
        case rel => exact ⟨k + 1, pre, v, rfl, rfl, by go_num, by omega, HR2.out, hc, hown, hb⟩
        case measure => simp [intOf]; omega
      | false =>
        rw [hb1] at hB
        have hN := fun W h => next_any (s.extract k s.size) W h (by rw [ByteArray.size_extract]; omega) (by rw [ByteArray.size_extract]; omega)
        rw [ext_drop] at hN
        have hHB := Lib.hid hb1
        cases ho : one1 (s.data.toList.drop k) with
        | bad o e =>
          have HD := Lib.hid (HR.out.bad hkl hb1 ho)
          have hne : (e != 0) = true := by simpa using one1_err ho
          have hne2 := Lib.hid (one1_err ho)
          have hof := one1_off ho
          rw [List.length_drop, ← size_list] at hof
          rw [ho] at hN
          simp only [lrV] at hN
          clear HR hb1 ho
          go_wp2_with fail
          refine (hB _).mono ?_
          rintro _ _ ⟨⟨i, rfl, hi⟩, rfl⟩
          go_wp2_with fail
          refine (hN _ (hT0.below hb)).mono ?_
          rintro _ w2 ⟨rfl, hb2⟩
          have hb3 := hb.trans (hb2.mono hb.size)
          have hc2 := hc.below hb2 hc.lt
          have hown2 := hown.below hb2 (Nat.le_refl _)
          go_wp2
          rw [Exit.noGoto_ret]
          refine bodyPost_ret (v := .tuple #[.int .i64 ((k : Int) + o), .int .i64 e]) (by simp [results, Tryz.results60, go_sem]) rfl ?_
          rw [HD.out]
          unfold walkV
          simp only
          rw [if_neg hne2.out]
          exact ⟨by simp, v, hc2, hown2, hb3⟩
        | tok kd sz =>
          have HD := Lib.hid (HR.out.tok hkl hb1 ho)
          have hEx : strL ((s.data.toList.drop k).take sz) = s.extract k (k + sz) := str_ext (by rw [ext_list, strL_list, List.drop_take]; congr 1; omega)
          have hsz := one1_size ho
          rw [List.length_drop, ← size_list] at hsz
          rw [ho] at hN
          simp only [lrV] at hN
          clear HR hb1 ho
          go_wp2_with fail
          refine (hB _).mono ?_
          rintro _ _ ⟨⟨i, rfl, hi⟩, rfl⟩
          go_wp2_with fail
          refine (hN _ (hT0.below hb)).mono ?_
          rintro _ w2 ⟨rfl, hb2⟩
          have hb3 := hb.trans (hb2.mono hb.size)
          have hc2 := hc.below hb2 hc.lt
          have hown2 := hown.below hb2 (Nat.le_refl _)
          go_wp2_with fail
          rw [hEx] at HD
          refine (keep_any ⟨(kd : Nat), s.extract k (k + sz), (k : Nat)⟩ w0.heap.size v pre w2 hc2 hown2 (by omega)).mono ?_
          rintro _ w3 ⟨rfl, v3, hc3, hown3, hb4⟩
          have hb5 := hb3.trans hb4
          go_wp2
          go_roundw
          case rel => exact ⟨k + sz, _, v3, rfl, rfl, by go_num, by omega, HD.out, hc3, hown3, hb5⟩
          case measure => simp [intOf]; omega
    · obtain rfl : k = s.size := by omega
      have HD := Lib.hid (hR.done (size_list s))
      clear hR
      go_wp2
      rw [Exit.noGoto_ret]
      refine bodyPost_ret (v := .tuple #[.int .i64 0, .int .i64 0]) (by simp [results, Tryz.results60, go_sem]) rfl ?_
      rw [HD.out]
      exact ⟨rfl, v, hc, hown, hb⟩

/-- What Parse tells of a text. -/
def lexP (l : Bs) : List Tok × Int × Int := if (lexL l 0).2.2 = 0 then ((lexL l 0).1, -1, 0) else ([], (lexL l 0).2)
set_option maxHeartbeats 4000000 in
set_option maxRecDepth 100000 in
theorem lexParse_any (s : ByteArray) (w : World) (hT : LexT w) (hs : s.size ≤ 100000) :
    Calls Tryz.prog 35 #[.string s] w fun e w' => ∃ v, e = .returned (.tuple #[v, .int .i64 (lexP s.data.toList).2.1, .int .i64 (lexP s.data.toList).2.2]) ∧ OwnT w.heap.size w' v (lexP s.data.toList).1 ∧ Below w.heap.size w w' := by
  have hW := walkP_any s w (w.alloc (.cells #[.slice none 0 0] 23)) ((Below.refl _ w).alloc (Nat.le_refl _) _) hT hs (Cells.new w _ _)
  unfold walkV at hW
  unfold lexP
  obtain ⟨⟨l, p, z⟩, hx⟩ : ∃ x, lexL s.data.toList 0 = x := ⟨_, rfl⟩
  rw [hx] at hW ⊢
  clear hx
  simp only at hW ⊢
  by_cases hz : z = 0
  · subst hz
    rw [if_pos rfl] at hW
    rw [if_pos rfl]
    go_enter Tryz.func35, Tryz.ntmps35
    go_wp2_with fail
    refine hW.mono ?_
    rintro _ w2 ⟨rfl, v, hc, hown, hb⟩
    obtain ⟨va, vc, rfl⟩ := hown.len
    have hl := hc.lt
    have hcc0 := hc.cell 0 _ rfl
    have hcf0 := hc.frozen 0
    have HX := Lib.hid (And.intro hc (And.intro hown hb))
    clear hc hown hb hW
    go_wp2
    obtain ⟨hc, hown, hb⟩ := HX.out
    have hc2 := (hc.setI 0 (.slice va l.length vc)).cell 0 _ rfl
    refine bodyPost_ret (v := .tuple #[.slice va l.length vc, .int .i64 (-1), .int .i64 0]) (by simp [results, Tryz.results35, go_sem, hc2]) rfl ?_
    exact ⟨_, rfl, (hown.moved (fun k hk => Below.heap_setCell _ _ _ _ (by show k ≠ w.heap.size; have := (World.ownsRow.lt hown k hk).1; omega))).base_le (Nat.le_succ _), hb.setCell (Nat.le_refl _) _⟩
  · rw [if_neg hz] at hW
    rw [if_neg hz]
    have hz2 : (z != 0) = true := by simpa using hz
    go_enter Tryz.func35, Tryz.ntmps35
    go_wp2_with fail
    refine hW.mono ?_
    rintro _ w2 ⟨rfl, v, hc, hown, hb⟩
    have hl := hc.lt
    have hcc0 := hc.cell 0 _ rfl
    have hcf0 := hc.frozen 0
    have HX := Lib.hid (And.intro hc hb)
    clear hc hown hb hW
    go_wp2
    obtain ⟨hc, hb⟩ := HX.out
    have hc2 := (hc.setI 0 (.slice none 0 0)).cell 0 _ rfl
    refine bodyPost_ret (v := .tuple #[.slice none 0 0, .int .i64 p, .int .i64 z]) (by simp [results, Tryz.results35, go_sem, hc2]) rfl ?_
    exact ⟨_, rfl, OwnT.nil, hb.setCell (Nat.le_refl _) _⟩
end Go.Proofs.YtjlikcfabekhlaaGreatDoor

/- The walk of the reference's Parse of tokens (layer 11). -/
namespace Go.Proofs.YtjlikcfabekhlaaGreatDoor
open Go.RowKit Go.Tab

theorem rOne_any (s : ByteArray) (k : Nat) (w : World) (hs : s.size ≤ 100000) (hk : k < s.size) :
    Calls Tryz.prog 38 #[.string s, .int .i64 (k : Nat)] w (OneP w s k (one1 (s.data.toList.drop k))) := by
  have hd := drop_at hk
  have h1 : one1 (s.data.toList.drop k) = one1 (s[k]'hk :: s.data.toList.drop (k + 1)) := by rw [hd]
  rw [h1, one1]
  by_cases hl : letB (s[k]'hk) = true
  · rw [if_pos hl]
    refine one_word s k w hs hk ?_ hl
    intro h
    rw [h] at hl
    revert hl; decide
  rw [if_neg hl]
  have hl2 : letB (s[k]'hk) = false := by simpa using hl
  by_cases hg : dg (s[k]'hk) = true
  · rw [if_pos hg, ← hd]
    exact one_number s k w hs hk hl2 hg
  rw [if_neg hg]
  have hg2 : dg (s[k]'hk) = false := by simpa using hg
  by_cases h34 : s[k]'hk = 34
  · rw [if_pos h34, ← hd]
    exact one_quoted s k w hs hk h34
  rw [if_neg h34]
  by_cases h10 : s[k]'hk = 10
  · rw [if_pos h10]
    exact one_line s k w hs hk h10
  rw [if_neg h10]
  by_cases hr : s[k]'hk = 35 ∨ (s[k]'hk = 47 ∧ (s.data.toList.drop (k + 1)).head? = some 47)
  · rw [if_pos hr, ← hd]
    exact one_remark s k w hs hk hr
  rw [if_neg hr]
  by_cases ha : s[k]'hk = 47 ∧ (s.data.toList.drop (k + 1)).head? = some 42
  · rw [if_pos ha, ← hd]
    exact one_aside s k w hs hk ha.1 ha.2
  rw [if_neg ha, ← hd]
  exact one_sign s k w hs hk h10 hl2 hg2 h34 (fun h => hr (.inl h)) (fun h => hr (.inr h)) ha

set_option maxHeartbeats 4000000 in
set_option maxRecDepth 100000 in
theorem rLex_any (s : ByteArray) (w : World) (hs : s.size ≤ 100000) :
    Calls Tryz.prog 14 #[.string s] w (TellP w (lexL s.data.toList 0).1 (lexL s.data.toList 0).2.1 (lexL s.data.toList 0).2.2) := by
  have hb0 : Below w.heap.size w (w.alloc (.cells #[.slice none 0 0, .int .i64 0, .int .i64 0] 26)) := (Below.refl _ w).alloc (Nat.le_refl _) _
  have hbx0 := Cells.new w #[.slice none 0 0, .int .i64 0, .int .i64 0] 26
  have HH := Lib.hid (And.intro hb0 hbx0)
  clear hb0 hbx0
  go_enter Tryz.func14, Tryz.ntmps14
  go_wp2_with fail
  go_loopw [3, 4, 5] (fun o p _ wr => ∃ (k : Nat) (pre : List Tok), p = .int .i64 (k : Int) ∧ k ≤ s.size ∧ LexRest s.data.toList k pre ∧ OwnT (w.heap.size + 1) wr o pre ∧ Cells wr w.heap.size #[.slice none 0 0, .int .i64 0, .int .i64 0] 26 ∧ Below w.heap.size w wr) (fun _ p _ _ => s.size - (intOf p).toNat)
  case atStart => exact ⟨0, [], rfl, Nat.zero_le _, LexRest.zero _, OwnT.nil, HH.out.2, HH.out.1⟩
  case round =>
    clear HH
    obtain ⟨k, pre, rfl, hk, hR, hown, hc, hb⟩ := hrel
    have hl := hc.lt
    by_cases hlt : k < s.size
    · have hB := Blank_any (s[k]'hlt)
      have hkl : k < s.data.toList.length := by rw [← size_list]; exact hlt
      have hRl := hR.len
      rw [← size_list] at hRl
      have HR := Lib.hid hR
      clear hR
      cases hb1 : blankB (s[k]'hlt) with
      | true =>
        rw [hb1] at hB
        have HR2 := Lib.hid (HR.out.blank hkl hb1)
        have HX := Lib.hid (And.intro hown (And.intro hc hb))
        clear HR hb1 hown hc hb
        go_wp2_with fail
        refine (hB _).mono ?_
        rintro _ _ ⟨rfl, hw1⟩
        cases hw1
        go_wp2
        go_roundw
        case rel => exact ⟨k + 1, pre, by go_num, by omega, HR2.out, HX.out.1, HX.out.2.1, HX.out.2.2⟩
        case measure => simp [intOf]; omega
      | false =>
        rw [hb1] at hB
        have hO := rOne_any s k
        unfold OneP at hO
        obtain ⟨va, vc, rfl⟩ := hown.len
        cases ho : one1 (s.data.toList.drop k) with
        | bad o e =>
          have HD := Lib.hid (HR.out.bad hkl hb1 ho)
          have hne : (e != 0) = true := by simpa using one1_err ho
          rw [ho] at hO
          simp only [lrT] at hO
          clear HR hb1 ho
          go_wp2_with fail
          refine (hB _).mono ?_
          rintro _ _ ⟨rfl, hw1⟩
          cases hw1
          go_wp2_with fail
          refine (hO _ hs hlt).mono ?_
          rintro _ w2 ⟨v2, rfl, hown2, hb2⟩
          obtain ⟨ua, uc, rfl⟩ := hown2.len
          have hc9 := hc.below hb2 hl
          have hl2 := hc9.lt
          have HX := Lib.hid (And.intro (hown.below hb2 (Nat.le_refl _)) (And.intro hc9 (hb.trans (hb2.mono hb.size))))
          clear hown2 hb2 hown hc hb
          have hc9c0 := hc9.cell 0 _ rfl
          have hc9f0 := hc9.frozen 0
          have hc9c1 := hc9.cell 1 _ rfl
          have hc9f1 := hc9.frozen 1
          have hc9c2 := hc9.cell 2 _ rfl
          have hc9f2 := hc9.frozen 2
          clear hc9
          go_wp2
          have hq := (((HX.out.2.1.setI 0 (.slice va pre.length vc)).setI 1 (.int .i64 ((k : Int) + o))).setI 2 (.int .i64 e)).alloc (.cells #[.slice ua 0 uc, .int .i64 ((k : Int) + o), .int .i64 e] 26)
          have hx := hq.cell 0 _ rfl
          have hy := hq.cell 1 _ rfl
          have hz := hq.cell 2 _ rfl
          refine bodyPost_ret (v := .agg #[.slice va pre.length vc, .int .i64 ((k : Int) + o), .int .i64 e]) (by simp [results, Tryz.results14, go_sem, hx, hy, hz]) rfl ?_
          rw [HD.out]
          exact ⟨.slice va pre.length vc, by simp, ((OwnT.moved (w' := setAll w2 w.heap.size 0 [.slice va pre.length vc, .int .i64 ((k : Int) + o), .int .i64 e]) HX.out.1 (fun q hq => setAll_other _ _ 0 _ q (by have := (World.ownsRow.lt HX.out.1 q hq).1; omega))).base_le (Nat.le_succ _)).alloc _, (setAll_below _ _ (Nat.le_refl _) [.slice va pre.length vc, .int .i64 ((k : Int) + o), .int .i64 e] 0 _ _ HX.out.2.2).alloc (by rw [setAll_size]; exact HX.out.2.2.size) _⟩
        | tok kd sz =>
          have HD := Lib.hid (HR.out.tok hkl hb1 ho)
          have hsz := one1_size ho
          rw [List.length_drop, ← size_list] at hsz
          have hEx : strL ((s.data.toList.drop k).take sz) = s.extract k (k + sz) := str_ext (by rw [ext_list, strL_list, List.drop_take]; congr 1; omega)
          rw [hEx] at HD
          have hes : (s.extract k (k + sz)).size = sz := by rw [ByteArray.size_extract]; omega
          rw [ho] at hO
          simp only [lrT] at hO
          clear HR hb1 ho hEx
          generalize s.extract k (k + sz) = tx at *
          go_wp2_with fail
          refine (hB _).mono ?_
          rintro _ _ ⟨rfl, hw1⟩
          cases hw1
          go_wp2_with fail
          refine (hO _ hs hlt).mono ?_
          rintro _ w2 ⟨v2, rfl, hown2, hb2⟩
          obtain ⟨ua, uc, rfl⟩ := hown2.len
          obtain ⟨ub, uo, rfl, hub, q0, q1, q2⟩ := ToksAt.get (OwnT.toks hown2) (j := 0) (by simp)
          simp only [List.length_cons, List.length_nil, Nat.zero_add, List.getElem_cons_zero, Nat.zero_mul, Nat.add_zero] at q0 q1 q2 hown2
          go_wp2_with (with_reducible first | refine stop_append ?_)
          refine Stop.out ?_
          have hown3 := ((hown.below hb2 (Nat.le_refl _)).alloc (.cells #[.slice (some ⟨ub, uo, none⟩) 1 uc, .int .i64 0, .int .i64 0] 26)).alloc (.cells #[.int .i64 (kd : Nat), .string tx, .int .i64 (k : Nat)] 52)
          have hub2 := (World.ownsRow.lt hown2 ub rfl).1
          refine wpList_append_tok rfl _ _ rfl (w.heap.size + 1) pre ⟨(kd : Nat), tx, (k : Nat)⟩ hown3 (w2.heap.size + 1) rfl (by simp) (by simp) (by simp) (by omega) (by have := hb2.size; simp; omega) _ (Below.refl _ _) ?_
          intro v' w' hown' hb9 hg'
          have hb' : Below w.heap.size w w' := (((hb.trans (hb2.mono hb.size)).alloc (Nat.le_trans hb.size hb2.size) (.cells #[.slice (some ⟨ub, uo, none⟩) 1 uc, .int .i64 0, .int .i64 0] 26)).alloc (by have := hb.size; have := hb2.size; simp; omega) (.cells #[.int .i64 (kd : Nat), .string tx, .int .i64 (k : Nat)] 52)).trans (hb9.mono (Nat.le_succ _))
          have hrow : ∀ b, (Value.slice va pre.length vc).ownBlock = some b → b < wr.heap.size := fun b hbb => (World.ownsRow.lt hown b hbb).2
          have hs2 := hb2.size
          have hcw : Cells w' w.heap.size #[.slice none 0 0, .int .i64 0, .int .i64 0] 26 := (((hc.below hb2 hl).alloc _).alloc _).kept hg' (fun e => by have := (World.ownsRow.lt hown _ e.symm).1; omega)
          have hcx : Cells w' w2.heap.size #[.slice (some ⟨ub, uo, none⟩) 1 uc, .int .i64 0, .int .i64 0] 26 := ((Cells.new w2 _ _).alloc _).kept hg' (fun e => by have := hrow _ e.symm; omega)
          have q1' : w'.cell? ⟨ub, uo + 1, none⟩ = some (.string tx) := by
            rw [cell_same (hg'.block ub (by simp; omega) (fun e => by have := hrow _ e.symm; omega))]
            rw [World.cell?_alloc_past _ _ _ (by simp; omega), World.cell?_alloc_past _ _ _ hub]
            exact q1
          have hxl := hcx.lt
          have HX := Lib.hid (And.intro hown' (And.intro hcw hb'))
          obtain ⟨xa, xc, hve⟩ := hown'.len
          subst hve
          clear hown' hb' hb9 hg' hcw hown3 hown2 hb2 hown hc hb q0 q1 q2 hrow
          have hcxc0 := hcx.cell 0 _ rfl
          have hcxf0 := hcx.frozen 0
          have hcxc1 := hcx.cell 1 _ rfl
          have hcxf1 := hcx.frozen 1
          have hcxc2 := hcx.cell 2 _ rfl
          have hcxf2 := hcx.frozen 2
          clear hcx
          go_wp2
          go_roundw
          case rel => exact ⟨k + sz, _, by go_num, by omega, HD.out, by simpa using HX.out.1, HX.out.2.1, HX.out.2.2⟩
          case measure => simp [intOf]; omega
    · obtain rfl : k = s.size := by omega
      have HD := Lib.hid (hR.done (size_list s))
      obtain ⟨va, vc, rfl⟩ := hown.len
      have hc2 := hc
      have HX := Lib.hid (And.intro hown hb)
      clear hR hown hb
      have hcc0 := hc.cell 0 _ rfl
      have hcf0 := hc.frozen 0
      have hcc1 := hc.cell 1 _ rfl
      have hcf1 := hc.frozen 1
      have hcc2 := hc.cell 2 _ rfl
      have hcf2 := hc.frozen 2
      go_wp2
      have hq := ((hc2.setI 0 (.slice va pre.length vc)).setI 1 (.int .i64 (-1))).setI 2 (.int .i64 0)
      have hx := hq.cell 0 _ rfl
      have hy := hq.cell 1 _ rfl
      have hz := hq.cell 2 _ rfl
      refine bodyPost_ret (v := .agg #[.slice va pre.length vc, .int .i64 (-1), .int .i64 0]) (by simp [results, Tryz.results14, go_sem, hx, hy, hz]) rfl ?_
      rw [HD.out]
      exact ⟨_, rfl, (HX.out.1.moved (fun q hq => setAll_other _ [.slice va pre.length vc, .int .i64 (-1), .int .i64 0] 0 _ q (by have := (World.ownsRow.lt HX.out.1 q hq).1; omega))).base_le (Nat.le_succ _), setAll_below _ _ (Nat.le_refl _) [.slice va pre.length vc, .int .i64 (-1), .int .i64 0] 0 _ _ HX.out.2⟩
end Go.Proofs.YtjlikcfabekhlaaGreatDoor

/- Two expressions held against each other, on both sides (layer 12). -/
namespace Go.Proofs.YtjlikcfabekhlaaGreatDoor
open Go.RowKit Go.Tab

/-- Kids, as they are found in an expression. -/
def KidsE (w : World) (a : Option Addr) (kids : List Exp) : Prop := ∀ (x : Addr), a = some x → kids ≠ [] → x.spot = none ∧ x.block < w.heap.size ∧ ExpsAt w x.block x.off kids
theorem KidsE.below {w w' : World} {a : Option Addr} {kids : List Exp} (h : KidsE w a kids) (hb : Below w.heap.size w w') : KidsE w' a kids := fun x hx hne => by
  obtain ⟨g1, g2, g3⟩ := h x hx hne
  exact ⟨g1, Nat.lt_of_lt_of_le g2 hb.size, ExpsAt.below hb g2 kids _ g3⟩
theorem ExpAt.open {w : World} {o t : ByteArray} {kids : List Exp} {cs : List Value} (h : ExpAt w (.mk o t kids) cs) : ∃ a cap, cs = [.string o, .string t, .slice a kids.length cap] ∧ kids.length ≤ cap ∧ cap ≤ maxLen ∧ (a = none → cap = 0) ∧ KidsE w a kids := by
  simp only [ExpAt] at h
  exact h
abbrev vX (cs : List Value) : Value := .agg cs.toArray
set_option maxHeartbeats 4000000 in
set_option maxRecDepth 100000 in
theorem rSame_step (n : Nat) (IH : ∀ (s t : Exp), s.bulk ≤ n → ∀ (w : World) (cs ds : List Value), ExpAt w s cs → ExpAt w t ds → Calls Tryz.prog 17 #[vX cs, vX ds] w (SameP (s = t) w))
    (o1 t1 : ByteArray) (kids1 : List Exp) (o2 t2 : ByteArray) (kids2 : List Exp) (hn : (Exp.mk o1 t1 kids1).bulk ≤ n + 1) (p : Prop) (hp : p ↔ Exp.mk o1 t1 kids1 = Exp.mk o2 t2 kids2)
    (w : World) (cs ds : List Value) (hv : ExpAt w (.mk o1 t1 kids1) cs) (hv2 : ExpAt w (.mk o2 t2 kids2) ds) : Calls Tryz.prog 17 #[vX cs, vX ds] w (SameP p w) := by
  have hkb : bulkX kids1 ≤ n := by simp only [Exp.bulk] at hn; omega
  obtain ⟨a, cap, rfl, hl, hm, hnil, hx⟩ := hv.open
  obtain ⟨a2, cap2, rfl, hl2, hm2, hnil2, hx2⟩ := hv2.open
  clear hv hv2 hn
  unfold maxLen at hm hm2
  simp only [vX]
  have hb0 : Below w.heap.size w ((w.alloc (.cells #[.string o1, .string t1, .slice a kids1.length cap] 30)).alloc (.cells #[.string o2, .string t2, .slice a2 kids2.length cap2] 30)) := ((Below.refl _ w).alloc (Nat.le_refl _) _).alloc (by simp) _
  by_cases ho : o1 = o2
  · subst ho
    by_cases ht : t1 = t2
    · subst ht
      by_cases hlen : kids1.length = kids2.length
      · have hq : ((kids1.length : Int) != (kids2.length : Int)) = false := by simp [hlen]
        have HP := Lib.hid hp
        have HL := Lib.hid hlen
        have HX := Lib.hid hx
        have HX2 := Lib.hid hx2
        have HIH := Lib.hid IH
        obtain ⟨hc0, hc1, hz0, hz1⟩ := two_new (Below.refl ((w.alloc (.cells #[.string o1, .string t1, .slice a kids1.length cap] 30)).alloc (.cells #[.string o1, .string t1, .slice a2 kids2.length cap2] 30)).heap.size ((w.alloc (.cells #[.string o1, .string t1, .slice a kids1.length cap] 30)).alloc (.cells #[.string o1, .string t1, .slice a2 kids2.length cap2] 30)))
        have HC0 := Lib.hid hc0
        have HC1 := Lib.hid hc1
        have HB := Lib.hid hb0
        clear hp hlen hx hx2 IH hc0 hc1 hb0
        go_enter Tryz.func17, Tryz.ntmps17
        go_wp2_with fail
        generalize (w.alloc (.cells #[.string o1, .string t1, .slice a kids1.length cap] 30)).alloc (.cells #[.string o1, .string t1, .slice a2 kids2.length cap2] 30) = w2 at *
        go_loopw [5] (fun i wr => ∃ k : Nat, k ≤ kids1.length ∧ i = .int .i64 (k : Int) ∧ (∀ j (h1 : j < kids1.length) (h2 : j < kids2.length), j < k → kids1[j] = kids2[j]) ∧ Below w2.heap.size w2 wr) (fun i _ => kids1.length - (intOf i).toNat)
        case atStart => exact ⟨0, Nat.zero_le _, rfl, fun j _ _ h => by omega, Below.refl _ _⟩
        case round =>
          obtain ⟨k, hk, rfl, hall, hbl⟩ := hrel
          have hc0 := HC0.out.below hbl hz0
          have hc1 := HC1.out.below hbl hz1
          have hy0 := hc0.lt
          have hy1 := hc1.lt
          have HBL := Lib.hid hbl
          have HA := Lib.hid hall
          clear hall
          by_cases hkl : k < kids1.length
          · have hkl2 : k < kids2.length := by have := HL.out; omega
            have hne : kids1 ≠ [] := by intro h0; rw [h0] at hkl; simp at hkl
            have hne2 : kids2 ≠ [] := by intro h0; rw [h0] at hkl2; simp at hkl2
            cases a with
            | none => have := hnil rfl; omega
            | some x =>
            cases a2 with
            | none => have := hnil2 rfl; omega
            | some x2 =>
            obtain ⟨bb, off, sp⟩ := x
            obtain ⟨bb2, off2, sp2⟩ := x2
            obtain ⟨rfl, hlt, hkids⟩ := KidsE.below (KidsE.below HX.out HB.out) hbl _ rfl hne
            obtain ⟨rfl, hlt2, hkids2⟩ := KidsE.below (KidsE.below HX2.out HB.out) hbl _ rfl hne2
            simp only at hlt hkids hlt2 hkids2
            obtain ⟨kc0, hkc, hkv⟩ := ExpsAt.get hkids k hkl
            obtain ⟨kop, ktext, ksa, ksn, ksc, rfl, m0, m1, m2⟩ := exp_at hkv hkc
            obtain ⟨jc0, hjc, hjv⟩ := ExpsAt.get hkids2 k hkl2
            obtain ⟨jop, jtext, jsa, jsn, jsc, rfl, n0, n1, n2⟩ := exp_at hjv hjc
            have hIH := HIH.out kids1[k] kids2[k] (by have := bulkX_kid hkl; omega)
            have HD : Hid (kids1[k] = kids2[k] → ∀ j (h1 : j < kids1.length) (h2 : j < kids2.length), j < k + 1 → kids1[j] = kids2[j]) := Lib.hid (fun heq j h1 h2 h => by
                by_cases hjk : j = k
                · subst hjk; exact heq
                · exact HA.out j h1 h2 (by omega))
            have HN : Hid (¬ kids1[k] = kids2[k] → kids1 ≠ kids2) := Lib.hid (fun h => rows_ne hkl hkl2 h)
            clear HA hkc hjc
            generalize kids1[k] = kid at *
            generalize kids2[k] = jid at *
            obtain ⟨b, hb⟩ := some_bool (kid = jid)
            have hcall := fun (x : Under wr) => Under.call x (SameP.fix hb (hIH x.w _ _ (hkv.under x) (hjv.under x)))
            clear hIH
            have HBB := Lib.hid hb
            clear hb
            have p0 := fun x : Under wr => (x.below.cell (p := ⟨w.heap.size, 2, none⟩) hy0).trans (hc0.cell 2 _ rfl)
            have p1 := fun x : Under wr => (x.below.cell (p := ⟨w.heap.size + 1, 2, none⟩) hy1).trans (hc1.cell 2 _ rfl)
            have M0 := fun x : Under wr => (x.below.cell (by exact hlt)).trans m0
            have M1 := fun x : Under wr => (x.below.cell (by exact hlt)).trans m1
            have M2 := fun x : Under wr => (x.below.cell (by exact hlt)).trans m2
            have O0 := fun x : Under wr => (x.below.cell (by exact hlt2)).trans n0
            have O1 := fun x : Under wr => (x.below.cell (by exact hlt2)).trans n1
            have O2 := fun x : Under wr => (x.below.cell (by exact hlt2)).trans n2
            clear m0 m1 m2 n0 n1 n2
            have hc0c0 := hc0.cell 0 _ rfl
            have hc0f0 := hc0.frozen 0
            have hc0c1 := hc0.cell 1 _ rfl
            have hc0f1 := hc0.frozen 1
            have hc0c2 := hc0.cell 2 _ rfl
            have hc0f2 := hc0.frozen 2
            have hc1c0 := hc1.cell 0 _ rfl
            have hc1f0 := hc1.frozen 0
            have hc1c1 := hc1.cell 1 _ rfl
            have hc1f1 := hc1.frozen 1
            have hc1c2 := hc1.cell 2 _ rfl
            have hc1f2 := hc1.frozen 2
            simp only [vX] at hcall
            go_wp2_with fail
            refine wp_region_under wr (by kernel_rfl) (by kernel_rfl) (Below.refl _ _) ?_
            repeat (go_big_quiet_step ((go_at_call 17; exact hcall _)))
            refine wpQuiet_nil ?_
            rintro _ ⟨x, rfl⟩
            have hb3 := HBL.out.trans (x.below.mono HBL.out.size)
            have HB3 := Lib.hid hb3
            clear M0 M1 M2 O0 O1 O2 p0 p1 hcall
            cases b
            · have HY := Lib.hid (HN.out (fun h => by have := HBB.out.2 h; cases this))
              clear HBB HN HD
              go_wp2_with fail
              go_ret
              refine ⟨⟨false, rfl, no_iff (fun h => ?_)⟩, HB.out.trans (HB3.out.mono HB.out.size)⟩
              have h2 := HP.out.1 h
              simp only [Exp.mk.injEq] at h2
              exact HY.out h2.2.2
            · have HY := Lib.hid (HD.out (HBB.out.1 rfl))
              clear HBB HN HD
              go_wp2_with fail
              go_roundw
              case rel => exact ⟨k + 1, by omega, by go_num, HY.out, HB3.out⟩
              case measure => simp [intOf]; omega
          · obtain rfl : k = kids1.length := by omega
            have hR := Lib.hid (rows_eq HL.out (fun j h1 h2 => HA.out j h1 h2 h1))
            clear HA
            have hc0c0 := hc0.cell 0 _ rfl
            have hc0f0 := hc0.frozen 0
            have hc0c1 := hc0.cell 1 _ rfl
            have hc0f1 := hc0.frozen 1
            have hc0c2 := hc0.cell 2 _ rfl
            have hc0f2 := hc0.frozen 2
            have hc1c0 := hc1.cell 0 _ rfl
            have hc1f0 := hc1.frozen 0
            have hc1c1 := hc1.cell 1 _ rfl
            have hc1f1 := hc1.frozen 1
            have hc1c2 := hc1.cell 2 _ rfl
            have hc1f2 := hc1.frozen 2
            go_wp2_with fail
            go_ret
            refine ⟨⟨true, rfl, yes_iff (HP.out.2 ?_)⟩, HB.out.trans (HBL.out.mono HB.out.size)⟩
            rw [hR.out]
      · have hq : ((kids1.length : Int) != (kids2.length : Int)) = true := by rw [bne_iff_ne]; omega
        have HN : Hid (¬ p) := Lib.hid (fun h => by have := hp.1 h; simp only [Exp.mk.injEq] at this; exact hlen (by rw [this.2.2]))
        have HB := Lib.hid hb0
        clear hlen hp hb0
        go_enter Tryz.func17, Tryz.ntmps17
        go_wp2
        go_ret
        exact ⟨⟨false, rfl, no_iff (fun h => (HN.out h).elim)⟩, HB.out⟩
    · have hq := str_ne ht
      have HN : Hid (¬ p) := Lib.hid (fun h => by have := hp.1 h; simp only [Exp.mk.injEq] at this; exact ht this.2.1)
      have HB := Lib.hid hb0
      clear ht hp hb0
      go_enter Tryz.func17, Tryz.ntmps17
      go_wp2
      go_ret
      exact ⟨⟨false, rfl, no_iff (fun h => (HN.out h).elim)⟩, HB.out⟩
  · have hq := str_ne ho
    have HN : Hid (¬ p) := Lib.hid (fun h => by have := hp.1 h; simp only [Exp.mk.injEq] at this; exact ho this.1)
    have HB := Lib.hid hb0
    clear ho hp hb0
    go_enter Tryz.func17, Tryz.ntmps17
    go_wp2
    go_ret
    exact ⟨⟨false, rfl, no_iff (fun h => (HN.out h).elim)⟩, HB.out⟩

theorem rSame_upto (n : Nat) : ∀ (s t : Exp), s.bulk ≤ n → ∀ (w : World) (cs ds : List Value), ExpAt w s cs → ExpAt w t ds → Calls Tryz.prog 17 #[vX cs, vX ds] w (SameP (s = t) w) := by
  induction n with
  | zero => intro t _ h; have := bulkX_pos t; omega
  | succ n IH =>
    intro s t h w cs ds hv hv2
    cases s
    cases t
    exact rSame_step n IH _ _ _ _ _ _ h _ Iff.rfl w cs ds hv hv2
/-- Same: just if they are. -/
theorem rSame_any (s t : Exp) (w : World) (cs ds : List Value) (hv : ExpAt w s cs) (hv2 : ExpAt w t ds) : Calls Tryz.prog 17 #[vX cs, vX ds] w (SameP (s = t) w) :=
  rSame_upto s.bulk s t (Nat.le_refl _) w cs ds hv hv2
set_option maxHeartbeats 4000000 in
set_option maxRecDepth 100000 in
theorem xSame_step (n : Nat) (IH : ∀ (s t : Exp), s.bulk ≤ n → ∀ (w : World) (cs ds : List Value), ExpAt w s cs → ExpAt w t ds → Calls Tryz.prog 51 #[vX cs, vX ds] w (SameP (s = t) w))
    (o1 t1 : ByteArray) (kids1 : List Exp) (o2 t2 : ByteArray) (kids2 : List Exp) (hn : (Exp.mk o1 t1 kids1).bulk ≤ n + 1) (p : Prop) (hp : p ↔ Exp.mk o1 t1 kids1 = Exp.mk o2 t2 kids2)
    (w : World) (cs ds : List Value) (hv : ExpAt w (.mk o1 t1 kids1) cs) (hv2 : ExpAt w (.mk o2 t2 kids2) ds) : Calls Tryz.prog 51 #[vX cs, vX ds] w (SameP p w) := by
  have hkb : bulkX kids1 ≤ n := by simp only [Exp.bulk] at hn; omega
  obtain ⟨a, cap, rfl, hl, hm, hnil, hx⟩ := hv.open
  obtain ⟨a2, cap2, rfl, hl2, hm2, hnil2, hx2⟩ := hv2.open
  clear hv hv2 hn
  unfold maxLen at hm hm2
  simp only [vX]
  have hb0 : Below w.heap.size w ((w.alloc (.cells #[.string o1, .string t1, .slice a kids1.length cap] 30)).alloc (.cells #[.string o2, .string t2, .slice a2 kids2.length cap2] 30)) := ((Below.refl _ w).alloc (Nat.le_refl _) _).alloc (by simp) _
  by_cases ho : o1 = o2
  · subst ho
    by_cases ht : t1 = t2
    · subst ht
      by_cases hlen : kids1.length = kids2.length
      · have hq : ((kids1.length : Int) != (kids2.length : Int)) = false := by simp [hlen]
        have HP := Lib.hid hp
        have HL := Lib.hid hlen
        have HX := Lib.hid hx
        have HX2 := Lib.hid hx2
        have HIH := Lib.hid IH
        obtain ⟨hc0, hc1, hz0, hz1⟩ := two_new (Below.refl ((w.alloc (.cells #[.string o1, .string t1, .slice a kids1.length cap] 30)).alloc (.cells #[.string o1, .string t1, .slice a2 kids2.length cap2] 30)).heap.size ((w.alloc (.cells #[.string o1, .string t1, .slice a kids1.length cap] 30)).alloc (.cells #[.string o1, .string t1, .slice a2 kids2.length cap2] 30)))
        have HC0 := Lib.hid hc0
        have HC1 := Lib.hid hc1
        have HB := Lib.hid hb0
        clear hp hlen hx hx2 IH hc0 hc1 hb0
        go_enter Tryz.func51, Tryz.ntmps51
        go_wp2_with fail
        generalize (w.alloc (.cells #[.string o1, .string t1, .slice a kids1.length cap] 30)).alloc (.cells #[.string o1, .string t1, .slice a2 kids2.length cap2] 30) = w2 at *
        go_loopw [30] (fun i wr => ∃ k : Nat, k ≤ kids1.length ∧ i = .int .i64 (k : Int) ∧ (∀ j (h1 : j < kids1.length) (h2 : j < kids2.length), j < k → kids1[j] = kids2[j]) ∧ Below w2.heap.size w2 wr) (fun i _ => kids1.length - (intOf i).toNat)
        case atStart => exact ⟨0, Nat.zero_le _, rfl, fun j _ _ h => by omega, Below.refl _ _⟩
        case round =>
          obtain ⟨k, hk, rfl, hall, hbl⟩ := hrel
          have hc0 := HC0.out.below hbl hz0
          have hc1 := HC1.out.below hbl hz1
          have hy0 := hc0.lt
          have hy1 := hc1.lt
          have HBL := Lib.hid hbl
          have HA := Lib.hid hall
          clear hall
          by_cases hkl : k < kids1.length
          · have hkl2 : k < kids2.length := by have := HL.out; omega
            have hne : kids1 ≠ [] := by intro h0; rw [h0] at hkl; simp at hkl
            have hne2 : kids2 ≠ [] := by intro h0; rw [h0] at hkl2; simp at hkl2
            cases a with
            | none => have := hnil rfl; omega
            | some x =>
            cases a2 with
            | none => have := hnil2 rfl; omega
            | some x2 =>
            obtain ⟨bb, off, sp⟩ := x
            obtain ⟨bb2, off2, sp2⟩ := x2
            obtain ⟨rfl, hlt, hkids⟩ := KidsE.below (KidsE.below HX.out HB.out) hbl _ rfl hne
            obtain ⟨rfl, hlt2, hkids2⟩ := KidsE.below (KidsE.below HX2.out HB.out) hbl _ rfl hne2
            simp only at hlt hkids hlt2 hkids2
            obtain ⟨kc0, hkc, hkv⟩ := ExpsAt.get hkids k hkl
            obtain ⟨kop, ktext, ksa, ksn, ksc, rfl, m0, m1, m2⟩ := exp_at hkv hkc
            obtain ⟨jc0, hjc, hjv⟩ := ExpsAt.get hkids2 k hkl2
            obtain ⟨jop, jtext, jsa, jsn, jsc, rfl, n0, n1, n2⟩ := exp_at hjv hjc
            have hIH := HIH.out kids1[k] kids2[k] (by have := bulkX_kid hkl; omega)
            have HD : Hid (kids1[k] = kids2[k] → ∀ j (h1 : j < kids1.length) (h2 : j < kids2.length), j < k + 1 → kids1[j] = kids2[j]) := Lib.hid (fun heq j h1 h2 h => by
                by_cases hjk : j = k
                · subst hjk; exact heq
                · exact HA.out j h1 h2 (by omega))
            have HN : Hid (¬ kids1[k] = kids2[k] → kids1 ≠ kids2) := Lib.hid (fun h => rows_ne hkl hkl2 h)
            clear HA hkc hjc
            generalize kids1[k] = kid at *
            generalize kids2[k] = jid at *
            obtain ⟨b, hb⟩ := some_bool (kid = jid)
            have hcall := fun (x : Under wr) => Under.call x (SameP.fix hb (hIH x.w _ _ (hkv.under x) (hjv.under x)))
            clear hIH
            have HBB := Lib.hid hb
            clear hb
            have p0 := fun x : Under wr => (x.below.cell (p := ⟨w.heap.size, 2, none⟩) hy0).trans (hc0.cell 2 _ rfl)
            have p1 := fun x : Under wr => (x.below.cell (p := ⟨w.heap.size + 1, 2, none⟩) hy1).trans (hc1.cell 2 _ rfl)
            have M0 := fun x : Under wr => (x.below.cell (by exact hlt)).trans m0
            have M1 := fun x : Under wr => (x.below.cell (by exact hlt)).trans m1
            have M2 := fun x : Under wr => (x.below.cell (by exact hlt)).trans m2
            have O0 := fun x : Under wr => (x.below.cell (by exact hlt2)).trans n0
            have O1 := fun x : Under wr => (x.below.cell (by exact hlt2)).trans n1
            have O2 := fun x : Under wr => (x.below.cell (by exact hlt2)).trans n2
            clear m0 m1 m2 n0 n1 n2
            have hc0c0 := hc0.cell 0 _ rfl
            have hc0f0 := hc0.frozen 0
            have hc0c1 := hc0.cell 1 _ rfl
            have hc0f1 := hc0.frozen 1
            have hc0c2 := hc0.cell 2 _ rfl
            have hc0f2 := hc0.frozen 2
            have hc1c0 := hc1.cell 0 _ rfl
            have hc1f0 := hc1.frozen 0
            have hc1c1 := hc1.cell 1 _ rfl
            have hc1f1 := hc1.frozen 1
            have hc1c2 := hc1.cell 2 _ rfl
            have hc1f2 := hc1.frozen 2
            simp only [vX] at hcall
            go_wp2_with fail
            refine wp_region_under wr (by kernel_rfl) (by kernel_rfl) (Below.refl _ _) ?_
            repeat (go_big_quiet_step ((go_at_call 51; exact hcall _)))
            refine wpQuiet_nil ?_
            rintro _ ⟨x, rfl⟩
            have hb3 := HBL.out.trans (x.below.mono HBL.out.size)
            have HB3 := Lib.hid hb3
            clear M0 M1 M2 O0 O1 O2 p0 p1 hcall
            cases b
            · have HY := Lib.hid (HN.out (fun h => by have := HBB.out.2 h; cases this))
              clear HBB HN HD
              go_wp2_with fail
              go_ret
              refine ⟨⟨false, rfl, no_iff (fun h => ?_)⟩, HB.out.trans (HB3.out.mono HB.out.size)⟩
              have h2 := HP.out.1 h
              simp only [Exp.mk.injEq] at h2
              exact HY.out h2.2.2
            · have HY := Lib.hid (HD.out (HBB.out.1 rfl))
              clear HBB HN HD
              go_wp2_with fail
              go_roundw
              case rel => exact ⟨k + 1, by omega, by go_num, HY.out, HB3.out⟩
              case measure => simp [intOf]; omega
          · obtain rfl : k = kids1.length := by omega
            have hR := Lib.hid (rows_eq HL.out (fun j h1 h2 => HA.out j h1 h2 h1))
            clear HA
            have hc0c0 := hc0.cell 0 _ rfl
            have hc0f0 := hc0.frozen 0
            have hc0c1 := hc0.cell 1 _ rfl
            have hc0f1 := hc0.frozen 1
            have hc0c2 := hc0.cell 2 _ rfl
            have hc0f2 := hc0.frozen 2
            have hc1c0 := hc1.cell 0 _ rfl
            have hc1f0 := hc1.frozen 0
            have hc1c1 := hc1.cell 1 _ rfl
            have hc1f1 := hc1.frozen 1
            have hc1c2 := hc1.cell 2 _ rfl
            have hc1f2 := hc1.frozen 2
            go_wp2_with fail
            go_ret
            refine ⟨⟨true, rfl, yes_iff (HP.out.2 ?_)⟩, HB.out.trans (HBL.out.mono HB.out.size)⟩
            rw [hR.out]
      · have hq : ((kids1.length : Int) != (kids2.length : Int)) = true := by rw [bne_iff_ne]; omega
        have HN : Hid (¬ p) := Lib.hid (fun h => by have := hp.1 h; simp only [Exp.mk.injEq] at this; exact hlen (by rw [this.2.2]))
        have HB := Lib.hid hb0
        clear hlen hp hb0
        go_enter Tryz.func51, Tryz.ntmps51
        go_wp2
        go_ret
        exact ⟨⟨false, rfl, no_iff (fun h => (HN.out h).elim)⟩, HB.out⟩
    · have hq := str_ne ht
      have HN : Hid (¬ p) := Lib.hid (fun h => by have := hp.1 h; simp only [Exp.mk.injEq] at this; exact ht this.2.1)
      have HB := Lib.hid hb0
      clear ht hp hb0
      go_enter Tryz.func51, Tryz.ntmps51
      go_wp2
      go_ret
      exact ⟨⟨false, rfl, no_iff (fun h => (HN.out h).elim)⟩, HB.out⟩
  · have hq := str_ne ho
    have HN : Hid (¬ p) := Lib.hid (fun h => by have := hp.1 h; simp only [Exp.mk.injEq] at this; exact ho this.1)
    have HB := Lib.hid hb0
    clear ho hp hb0
    go_enter Tryz.func51, Tryz.ntmps51
    go_wp2
    go_ret
    exact ⟨⟨false, rfl, no_iff (fun h => (HN.out h).elim)⟩, HB.out⟩

theorem xSame_upto (n : Nat) : ∀ (s t : Exp), s.bulk ≤ n → ∀ (w : World) (cs ds : List Value), ExpAt w s cs → ExpAt w t ds → Calls Tryz.prog 51 #[vX cs, vX ds] w (SameP (s = t) w) := by
  induction n with
  | zero => intro t _ h; have := bulkX_pos t; omega
  | succ n IH =>
    intro s t h w cs ds hv hv2
    cases s
    cases t
    exact xSame_step n IH _ _ _ _ _ _ h _ Iff.rfl w cs ds hv hv2
/-- Same: just if they are. -/
theorem xSame_any (s t : Exp) (w : World) (cs ds : List Value) (hv : ExpAt w s cs) (hv2 : ExpAt w t ds) : Calls Tryz.prog 51 #[vX cs, vX ds] w (SameP (s = t) w) :=
  xSame_upto s.bulk s t (Nat.le_refl _) w cs ds hv hv2
end Go.Proofs.YtjlikcfabekhlaaGreatDoor

/- What the examples of the statements of layer 12 are: plain (layer 12). -/
namespace Go.Proofs.YtjlikcfabekhlaaGreatDoor
open Go.RowKit Go.Tab

def exA : Bs := [49, 32, 43, 32, 50, 32, 42, 32, 120, 46, 121]
def exB : Bs := [45, 32, 49, 32, 45, 32, 50]
def tokX (k : Int) (l : Bs) (p : Int) : Tok := ⟨k, strL l, p⟩
theorem lex_exA : lexP exA = ([tokX 2 [49] 0, tokX 4 [43] 2, tokX 2 [50] 4, tokX 4 [42] 6, tokX 1 [120] 8, tokX 4 [46] 9, tokX 1 [121] 10], -1, 0) := by kernel_rfl
theorem lex_exB : lexP exB = ([tokX 4 [45] 0, tokX 2 [49] 2, tokX 4 [45] 4, tokX 2 [50] 6], -1, 0) := by kernel_rfl
def num1X (l : Bs) : Exp := .mk oNum (strL l) []
theorem par_exA : parE (lexP exA).1 = (.mk (strL [43]) oNo [num1X [49], .mk (strL [42]) oNo [num1X [50], .mk oGet (strL [121]) [.mk oName (strL [120]) []]]], 7, 0) := by
  rw [lex_exA]; kernel_rfl
theorem par_exB : parE (lexP exB).1 = (.mk (strL [45]) oNo [.mk oNeg oNo [num1X [49]], num1X [50]], 4, 0) := by
  rw [lex_exB]; kernel_rfl

/-- Each token's text is a piece of the text. -/
theorem lexL_text : ∀ (k : Nat) (l : Bs) (p : Nat), l.length ≤ k → ∀ t ∈ (lexL l p).1, t.text.size ≤ l.length
  | 0, l, p, h => by
    obtain rfl := List.eq_nil_of_length_eq_zero (Nat.le_zero.1 h)
    intro t ht
    rw [lexL_nil] at ht
    cases ht
  | k + 1, [], p, _ => by
    intro t ht
    rw [lexL_nil] at ht
    cases ht
  | k + 1, c :: r, p, h => by
    simp only [List.length_cons] at h ⊢
    by_cases hb : blankB c = true
    · rw [lexL_blank hb]
      intro t ht
      have := lexL_text k r (p + 1) (by omega) t ht
      omega
    · have hb : blankB c = false := by simpa using hb
      cases ho : one1 (c :: r) with
      | bad off e =>
        rw [lexL_bad hb ho]
        intro t ht
        cases ht
      | tok kd sz =>
        have hs := one1_size ho
        rw [lexL_tok hb ho]
        intro t ht
        rcases List.mem_cons.1 ht with rfl | ht
        · show (strL ((c :: r).take sz)).size ≤ _
          have : (strL ((c :: r).take sz)).size = ((c :: r).take sz).length := by unfold strL; simp [ByteArray.size]
          rw [this, List.length_take, List.length_cons]
          omega
        · have := lexL_text k ((c :: r).drop sz) (p + sz) (by rw [List.length_drop, List.length_cons]; omega) t ht
          rw [List.length_drop, List.length_cons] at this
          omega
theorem lexP_len (l : Bs) : (lexP l).1.length ≤ l.length ∧ ∀ t ∈ (lexP l).1, t.text.size ≤ l.length := by
  unfold lexP
  split
  · exact ⟨lexL_len _ _ _ (Nat.le_refl _), lexL_text _ _ _ (Nat.le_refl _)⟩
  · exact ⟨Nat.zero_le _, fun t ht => by cases ht⟩
theorem size_list2 (s : ByteArray) : s.data.toList.length = s.size := by rw [Array.length_toList]; rfl
set_option maxHeartbeats 4000000 in
set_option maxRecDepth 100000 in
/-- What a text's tokens begin with. -/
theorem of_any (s : ByteArray) (w : World) (hT : LexT w) (hs : s.size ≤ 100000) : Calls Tryz.prog 36 #[.string s] w (ParX w (parE (lexP s.data.toList).1)) := by
  have hq := Cells.new w zeroC 30
  have hb1 : Below w.heap.size w (w.alloc (.cells zeroC 30)) := (Below.refl _ w).alloc (Nat.le_refl _) _
  have hP := lexParse_any s (w.alloc (.cells zeroC 30)) (hT.below hb1) hs
  obtain ⟨hl, hsz⟩ := lexP_len s.data.toList
  rw [size_list2] at hl hsz
  have hpos := hT.utf.pos
  generalize (lexP s.data.toList).1 = l at *
  go_enter Tryz.func36, Tryz.ntmps36
  go_wp2_with fail
  generalize w.alloc (.cells zeroC 30) = w1 at *
  refine hP.mono ?_
  rintro _ w2 ⟨v, rfl, hown, hb2⟩
  obtain ⟨va, vc, rfl⟩ := hown.len
  have hq2 := hq.below hb2 hq.lt
  have hb12 := hb1.trans (hb2.mono hb1.size)
  have hE := exprParse_any w2 _ l hown.toks (fun b hb => (World.ownsRow.lt hown b hb).2) ((hT.utf.below hb12 hpos)) (Nat.lt_of_lt_of_le hpos hb12.size) (by omega) (fun t ht => by have := hsz t ht; omega)
  have HB := Lib.hid hb12
  clear hb2 hb12 hP hown hb1 hT
  go_wp2_with fail
  refine hE.mono ?_
  rintro _ w3 ⟨hb3, o, t, a, n, c, rfl, hX⟩
  have hq3 := hq2.below hb3 hq2.lt
  have hlt := hq3.lt
  have HX := Lib.hid (And.intro hb3 hX)
  have HQ := Lib.hid hq3
  have hlt2 := hq2.lt
  clear hE hb3 hX hq hq2
  have hq3c0 := hq3.cell 0 _ rfl
  have hq3f0 := hq3.frozen 0
  have hq3c1 := hq3.cell 1 _ rfl
  have hq3f1 := hq3.frozen 1
  have hq3c2 := hq3.cell 2 _ rfl
  have hq3f2 := hq3.frozen 2
  clear hq3
  go_wp2
  have hqq := ((HQ.out.setI 0 (.string o)).setI 1 (.string t)).setI 2 (.slice a n c)
  have hx := hqq.cell 0 _ rfl
  have hy := hqq.cell 1 _ rfl
  have hz := hqq.cell 2 _ rfl
  refine bodyPost_ret (v := .tuple #[.agg #[.string o, .string t, .slice a n c], .int .i64 ((parE l).2.1 : Nat), .int .i64 (parE l).2.2]) (by simp [results, Tryz.results36, go_sem, hx, hy, hz]) rfl ?_
  obtain ⟨hb3, hX⟩ := HX.out
  have hb13 := HB.out.trans (hb3.mono HB.out.size)
  have hB9 := setAll_below w.heap.size w.heap.size (Nat.le_refl _) [.string o, .string t, .slice a n c] 0 _ _ hb13
  have hzw := HB.out.size
  have hX9 : ExpIn (fun b => w.heap.size ≤ b) (setAll w3 w.heap.size 0 [.string o, .string t, .slice a n c]) (parE l).1 (expV o t (.slice a n c)) := by
    refine ExpIn.move (P := fun b => w2.heap.size ≤ b) (w := w3) ?_ (fun b hb _ => ?_) (fun b hb _ => ?_) _ _ hX
    · rw [setAll_size]; exact Nat.le_refl _
    · rw [setAll_other _ _ _ _ _ (by omega)]
    · show w.heap.size ≤ b
      omega
  show ParX w _ _ (setAll w3 w.heap.size 0 [.string o, .string t, .slice a n c])
  generalize setAll w3 w.heap.size 0 [.string o, .string t, .slice a n c] = w9 at *
  exact ⟨hB9, o, t, a, n, c, rfl, hX9⟩
end Go.Proofs.YtjlikcfabekhlaaGreatDoor

/- The examples of the statements of layer 12 hold (layer 12). -/
namespace Go.Proofs.YtjlikcfabekhlaaGreatDoor
open Go.RowKit Go.Tab

/-- An expression's cells, and those of one of its kids. -/
theorem ExpIn.kid {P : Nat → Prop} {w : World} {o t : ByteArray} {kids : List Exp} {cs : List Value} (h : ExpIn P w (.mk o t kids) cs) {k : Nat} (hk : k < kids.length) :
    ∃ b off cap, cs = [.string o, .string t, .slice (some ⟨b, off, none⟩) kids.length cap] ∧ b < w.heap.size ∧ w.cell? ⟨b, off + k * 3, none⟩ = some (.string kids[k].op) := by
  obtain ⟨a, cap, rfl, hl, hm, hnil, hx⟩ := (ExpIn.at _ _ h).open
  cases a with
  | none => have := hnil rfl; omega
  | some x =>
    obtain ⟨b, off, sp⟩ := x
    obtain ⟨rfl, hlt, hkids⟩ := hx _ rfl (by intro h0; rw [h0] at hk; simp at hk)
    obtain ⟨cs, hc, hv⟩ := ExpsAt.get hkids k hk
    refine ⟨b, off, cap, rfl, hlt, ?_⟩
    cases hq : kids[k] with
    | mk o2 t2 k2 =>
      rw [hq] at hv
      obtain ⟨a2, cap2, rfl, -⟩ := hv.open
      exact hc 0 _ rfl
set_option maxHeartbeats 4000000 in
set_option maxRecDepth 100000 in
theorem wakes_any (w : World) (hT : LexT w) : Calls Tryz.prog 12 #[] w fun e w' => e = .returned (.bool true) ∧ Below w.heap.size w w' := by
  have hA := of_any (strL exA) w hT (by decide)
  rw [strL_list, par_exA] at hA
  go_enter Tryz.func12, Tryz.ntmps12
  go_wp2_with fail
  refine hA.mono ?_
  rintro _ w2 ⟨hb2, o, t, a, n, c, rfl, hX⟩
  obtain ⟨b, off, cap, hcs, hlt, hop⟩ := ExpIn.kid hX (k := 1) (by decide)
  have he1 : Value.string o = .string (strL [43]) ∧ Value.string t = .string oNo ∧ Value.slice a n c = .slice (some ⟨b, off, none⟩) 2 cap := by
    simp only [List.cons.injEq, and_true] at hcs
    exact hcs
  obtain ⟨h1, h2, h3⟩ := he1
  cases h1; cases h2; cases h3
  have hop2 : w2.cell? ⟨b, off + 1 * 3, none⟩ = some (.string (strL [42])) := hop
  clear hX hA hop hcs

  have hb3 : Below w2.heap.size w2 (w2.alloc (.cells #[.string (strL [43]), .string oNo, .slice (some ⟨b, off, none⟩) 2 c] 30)) := (Below.refl _ _).alloc (Nat.le_refl _) _
  have hk3 := Cells.new w2 #[.string (strL [43]), .string oNo, .slice (some ⟨b, off, none⟩) 2 c] 30
  have hop3 := (hb3.cell (p := ⟨b, off + 1 * 3, none⟩) hlt).trans hop2
  have hlt3 := Nat.lt_of_lt_of_le hlt hb3.size
  have hB := of_any (strL exB) _ (hT.below (hb2.trans (hb3.mono hb2.size))) (by decide)
  rw [strL_list, par_exB] at hB
  have HB3 := Lib.hid (hb2.trans (hb3.mono hb2.size))
  clear hop2 hlt hb3 hb2 hT
  go_wp2_with fail
  generalize w2.alloc (.cells #[.string (strL [43]), .string oNo, .slice (some ⟨b, off, none⟩) 2 c] 30) = w3 at *
  refine hB.mono ?_
  rintro _ w4 ⟨hb4, o, t, a, n, c, rfl, hX⟩
  obtain ⟨b2, off2, cap2, hcs, hlt, hop⟩ := ExpIn.kid hX (k := 0) (by decide)
  have he1 : Value.string o = .string (strL [45]) ∧ Value.string t = .string oNo ∧ Value.slice a n c = .slice (some ⟨b2, off2, none⟩) 2 cap2 := by
    simp only [List.cons.injEq, and_true] at hcs
    exact hcs
  obtain ⟨h1, h2, h3⟩ := he1
  cases h1; cases h2; cases h3
  have hop2 : w4.cell? ⟨b2, off2 + 0 * 3, none⟩ = some (.string oNeg) := hop
  have hk4 := hk3.below hb4 hk3.lt
  have hop4 := (hb4.cell (p := ⟨b, off + 1 * 3, none⟩) hlt3).trans hop3
  have hlt4 := Nat.lt_of_lt_of_le hlt3 hb4.size
  have hkl4 := hk4.lt
  have HB4 := Lib.hid (HB3.out.trans (hb4.mono HB3.out.size))
  clear hX hB hop hcs hk3 hop3 hlt3 hb4 HB3
  simp only [Nat.one_mul, Nat.zero_mul, Nat.add_zero] at hlt hop4 hop2
  have hk4c0 := hk4.cell 0 _ rfl
  have hk4f0 := hk4.frozen 0
  have hk4c1 := hk4.cell 1 _ rfl
  have hk4f1 := hk4.frozen 1
  have hk4c2 := hk4.cell 2 _ rfl
  have hk4f2 := hk4.frozen 2
  clear hk4
  have q1 : ((strL [43]).toList == [43]) = true := by kernel_rfl
  have q2 : ((strL [42]).toList == [42]) = true := by kernel_rfl
  have q3 : ((strL [45]).toList == [45]) = true := by kernel_rfl
  have q4 : (oNeg.toList == [110, 101, 103]) = true := by kernel_rfl
  go_wp2
  go_ret
  exact ⟨rfl, HB4.out.alloc HB4.out.size _⟩
end Go.Proofs.YtjlikcfabekhlaaGreatDoor

/- The walk of Great (layer 12): what it tells is left open; what is not great is small. -/
namespace Go.Proofs.YtjlikcfabekhlaaGreatDoor
open Go.RowKit Go.Tab

mutual
/-- What the reference takes off for an expression. -/
def wtX : Exp → Nat
  | .mk _ t kids => 1 + t.size / 20 + wtXs kids
def wtXs : List Exp → Nat
  | [] => 0
  | t :: r => wtX t + wtXs r
end
mutual
/-- No word in it is long. -/
def ShortX : Exp → Prop
  | .mk o t kids => o.size ≤ 20 ∧ t.size ≤ 500 ∧ ShortXs kids
def ShortXs : List Exp → Prop
  | [] => True
  | t :: r => ShortX t ∧ ShortXs r
end
theorem wtXs_snoc : ∀ (l : List Exp) (t : Exp), wtXs (l ++ [t]) = wtXs l + wtX t
  | [], t => by simp [wtXs]
  | a :: r, t => by simp only [List.cons_append, wtXs, wtXs_snoc r t]; omega
theorem wtXs_take {l : List Exp} {k : Nat} (h : k < l.length) : wtXs (l.take (k + 1)) = wtXs (l.take k) + wtX l[k] := by
  rw [take_snoc' l k h, wtXs_snoc]
theorem ShortXs_snoc : ∀ (l : List Exp) (t : Exp), ShortXs l → ShortX t → ShortXs (l ++ [t])
  | [], t, _, h => by simp only [List.nil_append, ShortXs]; exact ⟨h, trivial⟩
  | a :: r, t, h1, h2 => by simp only [List.cons_append, ShortXs] at h1 ⊢; exact ⟨h1.1, ShortXs_snoc r t h1.2 h2⟩
theorem ShortXs_take {l : List Exp} {k : Nat} (h : k < l.length) (h1 : ShortXs (l.take k)) (h2 : ShortX l[k]) : ShortXs (l.take (k + 1)) := by
  rw [take_snoc' l k h]; exact ShortXs_snoc _ _ h1 h2
theorem ShortXs.kid : ∀ {l : List Exp} {k : Nat} (h : k < l.length), ShortXs l → ShortX l[k]
  | t :: r, 0, _, h => by simp only [ShortXs] at h; exact h.1
  | t :: r, k + 1, hk, h => by
    simp only [ShortXs] at h
    exact ShortXs.kid (l := r) (k := k) (by simpa using hk) h.2
mutual
theorem bulk_wtX : ∀ t : Exp, ShortX t → t.bulk ≤ 40 * wtX t
  | .mk o t kids, h => by
    simp only [ShortX] at h
    have := bulk_wtXs kids h.2.2
    simp only [Exp.bulk, wtX]; omega
theorem bulk_wtXs : ∀ l : List Exp, ShortXs l → bulkX l ≤ 40 * wtXs l
  | [], _ => by simp [bulkX]
  | t :: r, h => by
    simp only [ShortXs] at h
    have := bulk_wtX t h.1
    have := bulk_wtXs r h.2
    simp only [bulkX, wtXs]; omega
end
/-- Some number; where it is not below nought, so much has been taken off. -/
def RoomX (left : Int) (t : Exp) (w : World) (e : Ending) (w' : World) : Prop := (∃ m : Int, e = .returned (.int .i64 m) ∧ -1125899906842624 ≤ m ∧ m ≤ 400 ∧ (0 ≤ m → (wtX t : Int) ≤ left - m ∧ ShortX t)) ∧ Below w.heap.size w w'

set_option maxHeartbeats 4000000 in
set_option maxRecDepth 100000 in
theorem roomX_step (n : Nat) (IH : ∀ (t : Exp), t.bulk ≤ n → FitX t → ∀ (dp left : Int) (w : World) (cs : List Value), ExpAt w t cs → 0 ≤ dp ∧ dp ≤ 201 → 0 ≤ left ∧ left ≤ 400 →
      Calls Tryz.prog 40 #[.agg cs.toArray, .int .i64 dp, .int .i64 left] w (RoomX left t w))
    (op text : ByteArray) (kids : List Exp)
    (h : (Exp.mk op text kids).bulk ≤ n + 1) (hf : FitX (Exp.mk op text kids))
    (dp left : Int) (w : World) (cs : List Value) (hv : ExpAt w (.mk op text kids) cs) (hdp : 0 ≤ dp ∧ dp ≤ 201) (hleft : 0 ≤ left ∧ left ≤ 400) :
    Calls Tryz.prog 40 #[.agg cs.toArray, .int .i64 dp, .int .i64 left] w (RoomX left (.mk op text kids) w) := by
  have hkb : bulkX kids ≤ n := by simp only [Exp.bulk] at h; omega
  simp only [FitX] at hf
  obtain ⟨hf1, hf2, hf3, hf5⟩ := hf
  obtain ⟨W, hW⟩ : ∃ W, W = wtX (.mk op text kids) := ⟨_, rfl⟩
  have hW2 : W = 1 + text.size / 20 + wtXs kids := hW
  obtain ⟨SS, hSS⟩ : ∃ SS, SS = ShortX (.mk op text kids) := ⟨_, rfl⟩
  have hS2 : SS = (op.size ≤ 20 ∧ text.size ≤ 500 ∧ ShortXs kids) := by rw [hSS]; simp only [ShortX]
  unfold RoomX
  rw [← hW, ← hSS]
  have HW := Lib.hid hW2
  have HS := Lib.hid hS2
  clear hW hW2 hSS hS2
  simp only [ExpAt] at hv
  obtain ⟨a, cap, rfl, hl, hm, hnil, hx⟩ := hv
  have hll := len_bulkX kids
  unfold maxLen at hm
  clear h
  have hx0 := Cells.new w #[.string op, .string text, .slice a kids.length cap] 30
  have hb0 : Below w.heap.size w (w.alloc (.cells #[.string op, .string text, .slice a kids.length cap] 30)) := (Below.refl _ w).alloc (Nat.le_refl _) _
  by_cases hbad : 200 < dp ∨ (dp ≤ 200 ∧ 500 < text.size) ∨ (dp ≤ 200 ∧ text.size ≤ 500 ∧ 20 < op.size)
  · rcases hbad with hbad | hbad | hbad
    all_goals
      go_enter Tryz.func40, Tryz.ntmps40
      go_wp2
      go_ret
      exact ⟨⟨_, rfl, by omega, by omega, fun h => by omega⟩, hb0⟩
  · have hok : dp ≤ 200 ∧ text.size ≤ 500 ∧ op.size ≤ 20 := by omega
    clear hbad
    have HOK := Lib.hid hok
    go_enter Tryz.func40, Tryz.ntmps40
    go_wp2_with fail
    go_loopw [2, 7] (fun lv i wr => ∃ (k : Nat) (m : Int), k ≤ kids.length ∧ i = .int .i64 (k : Int) ∧ lv = .int .i64 m ∧ -1125899906842624 ≤ m ∧ m ≤ 400 ∧ (0 ≤ m → m + 1 + (text.size / 20 : Nat) + wtXs (kids.take k) ≤ left ∧ ShortXs (kids.take k)) ∧ Below w.heap.size w wr ∧ Cells wr w.heap.size #[.string op, .string text, .slice a kids.length cap] 30) (fun _ i _ => kids.length - (intOf i).toNat)
    case atStart => exact ⟨0, _, Nat.zero_le _, rfl, rfl, by omega, by omega, (fun _ => by
      simp only [List.take_zero, wtXs, ShortXs]
      exact ⟨by omega, trivial⟩), hb0, hx0⟩
    case round =>
      clear hb0 hx0
      obtain ⟨k, m, hkk, rfl, rfl, hm1, hm2, hm3, hb, hX⟩ := hrel
      have HM3 := Lib.hid hm3
      clear hm3
      have hXl := hX.lt
      have hXc0 := hX.cell 0 _ rfl
      have hXf0 := hX.frozen 0
      have hXc1 := hX.cell 1 _ rfl
      have hXf1 := hX.frozen 1
      have hXc2 := hX.cell 2 _ rfl
      have hXf2 := hX.frozen 2
      by_cases hgo : k < kids.length ∧ 0 ≤ m
      · obtain ⟨hkl, hm0⟩ := hgo
        have hne : kids ≠ [] := by intro h0; rw [h0] at hkl; simp at hkl
        cases a with
        | none => have := hnil rfl; omega
        | some x =>
          obtain ⟨bb, off, sp⟩ := x
          obtain ⟨rfl, hlt, hkids⟩ := hx _ rfl hne
          simp only at hlt hkids
          obtain ⟨kc0, hkc, hkv⟩ := ExpsAt.get (ExpsAt.below hb hlt kids _ hkids) k hkl
          obtain ⟨kop, ktext, ksa, ksn, ksc, rfl, m0, m1, m2⟩ := exp_at hkv hkc
          have hkbk := bulkX_kid hkl
          have hIH := IH kids[k] (by omega) (FitX.kid hkl hf5) (dp + 1) m wr _ hkv (by omega) (by omega)
          have HKT := Lib.hid (wtXs_take hkl)
          have HST := Lib.hid (ShortXs_take hkl)
          generalize kids[k] = kid at *
          go_wp2_with fail
          refine hIH.mono ?_
          clear hIH hkv hkc
          rintro e w2 ⟨⟨m', rfl, g1, g2, g3⟩, hb2⟩
          have HG3 := Lib.hid g3
          clear g3
          have hb3 := hb.trans (hb2.mono hb.size)
          have hX2 := hX.below hb2 hXl
          clear hXc0 hXc1 hXc2 hXf0 hXf1 hXf2
          go_wp2
          go_roundw
          case rel => exact ⟨k + 1, m', hkl, by go_num, rfl, g1, g2, (fun h => by have h1 := HM3.out (by omega); have h2 := HG3.out h; have := HKT.out; exact ⟨by omega, HST.out h1.2 h2.2⟩), hb3, hX2⟩
          case measure => simp [intOf]; omega
      · have hend : k = kids.length ∨ (k < kids.length ∧ m < 0) := by omega
        clear hgo
        rcases hend with rfl | ⟨hkl, hm0⟩
        · go_wp2
          go_ret
          exact ⟨⟨_, rfl, by omega, by omega, fun h => by
            have h1 := HM3.out h
            rw [List.take_length] at h1
            have := HW.out
            refine ⟨by omega, ?_⟩
            rw [HS.out]
            exact ⟨HOK.out.2.2, HOK.out.2.1, h1.2⟩⟩, hb⟩
        · go_wp2
          go_ret
          exact ⟨⟨_, rfl, by omega, by omega, fun h => by omega⟩, hb⟩

theorem roomX_any (n : Nat) : ∀ (t : Exp), t.bulk ≤ n → FitX t → ∀ (dp left : Int) (w : World) (cs : List Value), ExpAt w t cs → 0 ≤ dp ∧ dp ≤ 201 → 0 ≤ left ∧ left ≤ 400 →
    Calls Tryz.prog 40 #[.agg cs.toArray, .int .i64 dp, .int .i64 left] w (RoomX left t w) := by
  induction n with
  | zero => intro t h; have := bulkX_pos t; omega
  | succ n IH =>
    intro t h hmax dp left w cs hv hdp hleft
    cases t with
    | mk op text kids => exact roomX_step n IH op text kids h hmax dp left w cs hv hdp hleft

set_option maxHeartbeats 4000000 in
set_option maxRecDepth 100000 in
theorem GreatX_any (t : Exp) (hf : FitX t) (w : World) (cs : List Value) (hv : ExpAt w t cs) :
    Calls Tryz.prog 18 #[.agg cs.toArray] w fun e w' => (∃ b, e = .returned (.bool b) ∧ (b = false → wtX t ≤ 300 ∧ ShortX t)) ∧ Below w.heap.size w w' := by
  have hR := fun w cs hv => roomX_any t.bulk t (Nat.le_refl _) hf 0 300 w cs hv (by omega) (by omega)
  obtain ⟨op, text, sa, sn, sc, rfl⟩ := hv.shape
  have hv1 := hv.below_alloc (.cells #[.string op, .string text, .slice sa sn sc] 30)
  have hR1 := hR _ _ hv1
  clear hv hv1 hR hf
  go_enter Tryz.func18, Tryz.ntmps18
  go_wp2_with fail
  refine hR1.mono ?_
  rintro e w2 ⟨⟨m', rfl, g1, g2, g3⟩, hb2⟩
  have HG3 := Lib.hid g3
  clear g3 hR1
  go_wp2
  go_ret
  exact ⟨⟨_, rfl, fun h => by have h2 := of_decide_eq_false h; have h3 := HG3.out (by omega); exact ⟨by omega, h3.2⟩⟩, ((Below.refl _ w).alloc (Nat.le_refl _) _).trans (hb2.mono (by simp))⟩
theorem smallX {t : Exp} (h : wtX t ≤ 300 ∧ ShortX t) : t.bulk ≤ 12000 := by have := bulk_wtX t h.2; omega
end Go.Proofs.YtjlikcfabekhlaaGreatDoor

/- Any two expressions are the same just if all parts of theirs are (layer 12). -/
namespace Go.Proofs.YtjlikcfabekhlaaGreatDoor
open Go.RowKit Go.Tab

theorem vX_list (cs : Array Value) : vX cs.toList = .agg cs := by simp [vX]
end Go.Proofs.YtjlikcfabekhlaaGreatDoor
