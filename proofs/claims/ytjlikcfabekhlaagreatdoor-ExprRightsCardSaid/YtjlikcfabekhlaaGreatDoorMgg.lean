/- Texts of this claim, one behind the other: NuU, NuS, NuT, NuV, LxC, LxN, LxD, LxR, NuX, NumB. -/
import Derived.Test.YtjlikcfabekhlaaGreatDoorMga
import Derived.Test.YtjlikcfabekhlaaGreatDoorMgb
import Derived.Test.YtjlikcfabekhlaaGreatDoorMgc
import Derived.Test.YtjlikcfabekhlaaGreatDoorMgd
import Derived.Test.YtjlikcfabekhlaaGreatDoorMgf
import Derived.Lib.IndexAny
import Derived.Lib.Bytealg
import Derived.Lib.LaidTab
import Derived.IntWalk
import Derived.Lib.IndexLaws
import Derived.Lib.IndexMore
import Derived.Shelf.Strings.SlTrimAscii
set_option linter.unusedSimpArgs false
set_option linter.unusedVariables false

/- What Parse finds in a number's text (layer 6), plain. -/
namespace Go.Proofs.YtjlikcfabekhlaaGreatDoor

theorem idxAny_none {ch : Bs} : ∀ {l : Bs}, (∀ x ∈ l, ch.contains x = false) → Lib.indexAny l ch = -1
  | [], _ => rfl
  | b :: l, h => by
    rw [Lib.indexAny, h b (List.mem_cons_self ..), idxAny_none (fun x hx => h x (List.mem_cons_of_mem _ hx))]
    rfl
theorem idxAny_at {ch : Bs} {m : UInt8} {t : Bs} (hm : ch.contains m = true) : ∀ {l : Bs}, (∀ x ∈ l, ch.contains x = false) → Lib.indexAny (l ++ m :: t) ch = l.length
  | [], _ => by rw [List.nil_append, Lib.indexAny, if_pos hm]; rfl
  | b :: l, h => by
    rw [List.cons_append, Lib.indexAny, h b (List.mem_cons_self ..), idxAny_at hm (fun x hx => h x (List.mem_cons_of_mem _ hx))]
    have : (((l.length : Nat) : Int) == -1) = false := by rw [beq_eq_false_iff_ne]; omega
    rw [this]
    simp
theorem idxB_none {c : UInt8} : ∀ {l : Bs}, (∀ x ∈ l, x ≠ c) → Lib.indexByte l c = -1
  | [], _ => rfl
  | b :: l, h => by
    have h1 : (b == c) = false := by rw [beq_eq_false_iff_ne]; exact h b (List.mem_cons_self ..)
    rw [Lib.indexByte, h1, idxB_none (fun x hx => h x (List.mem_cons_of_mem _ hx))]
    rfl
theorem idxB_at {c : UInt8} {t : Bs} : ∀ {l : Bs}, (∀ x ∈ l, x ≠ c) → Lib.indexByte (l ++ c :: t) c = l.length
  | [], _ => by rw [List.nil_append, Lib.indexByte, if_pos (by simp)]; rfl
  | b :: l, h => by
    have h1 : (b == c) = false := by rw [beq_eq_false_iff_ne]; exact h b (List.mem_cons_self ..)
    rw [List.cons_append, Lib.indexByte, h1, idxB_at (fun x hx => h x (List.mem_cons_of_mem _ hx))]
    have : (((l.length : Nat) : Int) == -1) = false := by rw [beq_eq_false_iff_ne]; omega
    rw [this]
    simp
/-- The digits, with their point. -/
def frontT (ip fr : Bs) : Bs := ip ++ (if fr = [] then [] else 46 :: fr)
section
variable {l : Bs} {neg : Bool} {ip fr mk sg pw : Bs}
theorem NumTxt.eq' (h : NumTxt l neg ip fr mk sg pw) : l = (if neg then [45] else []) ++ (frontT ip fr ++ (mk ++ (sg ++ pw))) := by
  rw [frontT, List.append_assoc]; exact h.eq
theorem NumTxt.front_mem (h : NumTxt l neg ip fr mk sg pw) {x : UInt8} (hx : x ∈ frontT ip fr) : dg x = true ∨ x = 46 := by
  rw [frontT, List.mem_append] at hx
  rcases hx with hx | hx
  · exact .inl (List.all_eq_true.1 h.dip x hx)
  · by_cases hf : fr = []
    · rw [if_pos hf] at hx; simp at hx
    · rw [if_neg hf] at hx
      rcases List.mem_cons.1 hx with rfl | hx
      · exact .inr rfl
      · exact .inl (List.all_eq_true.1 h.dfr x hx)
theorem NumTxt.front_any (h : NumTxt l neg ip fr mk sg pw) : ∀ x ∈ frontT ip fr, ([101, 69] : Bs).contains x = false := by
  intro x hx
  have h3 : x ≠ 101 ∧ x ≠ 69 := by
    rcases h.front_mem hx with h1 | rfl
    · exact ⟨dg_ne h1 (by decide), dg_ne h1 (by decide)⟩
    · decide
  simp [h3.1, h3.2]
theorem NumTxt.cut (h : NumTxt l neg ip fr mk sg pw) : Lib.hasPrefix l [45] = neg ∧ Lib.trimPrefix l [45] = frontT ip fr ++ (mk ++ (sg ++ pw)) := by
  have he := h.eq'
  have hm : neg = false → Lib.hasPrefix l [45] = false := by
    intro hn
    subst hn
    rw [he]
    have hi := h.ip0
    have hd := h.dip
    rw [frontT]
    cases ip with
    | nil => exact absurd rfl hi
    | cons c p =>
      have hc := all_head hd (c := c) rfl
      show ([45] : Bs).isPrefixOf (c :: _) = false
      have : ((45 : UInt8) == c) = false := by rw [beq_eq_false_iff_ne]; exact (dg_ne hc (by decide)).symm
      simp [List.isPrefixOf, this]
  cases neg with
  | true =>
    have : Lib.hasPrefix l [45] = true := by rw [he]; rfl
    exact ⟨this, by rw [Lib.trimPrefix, if_pos this, he]; rfl⟩
  | false =>
    have := hm rfl
    exact ⟨this, by rw [Lib.trimPrefix, this, he]; rfl⟩
theorem NumTxt.mark_none (h : NumTxt l neg ip fr mk sg pw) (hm : mk = []) : Lib.indexAny (frontT ip fr ++ (mk ++ (sg ++ pw))) [101, 69] = -1 ∧ frontT ip fr ++ (mk ++ (sg ++ pw)) = frontT ip fr ∧ powP sg pw = 0 := by
  rcases h.exp with ⟨rfl, rfl, rfl⟩ | ⟨hm2, _, _⟩
  · simp only [List.append_nil]
    exact ⟨idxAny_none h.front_any, trivial, rfl⟩
  · subst hm; simp at hm2
theorem NumTxt.mark_some (h : NumTxt l neg ip fr mk sg pw) (hm : mk ≠ []) : Lib.indexAny (frontT ip fr ++ (mk ++ (sg ++ pw))) [101, 69] = (frontT ip fr).length ∧ (∃ m, mk = [m]) ∧ (sg = [] ∨ sg = [43] ∨ sg = [45]) ∧ pw ≠ [] := by
  rcases h.exp with ⟨rfl, _, _⟩ | ⟨hm2, hs, hp⟩
  · exact absurd rfl hm
  · rcases hm2 with rfl | rfl
    · exact ⟨idxAny_at rfl h.front_any, ⟨_, rfl⟩, hs, hp⟩
    · exact ⟨idxAny_at rfl h.front_any, ⟨_, rfl⟩, hs, hp⟩
theorem NumTxt.point_none (h : NumTxt l neg ip fr mk sg pw) (hf : fr = []) : Lib.indexByte (frontT ip fr) 46 = -1 ∧ frontT ip fr = ip ++ fr := by
  subst hf
  have : frontT ip [] = ip := by simp [frontT]
  rw [this]
  exact ⟨idxB_none (fun x hx => dg_ne (List.all_eq_true.1 h.dip x hx) (by decide)), by simp⟩
theorem NumTxt.point_some (h : NumTxt l neg ip fr mk sg pw) (hf : fr ≠ []) : Lib.indexByte (frontT ip fr) 46 = ip.length ∧ frontT ip fr = ip ++ 46 :: fr := by
  have : frontT ip fr = ip ++ 46 :: fr := by rw [frontT, if_neg hf]
  rw [this]
  exact ⟨idxB_at (fun x hx => dg_ne (List.all_eq_true.1 h.dip x hx) (by decide)), rfl⟩
theorem NumTxt.len (h : NumTxt l neg ip fr mk sg pw) : ip.length + fr.length ≤ l.length ∧ (frontT ip fr ++ (mk ++ (sg ++ pw))).length ≤ l.length ∧ (frontT ip fr).length ≤ l.length ∧ (fr ≠ [] → (frontT ip fr).length = ip.length + fr.length + 1) := by
  have he := congrArg List.length h.eq'
  have hf : (frontT ip fr).length = ip.length + (if fr = [] then 0 else fr.length + 1) := by
    rw [frontT, List.length_append]
    split <;> simp
  rw [List.length_append] at he
  have h2 : (frontT ip fr ++ (mk ++ (sg ++ pw))).length = (frontT ip fr).length + (mk ++ (sg ++ pw)).length := by rw [List.length_append]
  refine ⟨?_, by omega, by omega, fun h3 => ?_⟩
  · by_cases hfr : fr = []
    · subst hfr; simp at hf ⊢; omega
    · rw [if_neg hfr] at hf; omega
  · rw [hf, if_neg h3]; omega
theorem NumTxt.ascii (h : NumTxt l neg ip fr mk sg pw) : ∀ x ∈ frontT ip fr ++ (mk ++ (sg ++ pw)), x.toNat < 128 := by
  have hall : ∀ {a : Bs}, a.all dg = true → ∀ x ∈ a, x.toNat < 128 := fun ha x hx => by have := dg_lt (List.all_eq_true.1 ha x hx); omega
  intro x hx
  rcases List.mem_append.1 hx with hx | hx
  · rcases h.front_mem hx with h1 | rfl
    · have := dg_lt h1; omega
    · decide
  · rcases List.mem_append.1 hx with hx | hx
    · rcases h.exp with ⟨rfl, rfl, rfl⟩ | ⟨hm, hs, hp⟩
      · simp at hx
      · rcases hm with rfl | rfl <;> (simp at hx; subst hx; decide)
    · rcases List.mem_append.1 hx with hx | hx
      · rcases h.exp with ⟨rfl, rfl, rfl⟩ | ⟨hm, hs, hp⟩
        · simp at hx
        · rcases hs with rfl | rfl | rfl
          · simp at hx
          · simp at hx; subst hx; decide
          · simp at hx; subst hx; decide
      · exact hall h.dpw x hx
end
end Go.Proofs.YtjlikcfabekhlaaGreatDoor

/- The walk of Scan (layer 6), this side's: the automaton over its table of steps. -/
namespace Go.Proofs.YtjlikcfabekhlaaGreatDoor
open Go.RowKit Go.Tab

/-- The table of steps, as the program lays it. -/
def TabS (w : World) : Prop := ∀ j : Nat, j < 63 → w.cell? ⟨3, j, none⟩ = some (.int .i64 (stepsN.getD j 9 : Nat))
theorem TabS.below {w w' : World} {B : Nat} (h : TabS w) (hb : Below B w w') (hB : 3 < B) : TabS w' := fun j hj => (hb.cell hB).trans (h j hj)
theorem TabS.pos {w : World} (h : TabS w) : 3 < w.heap.size := World.block_lt_of_cell? w _ (h 0 (by decide))

theorem u8_nb {c : UInt8} {n : UInt8} (h : c ≠ n) {m : Int} (hm : (n.toNat : Int) = m) : ((c.toNat : Int) == m) = false := by
  rw [beq_eq_false_iff_ne, ← hm]
  exact fun e => h (UInt8.toNat_inj.1 (by omega))
set_option maxHeartbeats 2000000 in
set_option maxRecDepth 100000 in
theorem signOf_any (c : UInt8) (w : World) : Calls Tryz.prog 161 #[.int .u8 c.toNat] w fun e w' => e = .returned (.int .i64 (signN c : Nat)) ∧ w = w' := by
  unfold signN
  by_cases h1 : c = 45
  · subst h1
    go_enter Tryz.func161, Tryz.ntmps161
    go_wp2
    go_ret
    exact ⟨rfl, rfl⟩
  have d1 := u8_nb h1 (m := 45) rfl
  by_cases h2 : c = 43
  · subst h2
    go_enter Tryz.func161, Tryz.ntmps161
    go_wp2
    go_ret
    exact ⟨rfl, rfl⟩
  have d2 := u8_nb h2 (m := 43) rfl
  by_cases h3 : c = 48
  · subst h3
    go_enter Tryz.func161, Tryz.ntmps161
    go_wp2
    go_ret
    exact ⟨rfl, rfl⟩
  have d3 := u8_nb h3 (m := 48) rfl
  rw [if_neg h1, if_neg h2, if_neg h3]
  by_cases h4 : 49 ≤ c.toNat ∧ c.toNat ≤ 57
  · rw [if_pos h4]
    go_enter Tryz.func161, Tryz.ntmps161
    go_wp2
    go_ret
    exact ⟨rfl, rfl⟩
  rw [if_neg h4]
  have H4 : c.toNat < 49 ∨ (49 ≤ c.toNat ∧ 57 < c.toNat) := by omega
  clear h4
  by_cases h5 : c = 46
  · subst h5
    clear H4
    go_enter Tryz.func161, Tryz.ntmps161
    go_wp2
    go_ret
    exact ⟨rfl, rfl⟩
  have d5 := u8_nb h5 (m := 46) rfl
  rw [if_neg h5]
  by_cases h6 : c = 101
  · subst h6
    clear H4
    go_enter Tryz.func161, Tryz.ntmps161
    go_wp2
    go_ret
    exact ⟨rfl, rfl⟩
  by_cases h7 : c = 69
  · subst h7
    clear H4
    go_enter Tryz.func161, Tryz.ntmps161
    go_wp2
    go_ret
    exact ⟨rfl, rfl⟩
  have d6 := u8_nb h6 (m := 101) rfl
  have d7 := u8_nb h7 (m := 69) rfl
  rw [if_neg (by simp [h6, h7])]
  clear h1 h2 h3 h5 h6 h7
  rcases H4 with h4 | ⟨h4, h8⟩
  all_goals
    go_enter Tryz.func161, Tryz.ntmps161
    go_wp2
    go_ret
    exact ⟨rfl, rfl⟩

theorem whole_yes (st : Nat) (w : World) (h : wholeB st = true) : Calls Tryz.prog 162 #[.int .i64 st] w fun e w' => e = .returned (.bool true) ∧ w = w' := by
  have h1 : st = 2 ∨ st = 3 ∨ st = 5 ∨ st = 8 := by simpa [wholeB] using h
  clear h
  rcases h1 with rfl | rfl | rfl | rfl
  all_goals
    go_enter Tryz.func162, Tryz.ntmps162
    go_wp2
    go_ret
    exact ⟨rfl, rfl⟩
theorem whole_no (st : Nat) (w : World) (h : wholeB st = false) (hs : st < 9) : Calls Tryz.prog 162 #[.int .i64 st] w fun e w' => e = .returned (.bool false) ∧ w = w' := by
  have h1 : st = 0 ∨ st = 1 ∨ st = 4 ∨ st = 6 ∨ st = 7 := by
    have h2 : ¬ (st = 2 ∨ st = 3 ∨ st = 5 ∨ st = 8) := by
      intro h3
      have : wholeB st = true := by simpa [wholeB] using h3
      rw [h] at this; cases this
    omega
  clear h hs
  rcases h1 with rfl | rfl | rfl | rfl | rfl
  all_goals
    go_enter Tryz.func162, Tryz.ntmps162
    go_wp2
    go_ret
    exact ⟨rfl, rfl⟩
theorem stepN_le : ∀ st : Fin 9, ∀ sg : Fin 7, stepN st.val sg.val ≤ 9 := by decide
theorem signN_lt (c : UInt8) : signN c < 7 := by cases sort6 c <;> omega
theorem drop_at {s : ByteArray} {k : Nat} (h : k < s.size) : s.data.toList.drop k = s[k]'h :: s.data.toList.drop (k + 1) := by
  rw [List.drop_eq_getElem_cons (by simpa using h)]
  rfl

set_option maxHeartbeats 4000000 in
set_option maxRecDepth 100000 in
theorem Scan_any (s : ByteArray) (w : World) (hT : TabS w) (hs : s.size ≤ maxLen) :
    Calls Tryz.prog 144 #[.string s] w fun e w' => e = .returned (.int .i64 (scanN s.data.toList : Nat)) ∧ ∃ n, w' = w.drewN n := by
  unfold maxLen at hs
  go_enter Tryz.func144, Tryz.ntmps144
  go_wp2_with fail
  go_loopw [3, 4, 8] (fun g t i wr => ∃ k st L : Nat, k ≤ s.size ∧ i = .int .i64 k ∧ t = .int .i64 st ∧ g = .int .i64 L ∧ st < 9 ∧ autoS st k L (s.data.toList.drop k) = scanN s.data.toList ∧ ∃ n, wr = w.drewN n) (fun _ _ i _ => s.size - (intOf i).toNat)
  case atStart => exact ⟨0, 0, 0, Nat.zero_le _, rfl, rfl, rfl, by decide, auto_scan _, 0, rfl⟩
  case round =>
    obtain ⟨k, st, L, hk, rfl, rfl, rfl, hst, ha, n, rfl⟩ := hrel
    have HA := Lib.hid ha
    clear ha
    by_cases hlt : k < s.size
    · have hsg := signN_lt (s[k]'hlt)
      have hF := signOf_any (s[k]'hlt)
      have hi : (st : Int) < 9 := by omega
      have hj : ((signN (s[k]'hlt) : Nat) : Int) < 7 := by omega
      have hc : w.cell? ⟨3, st * 7 + signN (s[k]'hlt), none⟩ = some (.int .i64 (stepN st (signN (s[k]'hlt)) : Nat)) := by rw [Nat.mul_comm]; exact hT _ (by omega)
      have hA := HA.out
      rw [drop_at hlt, auto_cons] at hA
      have hle := stepN_le ⟨st, hst⟩ ⟨_, hsg⟩
      simp only at hle
      generalize signN (s[k]'hlt) = sg at hF hc hA hle hsg hj
      generalize stepN st sg = st' at hc hA hle
      go_wp2_with fail
      by_cases h9 : st' = 9
      · rw [if_pos h9] at hA
        have HL := Lib.hid hA
        have d9 : ((st' : Int) == 9) = true := by rw [beq_iff_eq]; omega
        clear hA h9 hle
        go_quiet (exact (hF _).mono fun _ _ h => ⟨h.1, _, h.2.symm⟩)
        go_wp2
        go_ret
        exact ⟨by rw [← HL.out]; rfl, _, rfl⟩
      · rw [if_neg h9] at hA
        have d9 : ((st' : Int) == 9) = false := by rw [beq_eq_false_iff_ne]; omega
        have hlt9 : st' < 9 := by omega
        clear h9 hle
        by_cases hw : wholeB st' = true
        · rw [if_pos hw] at hA
          have HL := Lib.hid hA
          have hW := fun W => whole_yes st' W hw
          clear hA hw
          go_quiet (exact (hF _).mono fun _ _ h => ⟨h.1, _, h.2.symm⟩)
          go_wp2_with ((with_reducible refine (hW _).mono ?_); rintro _ _ ⟨rfl, rfl⟩)
          go_roundw
          case rel => exact ⟨k + 1, st', k + 1, by omega, by go_num, rfl, by go_num, hlt9, HL.out, _, rfl⟩
          case measure => simp [intOf]; omega
        · have hw' : wholeB st' = false := by simpa using hw
          rw [if_neg hw] at hA
          have HL := Lib.hid hA
          have hW := fun W => whole_no st' W hw' hlt9
          clear hA hw hw'
          go_quiet (exact (hF _).mono fun _ _ h => ⟨h.1, _, h.2.symm⟩)
          go_wp2_with ((with_reducible refine (hW _).mono ?_); rintro _ _ ⟨rfl, rfl⟩)
          go_roundw
          case rel => exact ⟨k + 1, st', L, by omega, by go_num, rfl, rfl, hlt9, HL.out, _, rfl⟩
          case measure => simp [intOf]; omega
    · obtain rfl : k = s.size := by omega
      have hl : s.data.toList.drop s.size = [] := by
        rw [List.drop_eq_nil_iff]; exact Nat.le_refl _
      have hA := HA.out
      rw [hl] at hA
      have HL := Lib.hid (show L = scanN s.data.toList from hA)
      clear hA HA hl
      go_wp2
      go_ret
      exact ⟨by rw [← HL.out]; rfl, _, rfl⟩
end Go.Proofs.YtjlikcfabekhlaaGreatDoor

/- The walk of powerOf (layer 6): a power's digits, up to a bound. -/
namespace Go.Proofs.YtjlikcfabekhlaaGreatDoor
open Go.RowKit Go.Tab

theorem foldP_lt : ∀ (l : Bs) (n : Nat), n ≤ 1099511627776 → l.foldl addP n ≤ 1099511627776
  | [], _, h => h
  | c :: l, n, _ => by
    rw [List.foldl_cons]
    exact foldP_lt l _ (Nat.min_le_right _ _)
theorem foldl_take {α β : Type} (f : α → β → α) (a : α) (l : List β) {k : Nat} (h : k < l.length) : (l.take (k + 1)).foldl f a = f ((l.take k).foldl f a) l[k] := by
  rw [List.take_add_one, List.getElem?_eq_getElem h, List.foldl_append]
  rfl

theorem neg_end (pw : Bs) (n : Nat) (h : pw.foldl addP 0 ≤ n) (hn : n ≤ 1099511627776 := by omega) : Ending.returned (Value.int .i64 (wrap64 (-((pw.foldl addP 0 : Nat) : Int)))) = Ending.returned (Value.int .i64 (powP [45] pw)) := by
  rw [powP, sgn, if_pos rfl]
  congr 2
  unfold wrap64
  omega



set_option maxHeartbeats 4000000 in
set_option maxRecDepth 100000 in
theorem powerOf_any (S : ByteArray) (sg pw : Bs) (w : World) (hS : S.data.toList = sg ++ pw) (hsg : sg = [] ∨ sg = [43] ∨ sg = [45]) (hd : pw.all dg = true) (h0 : pw ≠ []) (hl : S.size ≤ 1048576) :
    Calls Tryz.prog 165 #[.string S] w fun e w' => e = .returned (.int .i64 (powP sg pw)) ∧ w = w' := by
  have hdp := Lib.hid hd
  have hz : 0 < pw.length := List.length_pos_iff.2 h0
  have hs0 := size_list S
  rw [hS, List.length_append] at hs0
  rcases hsg with rfl | rfl | rfl
  · have hRs : Hid (S.size = pw.length) := Lib.hid (by simpa using hs0)
    have hpos : 0 < S.size := by rw [hRs.out]; exact hz
    have hRg : ∀ k (h1 : k < S.size) (h2 : k < pw.length), S[k]'h1 = pw[k] := fun k h1 h2 => by
      rw [get_list]
      have := congrArg (fun l => l[k]?) hS
      simp only [List.nil_append] at this
      rw [List.getElem?_eq_getElem h2, List.getElem?_eq_getElem (by rw [← size_list]; exact h1)] at this
      exact Option.some.inj this
    have HR := Lib.hid hRg
    clear hRg
    have h1 := HR.out 0 hpos hz
    have h2 := dg_lt (List.all_eq_true.1 hd pw[0] (List.getElem_mem _))
    have d1 : (((S[0]'hpos).toNat : Int) == 45) = false := by rw [h1, beq_eq_false_iff_ne]; omega
    have d2 : (((S[0]'hpos).toNat : Int) == 43) = false := by rw [h1, beq_eq_false_iff_ne]; omega
    clear h1 h2 hd h0 hs0 hS
    go_enter Tryz.func165, Tryz.ntmps165
    go_wp2_with fail
    go_loop [4, 19] (fun n i => ∃ k : Nat, k ≤ S.size ∧ i = .int .i64 k ∧ n = .int .i64 ((pw.take k).foldl addP 0 : Nat)) (fun _ i => S.size - (intOf i).toNat)
    case atStart => exact ⟨0, Nat.zero_le _, rfl, rfl⟩
    case round =>
      obtain ⟨k, hk, rfl, rfl⟩ := hrel
      by_cases hlt : k < S.size
      · have hkp : k < pw.length := by rw [← hRs.out]; exact hlt
        have hb := foldP_lt (pw.take k) 0 (by omega)
        have hf := Lib.hid (foldl_take addP 0 pw hkp)
        have hg : S[k]'hlt = pw[k] := HR.out k hlt hkp
        have hd := dg_lt (List.all_eq_true.1 hdp.out pw[k] (List.getElem_mem _))
        have hF : Hid (addP ((pw.take k).foldl addP 0) pw[k] = (pw.take (k + 1)).foldl addP 0) := Lib.hid hf.out.symm
        clear hf
        generalize (pw.take k).foldl addP 0 = m at hb hF ⊢
        generalize pw[k] = c at hg hd hF
        clear hkp
        go_wp2
        go_round
        case rel => exact ⟨k + 1, by omega, by go_num, by rw [← hF.out]; congr 1; unfold addP; omega⟩
        case measure => simp [intOf]; omega
      · obtain rfl : k = S.size := by omega
        have hf : Hid (pw.take S.size = pw) := Lib.hid (by rw [hRs.out]; exact List.take_length)
        go_wp2
        go_ret
        refine ⟨?_, rfl⟩
        rw [hf.out]
        rfl
  · have hpos : 0 < S.size := by rw [hs0]; simp; omega
    have hfst : S[0]'hpos = 43 := by
      rw [get_list]
      have := congrArg (fun l => l[0]?) hS
      rw [List.singleton_append] at this
      simp only [List.getElem?_cons_zero] at this
      rw [List.getElem?_eq_getElem (by rw [← size_list]; exact hpos)] at this
      exact Option.some.inj this
    obtain ⟨R, hR⟩ : ∃ R, S.extract 1 S.size = R := ⟨_, rfl⟩
    have hRl : R.data.toList = pw := by
      rw [← hR, ext_list, size_list, List.take_length, hS]; rfl
    have hRs : Hid (R.size = pw.length) := Lib.hid (by rw [size_list, hRl])
    have hle : R.size ≤ 1048576 := by rw [hRs.out]; simp at hs0; omega
    have hsz : S.size = R.size + 1 := by rw [hRs.out, hs0]; simp; omega
    have HR : Hid (∀ k (h1 : k < R.size) (h2 : k < pw.length), R[k]'h1 = pw[k]) := Lib.hid (fun k h1 h2 => by
      subst hRl; rfl)
    have HS := Lib.hid hsz
    have h1S : 1 ≤ S.size := by omega
    have d1 : (((S[0]'hpos).toNat : Int) == 45) = decide (43 = 45) := by rw [hfst]; rfl
    have d2 : (((S[0]'hpos).toNat : Int) == 43) = decide (43 = 43) := by rw [hfst]; rfl
    have hlen : S.size - 1 = R.size := by omega
    clear hd h0 hs0 hS hfst hRl hsz
    go_enter Tryz.func165, Tryz.ntmps165
    go_wp2_with fail
    go_loop [4, 19] (fun n i => ∃ k : Nat, k ≤ R.size ∧ i = .int .i64 k ∧ n = .int .i64 ((pw.take k).foldl addP 0 : Nat)) (fun _ i => R.size - (intOf i).toNat)
    case atStart => exact ⟨0, Nat.zero_le _, rfl, rfl⟩
    case round =>
      obtain ⟨k, hk, rfl, rfl⟩ := hrel
      by_cases hlt : k < R.size
      · have hkp : k < pw.length := by rw [← hRs.out]; exact hlt
        have hb := foldP_lt (pw.take k) 0 (by omega)
        have hf := Lib.hid (foldl_take addP 0 pw hkp)
        have hg : R[k]'hlt = pw[k] := HR.out k hlt hkp
        have hd := dg_lt (List.all_eq_true.1 hdp.out pw[k] (List.getElem_mem _))
        have hF : Hid (addP ((pw.take k).foldl addP 0) pw[k] = (pw.take (k + 1)).foldl addP 0) := Lib.hid hf.out.symm
        clear hf
        generalize (pw.take k).foldl addP 0 = m at hb hF ⊢
        generalize pw[k] = c at hg hd hF
        clear hkp
        go_wp2
        go_round
        case rel => exact ⟨k + 1, by omega, by go_num, by rw [← hF.out]; congr 1; unfold addP; omega⟩
        case measure => simp [intOf]; omega
      · obtain rfl : k = R.size := by omega
        have hf : Hid (pw.take R.size = pw) := Lib.hid (by rw [hRs.out]; exact List.take_length)
        go_wp2
        go_ret
        refine ⟨?_, rfl⟩
        rw [hf.out]
        rfl
  · have hpos : 0 < S.size := by rw [hs0]; simp; omega
    have hfst : S[0]'hpos = 45 := by
      rw [get_list]
      have := congrArg (fun l => l[0]?) hS
      rw [List.singleton_append] at this
      simp only [List.getElem?_cons_zero] at this
      rw [List.getElem?_eq_getElem (by rw [← size_list]; exact hpos)] at this
      exact Option.some.inj this
    obtain ⟨R, hR⟩ : ∃ R, S.extract 1 S.size = R := ⟨_, rfl⟩
    have hRl : R.data.toList = pw := by
      rw [← hR, ext_list, size_list, List.take_length, hS]; rfl
    have hRs : Hid (R.size = pw.length) := Lib.hid (by rw [size_list, hRl])
    have hle : R.size ≤ 1048576 := by rw [hRs.out]; simp at hs0; omega
    have hsz : S.size = R.size + 1 := by rw [hRs.out, hs0]; simp; omega
    have HR : Hid (∀ k (h1 : k < R.size) (h2 : k < pw.length), R[k]'h1 = pw[k]) := Lib.hid (fun k h1 h2 => by
      subst hRl; rfl)
    have HS := Lib.hid hsz
    have h1S : 1 ≤ S.size := by omega
    have d1 : (((S[0]'hpos).toNat : Int) == 45) = decide (45 = 45) := by rw [hfst]; rfl
    have d2 : (((S[0]'hpos).toNat : Int) == 43) = decide (45 = 43) := by rw [hfst]; rfl
    have hlen : S.size - 1 = R.size := by omega
    clear hd h0 hs0 hS hfst hRl hsz
    go_enter Tryz.func165, Tryz.ntmps165
    go_wp2_with fail
    go_loop [4, 19] (fun n i => ∃ k : Nat, k ≤ R.size ∧ i = .int .i64 k ∧ n = .int .i64 ((pw.take k).foldl addP 0 : Nat)) (fun _ i => R.size - (intOf i).toNat)
    case atStart => exact ⟨0, Nat.zero_le _, rfl, rfl⟩
    case round =>
      obtain ⟨k, hk, rfl, rfl⟩ := hrel
      by_cases hlt : k < R.size
      · have hkp : k < pw.length := by rw [← hRs.out]; exact hlt
        have hb := foldP_lt (pw.take k) 0 (by omega)
        have hf := Lib.hid (foldl_take addP 0 pw hkp)
        have hg : R[k]'hlt = pw[k] := HR.out k hlt hkp
        have hd := dg_lt (List.all_eq_true.1 hdp.out pw[k] (List.getElem_mem _))
        have hF : Hid (addP ((pw.take k).foldl addP 0) pw[k] = (pw.take (k + 1)).foldl addP 0) := Lib.hid hf.out.symm
        clear hf
        generalize (pw.take k).foldl addP 0 = m at hb hF ⊢
        generalize pw[k] = c at hg hd hF
        clear hkp
        go_wp2
        go_round
        case rel => exact ⟨k + 1, by omega, by go_num, by rw [← hF.out]; congr 1; unfold addP; omega⟩
        case measure => simp [intOf]; omega
      · obtain rfl : k = R.size := by omega
        have hf : Hid (pw.take R.size = pw) := Lib.hid (by rw [hRs.out]; exact List.take_length)
        go_wp2
        go_ret
        refine ⟨?_, rfl⟩
        rw [hf.out]
        exact neg_end _ _ (foldP_lt pw 0 (by omega))
end Go.Proofs.YtjlikcfabekhlaaGreatDoor

/- The walk of Parse (layer 6), this side's. -/
namespace Go.Proofs.YtjlikcfabekhlaaGreatDoor
open Go.RowKit Go.Tab

set_option maxRecDepth 100000 in
theorem clone_any (s : ByteArray) (w : World) (hs : s.size ≤ 1048576) : Calls Tryz.prog 168 #[.string s] w fun e w' => e = .returned (.string s) ∧ Below w.heap.size w w' := by
  have hF := fun W => Go.Proofs.Tryz.stringslite_Clone s W (by omega)
  go_enter Tryz.func168, Tryz.ntmps168
  go_wp2_with fail
  refine (hF _).mono ?_
  rintro _ w1 ⟨rfl, hb⟩
  go_wp2
  go_ret
  exact ⟨rfl, hb⟩

/-- What Parse hands back. -/
def numOut (r : (Bool × Bs × Int) × Int) : Value := .tuple #[.agg #[.bool r.1.1, .string (strL r.1.2.1), .int .i64 r.1.2.2], .int .i64 r.2]

set_option maxHeartbeats 4000000 in
set_option maxRecDepth 100000 in
theorem Parse_bad (s : ByteArray) (w : World) (hT : TabS w) (hs : s.size ≤ 1048576) (h : s.data.toList = [] ∨ scanN s.data.toList ≠ s.size) :
    Calls Tryz.prog 145 #[.string s] w fun e w' => e = .returned (numOut ((false, [], 0), 3)) ∧ Below w.heap.size w w' := by
  by_cases h0 : s.size = 0
  · have hd : s = ⟨#[]⟩ := emp_of h0
    subst hd
    clear h h0 hs
    go_enter Tryz.func145, Tryz.ntmps145
    go_wp2
    refine bodyPost_ret (v := numOut ((false, [], 0), 3)) (by simp [results, Tryz.results145, go_sem, numOut, strL]) rfl ⟨rfl, ?_⟩
    (repeat' (first | (with_reducible refine Below.setCell ?_ ?_ _) | (with_reducible refine Below.alloc ?_ ?_ _) | (with_reducible refine Below.drew ?_) | (with_reducible refine below_drewN ?_ _) | (with_reducible assumption) | (with_reducible exact Below.refl _ _) | (simp only [World.size_alloc, World.size_setCell, World.size_drew]; done) | (simp only [World.size_alloc, World.size_setCell, World.size_drew]; omega) | omega))
  · have hne := ne_emp h0
    have hn : ((scanN s.data.toList : Int) != (s.size : Int)) = true := by
      rcases h with h | h
      · rw [size_list, h] at h0; exact absurd rfl h0
      · rw [bne_iff_ne]; omega
    have hS := Scan_any s (w.alloc (.cells #[.bool false, .string ⟨#[]⟩, .int .i64 0] 106)) (fun j hj => by rw [World.cell?_alloc_past _ _ _ hT.pos]; exact hT j hj) (by unfold maxLen; omega)
    clear h h0
    go_enter Tryz.func145, Tryz.ntmps145
    go_wp2_with fail
    refine hS.mono ?_
    rintro _ w1 ⟨rfl, n, rfl⟩
    go_wp2
    refine bodyPost_ret (v := numOut ((false, [], 0), 3)) (by simp [results, Tryz.results145, go_sem, numOut, strL]) rfl ⟨rfl, ?_⟩
    (repeat' (first | (with_reducible refine Below.setCell ?_ ?_ _) | (with_reducible refine Below.alloc ?_ ?_ _) | (with_reducible refine Below.drew ?_) | (with_reducible refine below_drewN ?_ _) | (with_reducible assumption) | (with_reducible exact Below.refl _ _) | (simp only [World.size_alloc, World.size_setCell, World.size_drew]; done) | (simp only [World.size_alloc, World.size_setCell, World.size_drew]; omega) | omega))

theorem powP_bounds (sg pw : Bs) : -1099511627776 ≤ powP sg pw ∧ powP sg pw ≤ 1099511627776 := by
  have := foldP_lt pw 0 (by omega)
  unfold powP sgn
  split <;> omega
theorem strL_at (l : Bs) (k : Nat) (h : k < (strL l).size) : (strL l)[k]'h = l[k]'(by rw [← size_strL]; exact h) := rfl
theorem strL_ext (l : Bs) (a b : Nat) : (strL l).extract a b = strL ((l.take b).drop a) := str_ext (by rw [ext_list, strL_list, strL_list])

theorem idxAny_walk (l : Bs) (v : Int) (W : World) (hl : l.length ≤ 1048576) (ha : ∀ x ∈ l, x.toNat < 128) (hv : Lib.indexAny l [101, 69] = v) :
    Calls Tryz.prog 164 #[.string (strL l), .string ⟨#[101, 69]⟩] W fun e w' => e = .returned (.int .i64 v) ∧ Below W.heap.size W w' := by
  subst hv
  refine Go.Proofs.Tryz.strings_IndexAny_laid (strL l) ⟨#[101, 69]⟩ W (by rw [size_strL]; omega) (by decide) (fun j b hb => ha b (List.mem_of_getElem? hb)) (fun j b hb => ?_)
  have hm : b ∈ ([101, 69] : Bs) := List.mem_of_getElem? hb
  simp at hm
  rcases hm with rfl | rfl <;> decide
set_option maxHeartbeats 4000000 in
set_option maxRecDepth 100000 in
theorem Parse_good (s : ByteArray) (neg : Bool) (ip fr mk sg pw : Bs) (w : World) (hT : TabS w) (hs : s.size ≤ 1048576) (h : NumTxt s.data.toList neg ip fr mk sg pw) :
    Calls Tryz.prog 145 #[.string s] w fun e w' => e = .returned (numOut (numVal neg ip fr (powP sg pw))) ∧ Below w.heap.size w w' := by
  have hne : s.toList.isEmpty = false := ne_emp (by rw [size_list]; exact len_pos h.scan.2)
  have hn : ((scanN s.data.toList : Int) != (s.size : Int)) = false := by
    rw [h.scan.1, size_list]
    exact bne_self_eq_false _
  have hS := Scan_any s (w.alloc (.cells #[.bool false, .string ⟨#[]⟩, .int .i64 0] 106)) (fun j hj => by rw [World.cell?_alloc_past _ _ _ hT.pos]; exact hT j hj) (by unfold maxLen; omega)
  have hlen := h.len
  have hC : ∀ W, Calls Tryz.prog 163 #[.string s, .string ⟨#[45]⟩] W fun e w' => e = .returned (.tuple #[.string (strL (frontT ip fr ++ (mk ++ (sg ++ pw)))), .bool neg]) ∧ W = w' := fun W => (Go.Proofs.Tryz.strings_CutPrefix s ⟨#[45]⟩ W).mono fun e w' ⟨h1, h2⟩ => ⟨by rw [h1]; show Ending.returned (.tuple #[.string ⟨(Lib.trimPrefix s.data.toList [45]).toArray⟩, .bool (Lib.hasPrefix s.data.toList [45])]) = _; rw [h.cut.1, h.cut.2]; rfl, h2.symm⟩
  obtain ⟨p, hp⟩ : ∃ p, powP sg pw = p := ⟨_, rfl⟩
  have hpb := powP_bounds sg pw
  rw [hp] at hpb
  have hP := Lib.hid hp
  have hDL := trimL_le (ip ++ fr)
  have hCL : (valC ip fr).length ≤ (valD ip fr).length := trimR_le _
  rw [List.length_append] at hDL
  change (valD ip fr).length ≤ _ at hDL
  rw [← size_list] at hlen
  obtain ⟨l1, l2, l3, l4⟩ := hlen
  have hTL : ∀ W, Calls Tryz.prog 166 #[.string (strL (ip ++ fr)), .string ⟨#[48]⟩] W fun e w' => e = .returned (.string (strL (valD ip fr))) ∧ W = w' := fun W => (Go.Proofs.Tryz.strings_TrimLeft_one (strL (ip ++ fr)) 48 (by decide) W).mono fun _ _ h => ⟨h.1, h.2.symm⟩
  have hTR : ∀ W, Calls Tryz.prog 151 #[.string (strL (valD ip fr)), .string ⟨#[48]⟩] W fun e w' => e = .returned (.string (strL (valC ip fr))) ∧ W = w' := fun W => (Go.Proofs.Tryz.strings_TrimRight_one (strL (valD ip fr)) 48 (by decide) W (by rw [size_strL]; omega)).mono fun _ _ h => ⟨h.1, h.2.symm⟩
  have hIA := fun W v (hv : Lib.indexAny (frontT ip fr ++ (mk ++ (sg ++ pw))) [101, 69] = v) => idxAny_walk (frontT ip fr ++ (mk ++ (sg ++ pw))) v W (by omega) h.ascii hv
  by_cases hm : mk = []
  · obtain ⟨m1, m2, m3⟩ := h.mark_none hm
    have hI := fun W => hIA W _ m1
    rw [hp] at m3
    rw [m2] at hC hI
    clear hIA m1 m2
    by_cases hf : fr = []
    · obtain ⟨p1, p2⟩ := h.point_none hf
      have hB : ∀ W, Calls Tryz.prog 89 #[.string (strL (frontT ip fr)), .int .u8 46] W fun e w' => e = .returned (.int .i64 (-1)) ∧ W = w' := fun W => (Go.Proofs.Tryz.strings_IndexByte (strL (frontT ip fr)) 46 W).mono fun e w' ⟨h1, h2⟩ => ⟨by rw [h1]; show Ending.returned (.int .i64 (Lib.indexByte (frontT ip fr) 46)) = _; rw [p1], h2.symm⟩
      rw [p2] at hB hC hI
      have hdl : fr.length = 0 := by rw [hf]; rfl
      have szD : (strL (valD ip fr)).size = (valD ip fr).length := size_strL _
      have szC : (strL (valC ip fr)).size = (valC ip fr).length := size_strL _
      clear h hm hf p1 p2 hp l4
      generalize strL (ip ++ fr) = G at *
      generalize hD : strL (valD ip fr) = D at hTL hTR szD
      generalize hCe : strL (valC ip fr) = C at hTR szC
      have HC := Lib.hid hCe
      have SD := Lib.hid szD
      have SC := Lib.hid szC
      have hCD : C.size ≤ D.size := by omega
      have hDm : D.size ≤ 1048576 := by omega
      clear hD hCe szD szC hDL hCL
      obtain ⟨E, hE⟩ : ∃ E : Int, E = (D.size : Int) - (C.size : Int) := ⟨_, rfl⟩
      have hx0 : ∀ n, Cells ((w.alloc (.cells #[.bool false, .string ⟨#[]⟩, .int .i64 0] 106)).drewN n) w.heap.size #[.bool false, .string ⟨#[]⟩, .int .i64 0] 106 := fun n => (Cells.new w _ _).drewN n
      have hb0 : ∀ n, Below w.heap.size w ((w.alloc (.cells #[.bool false, .string ⟨#[]⟩, .int .i64 0] 106)).drewN n) := fun n => below_drewN ((Below.refl _ w).alloc (Nat.le_refl _) _) n
      go_enter Tryz.func145, Tryz.ntmps145
      go_wp2_with fail
      refine hS.mono ?_
      clear hS
      rintro _ w1 ⟨rfl, n, rfl⟩
      go_wp2_with fail
      refine (hC _).mono ?_
      rintro _ _ ⟨rfl, rfl⟩
      go_wp2_with fail
      refine (hI _).mono ?_
      rintro _ w1 ⟨rfl, hb⟩
      have hx := (hx0 n).below hb (hx0 n).lt
      have hb := (hb0 n).trans (hb.mono (hb0 n).size)
      clear hx0 hb0
      have hxc0 := hx.cell 0 _ rfl
      have hxf0 := hx.frozen 0
      have hxc1 := hx.cell 1 _ rfl
      have hxf1 := hx.frozen 1
      have hxc2 := hx.cell 2 _ rfl
      have hxf2 := hx.frozen 2
      go_wp2_with fail
      refine (hB _).mono ?_
      rintro _ _ ⟨rfl, rfl⟩
      go_wp2_with fail
      refine (hTL _).mono ?_
      rintro _ _ ⟨rfl, rfl⟩
      go_wp2_with fail
      refine (hTR _).mono ?_
      rintro _ _ ⟨rfl, rfl⟩
      by_cases hz : C.size = 0
      · have hCz := emp_of hz
        have hV := Lib.hid (show numVal neg ip fr (powP sg pw) = ((false, [], 0), 0) by
          rw [numVal, if_pos (List.eq_nil_of_length_eq_zero (by have := SC.out; omega))])
        clear hz
        subst hCz
        go_wp2
        refine bodyPost_ret (v := numOut ((false, [], 0), 0)) (by simp [results, Tryz.results145, go_sem, numOut, strL, hxc0, hxc1, hxc2]) rfl ⟨by rw [hV.out], ?_⟩
        (repeat' (first | (with_reducible refine Below.setCell ?_ ?_ _) | (with_reducible refine Below.alloc ?_ ?_ _) | (with_reducible refine Below.drew ?_) | (with_reducible refine below_drewN ?_ _) | (with_reducible assumption) | (with_reducible exact Below.refl _ _) | (simp only [World.size_alloc, World.size_setCell, World.size_drew]; done) | (simp only [World.size_alloc, World.size_setCell, World.size_drew]; omega) | omega))
      · have hCn := ne_emp hz
        have hR := fun W => numRight_any neg C E W (by omega)
        have hV := Lib.hid (show numVal neg ip fr (powP sg pw) = if numR neg C E then ((neg, valC ip fr, E), 0) else ((false, [], 0), 4) by
          have hc0 : valC ip fr ≠ [] := fun e => hz (by rw [SC.out, e]; rfl)
          have hEE : valE ip fr (powP sg pw) = E := by have := SC.out; have := SD.out; have := hP.out; (try have := hFl.out); unfold valE; omega
          rw [numVal, if_neg hc0, hEE, show (⟨(valC ip fr).toArray⟩ : ByteArray) = C from HC.out])
        have hE2 := Lib.hid hE
        have hE' := hE.symm
        clear hz hE
        go_wp2_with fail
        refine (hR _).mono ?_
        clear hR
        rintro _ w2 ⟨rfl, hb2⟩
        have hx1 := (hx.alloc (.cells #[.bool neg, .string C, .int .i64 E] 106)).below hb2 (hx.alloc _).lt
        have hy1 := (Cells.new w1 #[.bool neg, .string C, .int .i64 E] 106).below hb2 (Cells.new _ _ _).lt
        have hb3 := (hb.alloc hb.size (.cells #[.bool neg, .string C, .int .i64 E] 106)).trans (hb2.mono (by simp only [World.size_alloc]; have := hb.size; omega))
        have hsz := hb.size
        have hne3 : w.heap.size ≠ w1.heap.size := fun e => by have := hx.lt; omega
        clear hb2 hxc0 hxc1 hxc2 hxf0 hxf1 hxf2
        have hx1c0 := hx1.cell 0 _ rfl
        have hx1f0 := hx1.frozen 0
        have hx1c1 := hx1.cell 1 _ rfl
        have hx1f1 := hx1.frozen 1
        have hx1c2 := hx1.cell 2 _ rfl
        have hx1f2 := hx1.frozen 2
        have hy1c0 := hy1.cell 0 _ rfl
        have hy1f0 := hy1.frozen 0
        have hy1c1 := hy1.cell 1 _ rfl
        have hy1f1 := hy1.frozen 1
        have hy1c2 := hy1.cell 2 _ rfl
        have hy1f2 := hy1.frozen 2
        by_cases hr : numR neg C E = true
        · have hV2 := Lib.hid (show numVal neg ip fr (powP sg pw) = ((neg, valC ip fr, E), 0) by rw [hV.out, if_pos hr])
          have hCl := fun W => clone_any C W (by omega)
          clear hV
          go_wp2_with fail
          refine (hCl _).mono ?_
          rintro _ w3 ⟨rfl, hb4⟩
          have hx2 := hx1.below hb4 hx1.lt
          have hy2 := hy1.below hb4 hy1.lt
          have hb5 := hb3.trans (hb4.mono hb3.size)
          have hsz2 := hb5.size
          clear hb4 hx1c0 hx1c1 hx1c2 hx1f0 hx1f1 hx1f2 hy1c0 hy1c1 hy1c2 hy1f0 hy1f1 hy1f2
          have hx2c0 := hx2.cell 0 _ rfl
          have hx2f0 := hx2.frozen 0
          have hx2c1 := hx2.cell 1 _ rfl
          have hx2f1 := hx2.frozen 1
          have hx2c2 := hx2.cell 2 _ rfl
          have hx2f2 := hx2.frozen 2
          have hy2c0 := hy2.cell 0 _ rfl
          have hy2f0 := hy2.frozen 0
          have hy2c1 := hy2.cell 1 _ rfl
          have hy2f1 := hy2.frozen 1
          have hy2c2 := hy2.cell 2 _ rfl
          have hy2f2 := hy2.frozen 2
          go_wp2
          have hCe := HC.out
          refine bodyPost_ret (v := numOut ((neg, valC ip fr, E), 0)) (by simp [results, Tryz.results145, go_sem, numOut, hCe, hx2c0, hx2c1, hx2c2]) rfl ⟨by rw [hV2.out], ?_⟩
          (repeat' (first | (with_reducible refine Below.setCell ?_ ?_ _) | (with_reducible refine Below.alloc ?_ ?_ _) | (with_reducible refine Below.drew ?_) | (with_reducible refine below_drewN ?_ _) | (with_reducible assumption) | (with_reducible exact Below.refl _ _) | (simp only [World.size_alloc, World.size_setCell, World.size_drew]; done) | (simp only [World.size_alloc, World.size_setCell, World.size_drew]; omega) | omega))
        · have hV2 := Lib.hid (show numVal neg ip fr (powP sg pw) = ((false, [], 0), 4) by rw [hV.out, if_neg hr])
          have hr' : numR neg C E = false := by simpa using hr
          clear hV hr
          go_wp2
          refine bodyPost_ret (v := numOut ((false, [], 0), 4)) (by simp [results, Tryz.results145, go_sem, numOut, strL, hx1c0, hx1c1, hx1c2]) rfl ⟨by rw [hV2.out], ?_⟩
          (repeat' (first | (with_reducible refine Below.setCell ?_ ?_ _) | (with_reducible refine Below.alloc ?_ ?_ _) | (with_reducible refine Below.drew ?_) | (with_reducible refine below_drewN ?_ _) | (with_reducible assumption) | (with_reducible exact Below.refl _ _) | (simp only [World.size_alloc, World.size_setCell, World.size_drew]; done) | (simp only [World.size_alloc, World.size_setCell, World.size_drew]; omega) | omega))
    · obtain ⟨p1, p2⟩ := h.point_some hf
      have hB : ∀ W, Calls Tryz.prog 89 #[.string (strL (frontT ip fr)), .int .u8 46] W fun e w' => e = .returned (.int .i64 (ip.length : Nat)) ∧ W = w' := fun W => (Go.Proofs.Tryz.strings_IndexByte (strL (frontT ip fr)) 46 W).mono fun e w' ⟨h1, h2⟩ => ⟨by rw [h1]; show Ending.returned (.int .i64 (Lib.indexByte (frontT ip fr) 46)) = _; rw [p1], h2.symm⟩
      have hl4 := l4 hf
      have hsF : (strL (frontT ip fr)).size = (frontT ip fr).length := size_strL _
      have hsl : (strL (frontT ip fr)).extract 0 ip.length ++ (strL (frontT ip fr)).extract (ip.length + 1) (strL (frontT ip fr)).size = strL (ip ++ fr) := by
        refine str_ext ?_
        rw [app_list, ext_list, ext_list, size_strL, strL_list, List.take_length, p2, strL_list]
        have e1 : (ip ++ 46 :: fr).drop (ip.length + 1) = fr := by rw [← List.drop_drop, List.drop_left]; rfl
        rw [e1, List.take_left]
        simp
      generalize strL (frontT ip fr) = F at *
      have hF1 : ip.length ≤ F.size := by omega
      have hF2 : ip.length + 1 ≤ F.size := by omega
      have hF3 : F.size ≤ 1048576 := by omega
      have hFl : Hid (F.size = ip.length + fr.length + 1) := Lib.hid (by omega)
      clear hl4 hsF
      have szD : (strL (valD ip fr)).size = (valD ip fr).length := size_strL _
      have szC : (strL (valC ip fr)).size = (valC ip fr).length := size_strL _
      clear h hm hf p1 p2 hp l4
      generalize strL (ip ++ fr) = G at *
      generalize hD : strL (valD ip fr) = D at hTL hTR szD
      generalize hCe : strL (valC ip fr) = C at hTR szC
      have HC := Lib.hid hCe
      have SD := Lib.hid szD
      have SC := Lib.hid szC
      have hCD : C.size ≤ D.size := by omega
      have hDm : D.size ≤ 1048576 := by omega
      clear hD hCe szD szC hDL hCL
      obtain ⟨E, hE⟩ : ∃ E : Int, E = -((F.size : Int) - (ip.length : Int) - 1) + ((D.size : Int) - (C.size : Int)) := ⟨_, rfl⟩
      have hEf : Hid (F.size = ip.length + fr.length + 1) := hFl
      have hx0 : ∀ n, Cells ((w.alloc (.cells #[.bool false, .string ⟨#[]⟩, .int .i64 0] 106)).drewN n) w.heap.size #[.bool false, .string ⟨#[]⟩, .int .i64 0] 106 := fun n => (Cells.new w _ _).drewN n
      have hb0 : ∀ n, Below w.heap.size w ((w.alloc (.cells #[.bool false, .string ⟨#[]⟩, .int .i64 0] 106)).drewN n) := fun n => below_drewN ((Below.refl _ w).alloc (Nat.le_refl _) _) n
      go_enter Tryz.func145, Tryz.ntmps145
      go_wp2_with fail
      refine hS.mono ?_
      clear hS
      rintro _ w1 ⟨rfl, n, rfl⟩
      go_wp2_with fail
      refine (hC _).mono ?_
      rintro _ _ ⟨rfl, rfl⟩
      go_wp2_with fail
      refine (hI _).mono ?_
      rintro _ w1 ⟨rfl, hb⟩
      have hx := (hx0 n).below hb (hx0 n).lt
      have hb := (hb0 n).trans (hb.mono (hb0 n).size)
      clear hx0 hb0
      have hxc0 := hx.cell 0 _ rfl
      have hxf0 := hx.frozen 0
      have hxc1 := hx.cell 1 _ rfl
      have hxf1 := hx.frozen 1
      have hxc2 := hx.cell 2 _ rfl
      have hxf2 := hx.frozen 2
      go_wp2_with fail
      refine (hB _).mono ?_
      rintro _ _ ⟨rfl, rfl⟩
      go_wp2_with fail
      go_region
      have hxd := hx.drew
      have hbd : Below w.heap.size w w1.drew := Below.drew hb
      clear hx hb hxc0 hxc1 hxc2 hxf0 hxf1 hxf2
      generalize w1.drew = w4 at hxd hbd ⊢
      have hx := hxd
      have hb := hbd
      clear hxd hbd
      have hxc0 := hx.cell 0 _ rfl
      have hxf0 := hx.frozen 0
      have hxc1 := hx.cell 1 _ rfl
      have hxf1 := hx.frozen 1
      have hxc2 := hx.cell 2 _ rfl
      have hxf2 := hx.frozen 2
      go_wp2_with fail
      refine (hTL _).mono ?_
      rintro _ _ ⟨rfl, rfl⟩
      go_wp2_with fail
      refine (hTR _).mono ?_
      rintro _ _ ⟨rfl, rfl⟩
      by_cases hz : C.size = 0
      · have hCz := emp_of hz
        have hV := Lib.hid (show numVal neg ip fr (powP sg pw) = ((false, [], 0), 0) by
          rw [numVal, if_pos (List.eq_nil_of_length_eq_zero (by have := SC.out; omega))])
        clear hz
        subst hCz
        go_wp2
        refine bodyPost_ret (v := numOut ((false, [], 0), 0)) (by simp [results, Tryz.results145, go_sem, numOut, strL, hxc0, hxc1, hxc2]) rfl ⟨by rw [hV.out], ?_⟩
        (repeat' (first | (with_reducible refine Below.setCell ?_ ?_ _) | (with_reducible refine Below.alloc ?_ ?_ _) | (with_reducible refine Below.drew ?_) | (with_reducible refine below_drewN ?_ _) | (with_reducible assumption) | (with_reducible exact Below.refl _ _) | (simp only [World.size_alloc, World.size_setCell, World.size_drew]; done) | (simp only [World.size_alloc, World.size_setCell, World.size_drew]; omega) | omega))
      · have hCn := ne_emp hz
        have hR := fun W => numRight_any neg C E W (by omega)
        have hV := Lib.hid (show numVal neg ip fr (powP sg pw) = if numR neg C E then ((neg, valC ip fr, E), 0) else ((false, [], 0), 4) by
          have hc0 : valC ip fr ≠ [] := fun e => hz (by rw [SC.out, e]; rfl)
          have hEE : valE ip fr (powP sg pw) = E := by have := SC.out; have := SD.out; have := hP.out; (try have := hFl.out); unfold valE; omega
          rw [numVal, if_neg hc0, hEE, show (⟨(valC ip fr).toArray⟩ : ByteArray) = C from HC.out])
        have hE2 := Lib.hid hE
        have hE' := hE.symm
        clear hz hE
        go_wp2_with fail
        refine (hR _).mono ?_
        clear hR
        rintro _ w2 ⟨rfl, hb2⟩
        have hx1 := (hx.alloc (.cells #[.bool neg, .string C, .int .i64 E] 106)).below hb2 (hx.alloc _).lt
        have hy1 := (Cells.new w4 #[.bool neg, .string C, .int .i64 E] 106).below hb2 (Cells.new _ _ _).lt
        have hb3 := (hb.alloc hb.size (.cells #[.bool neg, .string C, .int .i64 E] 106)).trans (hb2.mono (by simp only [World.size_alloc]; have := hb.size; omega))
        have hsz := hb.size
        have hne3 : w.heap.size ≠ w4.heap.size := fun e => by have := hx.lt; omega
        clear hb2 hxc0 hxc1 hxc2 hxf0 hxf1 hxf2
        have hx1c0 := hx1.cell 0 _ rfl
        have hx1f0 := hx1.frozen 0
        have hx1c1 := hx1.cell 1 _ rfl
        have hx1f1 := hx1.frozen 1
        have hx1c2 := hx1.cell 2 _ rfl
        have hx1f2 := hx1.frozen 2
        have hy1c0 := hy1.cell 0 _ rfl
        have hy1f0 := hy1.frozen 0
        have hy1c1 := hy1.cell 1 _ rfl
        have hy1f1 := hy1.frozen 1
        have hy1c2 := hy1.cell 2 _ rfl
        have hy1f2 := hy1.frozen 2
        by_cases hr : numR neg C E = true
        · have hV2 := Lib.hid (show numVal neg ip fr (powP sg pw) = ((neg, valC ip fr, E), 0) by rw [hV.out, if_pos hr])
          have hCl := fun W => clone_any C W (by omega)
          clear hV
          go_wp2_with fail
          refine (hCl _).mono ?_
          rintro _ w3 ⟨rfl, hb4⟩
          have hx2 := hx1.below hb4 hx1.lt
          have hy2 := hy1.below hb4 hy1.lt
          have hb5 := hb3.trans (hb4.mono hb3.size)
          have hsz2 := hb5.size
          clear hb4 hx1c0 hx1c1 hx1c2 hx1f0 hx1f1 hx1f2 hy1c0 hy1c1 hy1c2 hy1f0 hy1f1 hy1f2
          have hx2c0 := hx2.cell 0 _ rfl
          have hx2f0 := hx2.frozen 0
          have hx2c1 := hx2.cell 1 _ rfl
          have hx2f1 := hx2.frozen 1
          have hx2c2 := hx2.cell 2 _ rfl
          have hx2f2 := hx2.frozen 2
          have hy2c0 := hy2.cell 0 _ rfl
          have hy2f0 := hy2.frozen 0
          have hy2c1 := hy2.cell 1 _ rfl
          have hy2f1 := hy2.frozen 1
          have hy2c2 := hy2.cell 2 _ rfl
          have hy2f2 := hy2.frozen 2
          go_wp2
          have hCe := HC.out
          refine bodyPost_ret (v := numOut ((neg, valC ip fr, E), 0)) (by simp [results, Tryz.results145, go_sem, numOut, hCe, hx2c0, hx2c1, hx2c2]) rfl ⟨by rw [hV2.out], ?_⟩
          (repeat' (first | (with_reducible refine Below.setCell ?_ ?_ _) | (with_reducible refine Below.alloc ?_ ?_ _) | (with_reducible refine Below.drew ?_) | (with_reducible refine below_drewN ?_ _) | (with_reducible assumption) | (with_reducible exact Below.refl _ _) | (simp only [World.size_alloc, World.size_setCell, World.size_drew]; done) | (simp only [World.size_alloc, World.size_setCell, World.size_drew]; omega) | omega))
        · have hV2 := Lib.hid (show numVal neg ip fr (powP sg pw) = ((false, [], 0), 4) by rw [hV.out, if_neg hr])
          have hr' : numR neg C E = false := by simpa using hr
          clear hV hr
          go_wp2
          refine bodyPost_ret (v := numOut ((false, [], 0), 4)) (by simp [results, Tryz.results145, go_sem, numOut, strL, hx1c0, hx1c1, hx1c2]) rfl ⟨by rw [hV2.out], ?_⟩
          (repeat' (first | (with_reducible refine Below.setCell ?_ ?_ _) | (with_reducible refine Below.alloc ?_ ?_ _) | (with_reducible refine Below.drew ?_) | (with_reducible refine below_drewN ?_ _) | (with_reducible assumption) | (with_reducible exact Below.refl _ _) | (simp only [World.size_alloc, World.size_setCell, World.size_drew]; done) | (simp only [World.size_alloc, World.size_setCell, World.size_drew]; omega) | omega))
  · obtain ⟨m1, ⟨m, hmk⟩, m3, m4⟩ := h.mark_some hm
    subst hmk
    have hI := fun W => hIA W _ m1
    have hsT : (strL (frontT ip fr ++ ([m] ++ (sg ++ pw)))).size = (frontT ip fr ++ ([m] ++ (sg ++ pw))).length := size_strL _
    have hPw : ∀ W, Calls Tryz.prog 165 #[.string (strL (sg ++ pw))] W fun e w' => e = .returned (.int .i64 p) ∧ W = w' := fun W => by
      rw [← hp]
      refine powerOf_any _ sg pw W rfl m3 h.dpw m4 ?_
      rw [size_strL]
      simp only [List.length_append] at l2 ⊢
      omega
    have hs1 : (strL (frontT ip fr ++ ([m] ++ (sg ++ pw)))).extract ((frontT ip fr).length + 1) (strL (frontT ip fr ++ ([m] ++ (sg ++ pw)))).size = strL (sg ++ pw) := by
      rw [hsT, strL_ext, List.take_length, ← List.drop_drop, List.drop_left]; rfl
    have hs2 : (strL (frontT ip fr ++ ([m] ++ (sg ++ pw)))).extract 0 (frontT ip fr).length = strL (frontT ip fr) := by
      rw [strL_ext, List.take_left]; rfl
    have hi1 : (frontT ip fr).length + 1 ≤ (strL (frontT ip fr ++ ([m] ++ (sg ++ pw)))).size := by rw [hsT]; simp
    have hi0 : (frontT ip fr).length ≤ (strL (frontT ip fr ++ ([m] ++ (sg ++ pw)))).size := by omega
    have hiT : (strL (frontT ip fr ++ ([m] ++ (sg ++ pw)))).size ≤ 1048576 := by omega
    generalize strL (frontT ip fr ++ ([m] ++ (sg ++ pw))) = T at *
    generalize strL (sg ++ pw) = P at *
    obtain ⟨q, hq⟩ : ∃ q, (frontT ip fr).length = q := ⟨_, rfl⟩
    rw [hq] at hI hs1 hs2 hi1 hi0
    clear hIA m1 m3 m4 hsT l2
    by_cases hf : fr = []
    · obtain ⟨p1, p2⟩ := h.point_none hf
      have hB : ∀ W, Calls Tryz.prog 89 #[.string (strL (frontT ip fr)), .int .u8 46] W fun e w' => e = .returned (.int .i64 (-1)) ∧ W = w' := fun W => (Go.Proofs.Tryz.strings_IndexByte (strL (frontT ip fr)) 46 W).mono fun e w' ⟨h1, h2⟩ => ⟨by rw [h1]; show Ending.returned (.int .i64 (Lib.indexByte (frontT ip fr) 46)) = _; rw [p1], h2.symm⟩
      rw [p2] at hB hs2
      have hdl : fr.length = 0 := by rw [hf]; rfl
      clear hq l3
      have szD : (strL (valD ip fr)).size = (valD ip fr).length := size_strL _
      have szC : (strL (valC ip fr)).size = (valC ip fr).length := size_strL _
      clear h hm hf p1 p2 hp l4
      generalize strL (ip ++ fr) = G at *
      generalize hD : strL (valD ip fr) = D at hTL hTR szD
      generalize hCe : strL (valC ip fr) = C at hTR szC
      have HC := Lib.hid hCe
      have SD := Lib.hid szD
      have SC := Lib.hid szC
      have hCD : C.size ≤ D.size := by omega
      have hDm : D.size ≤ 1048576 := by omega
      clear hD hCe szD szC hDL hCL
      obtain ⟨E, hE⟩ : ∃ E : Int, E = p + ((D.size : Int) - (C.size : Int)) := ⟨_, rfl⟩
      have hx0 : ∀ n, Cells ((w.alloc (.cells #[.bool false, .string ⟨#[]⟩, .int .i64 0] 106)).drewN n) w.heap.size #[.bool false, .string ⟨#[]⟩, .int .i64 0] 106 := fun n => (Cells.new w _ _).drewN n
      have hb0 : ∀ n, Below w.heap.size w ((w.alloc (.cells #[.bool false, .string ⟨#[]⟩, .int .i64 0] 106)).drewN n) := fun n => below_drewN ((Below.refl _ w).alloc (Nat.le_refl _) _) n
      go_enter Tryz.func145, Tryz.ntmps145
      go_wp2_with fail
      refine hS.mono ?_
      clear hS
      rintro _ w1 ⟨rfl, n, rfl⟩
      go_wp2_with fail
      refine (hC _).mono ?_
      rintro _ _ ⟨rfl, rfl⟩
      go_wp2_with fail
      refine (hI _).mono ?_
      rintro _ w1 ⟨rfl, hb⟩
      have hx := (hx0 n).below hb (hx0 n).lt
      have hb := (hb0 n).trans (hb.mono (hb0 n).size)
      clear hx0 hb0
      have hxc0 := hx.cell 0 _ rfl
      have hxf0 := hx.frozen 0
      have hxc1 := hx.cell 1 _ rfl
      have hxf1 := hx.frozen 1
      have hxc2 := hx.cell 2 _ rfl
      have hxf2 := hx.frozen 2
      go_wp2_with fail
      refine (hPw _).mono ?_
      rintro _ _ ⟨rfl, rfl⟩
      go_wp2_with fail
      refine (hB _).mono ?_
      rintro _ _ ⟨rfl, rfl⟩
      go_wp2_with fail
      refine (hTL _).mono ?_
      rintro _ _ ⟨rfl, rfl⟩
      go_wp2_with fail
      refine (hTR _).mono ?_
      rintro _ _ ⟨rfl, rfl⟩
      by_cases hz : C.size = 0
      · have hCz := emp_of hz
        have hV := Lib.hid (show numVal neg ip fr (powP sg pw) = ((false, [], 0), 0) by
          rw [numVal, if_pos (List.eq_nil_of_length_eq_zero (by have := SC.out; omega))])
        clear hz
        subst hCz
        go_wp2
        refine bodyPost_ret (v := numOut ((false, [], 0), 0)) (by simp [results, Tryz.results145, go_sem, numOut, strL, hxc0, hxc1, hxc2]) rfl ⟨by rw [hV.out], ?_⟩
        (repeat' (first | (with_reducible refine Below.setCell ?_ ?_ _) | (with_reducible refine Below.alloc ?_ ?_ _) | (with_reducible refine Below.drew ?_) | (with_reducible refine below_drewN ?_ _) | (with_reducible assumption) | (with_reducible exact Below.refl _ _) | (simp only [World.size_alloc, World.size_setCell, World.size_drew]; done) | (simp only [World.size_alloc, World.size_setCell, World.size_drew]; omega) | omega))
      · have hCn := ne_emp hz
        have hR := fun W => numRight_any neg C E W (by omega)
        have hV := Lib.hid (show numVal neg ip fr (powP sg pw) = if numR neg C E then ((neg, valC ip fr, E), 0) else ((false, [], 0), 4) by
          have hc0 : valC ip fr ≠ [] := fun e => hz (by rw [SC.out, e]; rfl)
          have hEE : valE ip fr (powP sg pw) = E := by have := SC.out; have := SD.out; have := hP.out; (try have := hFl.out); unfold valE; omega
          rw [numVal, if_neg hc0, hEE, show (⟨(valC ip fr).toArray⟩ : ByteArray) = C from HC.out])
        have hE2 := Lib.hid hE
        have hE' := hE.symm
        clear hz hE
        go_wp2_with fail
        refine (hR _).mono ?_
        clear hR
        rintro _ w2 ⟨rfl, hb2⟩
        have hx1 := (hx.alloc (.cells #[.bool neg, .string C, .int .i64 E] 106)).below hb2 (hx.alloc _).lt
        have hy1 := (Cells.new w1 #[.bool neg, .string C, .int .i64 E] 106).below hb2 (Cells.new _ _ _).lt
        have hb3 := (hb.alloc hb.size (.cells #[.bool neg, .string C, .int .i64 E] 106)).trans (hb2.mono (by simp only [World.size_alloc]; have := hb.size; omega))
        have hsz := hb.size
        have hne3 : w.heap.size ≠ w1.heap.size := fun e => by have := hx.lt; omega
        clear hb2 hxc0 hxc1 hxc2 hxf0 hxf1 hxf2
        have hx1c0 := hx1.cell 0 _ rfl
        have hx1f0 := hx1.frozen 0
        have hx1c1 := hx1.cell 1 _ rfl
        have hx1f1 := hx1.frozen 1
        have hx1c2 := hx1.cell 2 _ rfl
        have hx1f2 := hx1.frozen 2
        have hy1c0 := hy1.cell 0 _ rfl
        have hy1f0 := hy1.frozen 0
        have hy1c1 := hy1.cell 1 _ rfl
        have hy1f1 := hy1.frozen 1
        have hy1c2 := hy1.cell 2 _ rfl
        have hy1f2 := hy1.frozen 2
        by_cases hr : numR neg C E = true
        · have hV2 := Lib.hid (show numVal neg ip fr (powP sg pw) = ((neg, valC ip fr, E), 0) by rw [hV.out, if_pos hr])
          have hCl := fun W => clone_any C W (by omega)
          clear hV
          go_wp2_with fail
          refine (hCl _).mono ?_
          rintro _ w3 ⟨rfl, hb4⟩
          have hx2 := hx1.below hb4 hx1.lt
          have hy2 := hy1.below hb4 hy1.lt
          have hb5 := hb3.trans (hb4.mono hb3.size)
          have hsz2 := hb5.size
          clear hb4 hx1c0 hx1c1 hx1c2 hx1f0 hx1f1 hx1f2 hy1c0 hy1c1 hy1c2 hy1f0 hy1f1 hy1f2
          have hx2c0 := hx2.cell 0 _ rfl
          have hx2f0 := hx2.frozen 0
          have hx2c1 := hx2.cell 1 _ rfl
          have hx2f1 := hx2.frozen 1
          have hx2c2 := hx2.cell 2 _ rfl
          have hx2f2 := hx2.frozen 2
          have hy2c0 := hy2.cell 0 _ rfl
          have hy2f0 := hy2.frozen 0
          have hy2c1 := hy2.cell 1 _ rfl
          have hy2f1 := hy2.frozen 1
          have hy2c2 := hy2.cell 2 _ rfl
          have hy2f2 := hy2.frozen 2
          go_wp2
          have hCe := HC.out
          refine bodyPost_ret (v := numOut ((neg, valC ip fr, E), 0)) (by simp [results, Tryz.results145, go_sem, numOut, hCe, hx2c0, hx2c1, hx2c2]) rfl ⟨by rw [hV2.out], ?_⟩
          (repeat' (first | (with_reducible refine Below.setCell ?_ ?_ _) | (with_reducible refine Below.alloc ?_ ?_ _) | (with_reducible refine Below.drew ?_) | (with_reducible refine below_drewN ?_ _) | (with_reducible assumption) | (with_reducible exact Below.refl _ _) | (simp only [World.size_alloc, World.size_setCell, World.size_drew]; done) | (simp only [World.size_alloc, World.size_setCell, World.size_drew]; omega) | omega))
        · have hV2 := Lib.hid (show numVal neg ip fr (powP sg pw) = ((false, [], 0), 4) by rw [hV.out, if_neg hr])
          have hr' : numR neg C E = false := by simpa using hr
          clear hV hr
          go_wp2
          refine bodyPost_ret (v := numOut ((false, [], 0), 4)) (by simp [results, Tryz.results145, go_sem, numOut, strL, hx1c0, hx1c1, hx1c2]) rfl ⟨by rw [hV2.out], ?_⟩
          (repeat' (first | (with_reducible refine Below.setCell ?_ ?_ _) | (with_reducible refine Below.alloc ?_ ?_ _) | (with_reducible refine Below.drew ?_) | (with_reducible refine below_drewN ?_ _) | (with_reducible assumption) | (with_reducible exact Below.refl _ _) | (simp only [World.size_alloc, World.size_setCell, World.size_drew]; done) | (simp only [World.size_alloc, World.size_setCell, World.size_drew]; omega) | omega))
    · obtain ⟨p1, p2⟩ := h.point_some hf
      have hB : ∀ W, Calls Tryz.prog 89 #[.string (strL (frontT ip fr)), .int .u8 46] W fun e w' => e = .returned (.int .i64 (ip.length : Nat)) ∧ W = w' := fun W => (Go.Proofs.Tryz.strings_IndexByte (strL (frontT ip fr)) 46 W).mono fun e w' ⟨h1, h2⟩ => ⟨by rw [h1]; show Ending.returned (.int .i64 (Lib.indexByte (frontT ip fr) 46)) = _; rw [p1], h2.symm⟩
      have hl4 := l4 hf
      clear hq
      have hsF : (strL (frontT ip fr)).size = (frontT ip fr).length := size_strL _
      have hsl : (strL (frontT ip fr)).extract 0 ip.length ++ (strL (frontT ip fr)).extract (ip.length + 1) (strL (frontT ip fr)).size = strL (ip ++ fr) := by
        refine str_ext ?_
        rw [app_list, ext_list, ext_list, size_strL, strL_list, List.take_length, p2, strL_list]
        have e1 : (ip ++ 46 :: fr).drop (ip.length + 1) = fr := by rw [← List.drop_drop, List.drop_left]; rfl
        rw [e1, List.take_left]
        simp
      generalize strL (frontT ip fr) = F at *
      have hF1 : ip.length ≤ F.size := by omega
      have hF2 : ip.length + 1 ≤ F.size := by omega
      have hF3 : F.size ≤ 1048576 := by omega
      have hFl : Hid (F.size = ip.length + fr.length + 1) := Lib.hid (by omega)
      clear hl4 hsF
      have szD : (strL (valD ip fr)).size = (valD ip fr).length := size_strL _
      have szC : (strL (valC ip fr)).size = (valC ip fr).length := size_strL _
      clear h hm hf p1 p2 hp l4
      generalize strL (ip ++ fr) = G at *
      generalize hD : strL (valD ip fr) = D at hTL hTR szD
      generalize hCe : strL (valC ip fr) = C at hTR szC
      have HC := Lib.hid hCe
      have SD := Lib.hid szD
      have SC := Lib.hid szC
      have hCD : C.size ≤ D.size := by omega
      have hDm : D.size ≤ 1048576 := by omega
      clear hD hCe szD szC hDL hCL
      obtain ⟨E, hE⟩ : ∃ E : Int, E = p - ((F.size : Int) - (ip.length : Int) - 1) + ((D.size : Int) - (C.size : Int)) := ⟨_, rfl⟩
      have hx0 : ∀ n, Cells ((w.alloc (.cells #[.bool false, .string ⟨#[]⟩, .int .i64 0] 106)).drewN n) w.heap.size #[.bool false, .string ⟨#[]⟩, .int .i64 0] 106 := fun n => (Cells.new w _ _).drewN n
      have hb0 : ∀ n, Below w.heap.size w ((w.alloc (.cells #[.bool false, .string ⟨#[]⟩, .int .i64 0] 106)).drewN n) := fun n => below_drewN ((Below.refl _ w).alloc (Nat.le_refl _) _) n
      go_enter Tryz.func145, Tryz.ntmps145
      go_wp2_with fail
      refine hS.mono ?_
      clear hS
      rintro _ w1 ⟨rfl, n, rfl⟩
      go_wp2_with fail
      refine (hC _).mono ?_
      rintro _ _ ⟨rfl, rfl⟩
      go_wp2_with fail
      refine (hI _).mono ?_
      rintro _ w1 ⟨rfl, hb⟩
      have hx := (hx0 n).below hb (hx0 n).lt
      have hb := (hb0 n).trans (hb.mono (hb0 n).size)
      clear hx0 hb0
      have hxc0 := hx.cell 0 _ rfl
      have hxf0 := hx.frozen 0
      have hxc1 := hx.cell 1 _ rfl
      have hxf1 := hx.frozen 1
      have hxc2 := hx.cell 2 _ rfl
      have hxf2 := hx.frozen 2
      go_wp2_with fail
      refine (hPw _).mono ?_
      rintro _ _ ⟨rfl, rfl⟩
      go_wp2_with fail
      refine (hB _).mono ?_
      rintro _ _ ⟨rfl, rfl⟩
      go_wp2_with fail
      go_region
      have hxd := hx.drew
      have hbd : Below w.heap.size w w1.drew := Below.drew hb
      clear hx hb hxc0 hxc1 hxc2 hxf0 hxf1 hxf2
      generalize w1.drew = w4 at hxd hbd ⊢
      have hx := hxd
      have hb := hbd
      clear hxd hbd
      have hxc0 := hx.cell 0 _ rfl
      have hxf0 := hx.frozen 0
      have hxc1 := hx.cell 1 _ rfl
      have hxf1 := hx.frozen 1
      have hxc2 := hx.cell 2 _ rfl
      have hxf2 := hx.frozen 2
      go_wp2_with fail
      refine (hTL _).mono ?_
      rintro _ _ ⟨rfl, rfl⟩
      go_wp2_with fail
      refine (hTR _).mono ?_
      rintro _ _ ⟨rfl, rfl⟩
      by_cases hz : C.size = 0
      · have hCz := emp_of hz
        have hV := Lib.hid (show numVal neg ip fr (powP sg pw) = ((false, [], 0), 0) by
          rw [numVal, if_pos (List.eq_nil_of_length_eq_zero (by have := SC.out; omega))])
        clear hz
        subst hCz
        go_wp2
        refine bodyPost_ret (v := numOut ((false, [], 0), 0)) (by simp [results, Tryz.results145, go_sem, numOut, strL, hxc0, hxc1, hxc2]) rfl ⟨by rw [hV.out], ?_⟩
        (repeat' (first | (with_reducible refine Below.setCell ?_ ?_ _) | (with_reducible refine Below.alloc ?_ ?_ _) | (with_reducible refine Below.drew ?_) | (with_reducible refine below_drewN ?_ _) | (with_reducible assumption) | (with_reducible exact Below.refl _ _) | (simp only [World.size_alloc, World.size_setCell, World.size_drew]; done) | (simp only [World.size_alloc, World.size_setCell, World.size_drew]; omega) | omega))
      · have hCn := ne_emp hz
        have hR := fun W => numRight_any neg C E W (by omega)
        have hV := Lib.hid (show numVal neg ip fr (powP sg pw) = if numR neg C E then ((neg, valC ip fr, E), 0) else ((false, [], 0), 4) by
          have hc0 : valC ip fr ≠ [] := fun e => hz (by rw [SC.out, e]; rfl)
          have hEE : valE ip fr (powP sg pw) = E := by have := SC.out; have := SD.out; have := hP.out; (try have := hFl.out); unfold valE; omega
          rw [numVal, if_neg hc0, hEE, show (⟨(valC ip fr).toArray⟩ : ByteArray) = C from HC.out])
        have hE2 := Lib.hid hE
        have hE' := hE.symm
        clear hz hE
        go_wp2_with fail
        refine (hR _).mono ?_
        clear hR
        rintro _ w2 ⟨rfl, hb2⟩
        have hx1 := (hx.alloc (.cells #[.bool neg, .string C, .int .i64 E] 106)).below hb2 (hx.alloc _).lt
        have hy1 := (Cells.new w4 #[.bool neg, .string C, .int .i64 E] 106).below hb2 (Cells.new _ _ _).lt
        have hb3 := (hb.alloc hb.size (.cells #[.bool neg, .string C, .int .i64 E] 106)).trans (hb2.mono (by simp only [World.size_alloc]; have := hb.size; omega))
        have hsz := hb.size
        have hne3 : w.heap.size ≠ w4.heap.size := fun e => by have := hx.lt; omega
        clear hb2 hxc0 hxc1 hxc2 hxf0 hxf1 hxf2
        have hx1c0 := hx1.cell 0 _ rfl
        have hx1f0 := hx1.frozen 0
        have hx1c1 := hx1.cell 1 _ rfl
        have hx1f1 := hx1.frozen 1
        have hx1c2 := hx1.cell 2 _ rfl
        have hx1f2 := hx1.frozen 2
        have hy1c0 := hy1.cell 0 _ rfl
        have hy1f0 := hy1.frozen 0
        have hy1c1 := hy1.cell 1 _ rfl
        have hy1f1 := hy1.frozen 1
        have hy1c2 := hy1.cell 2 _ rfl
        have hy1f2 := hy1.frozen 2
        by_cases hr : numR neg C E = true
        · have hV2 := Lib.hid (show numVal neg ip fr (powP sg pw) = ((neg, valC ip fr, E), 0) by rw [hV.out, if_pos hr])
          have hCl := fun W => clone_any C W (by omega)
          clear hV
          go_wp2_with fail
          refine (hCl _).mono ?_
          rintro _ w3 ⟨rfl, hb4⟩
          have hx2 := hx1.below hb4 hx1.lt
          have hy2 := hy1.below hb4 hy1.lt
          have hb5 := hb3.trans (hb4.mono hb3.size)
          have hsz2 := hb5.size
          clear hb4 hx1c0 hx1c1 hx1c2 hx1f0 hx1f1 hx1f2 hy1c0 hy1c1 hy1c2 hy1f0 hy1f1 hy1f2
          have hx2c0 := hx2.cell 0 _ rfl
          have hx2f0 := hx2.frozen 0
          have hx2c1 := hx2.cell 1 _ rfl
          have hx2f1 := hx2.frozen 1
          have hx2c2 := hx2.cell 2 _ rfl
          have hx2f2 := hx2.frozen 2
          have hy2c0 := hy2.cell 0 _ rfl
          have hy2f0 := hy2.frozen 0
          have hy2c1 := hy2.cell 1 _ rfl
          have hy2f1 := hy2.frozen 1
          have hy2c2 := hy2.cell 2 _ rfl
          have hy2f2 := hy2.frozen 2
          go_wp2
          have hCe := HC.out
          refine bodyPost_ret (v := numOut ((neg, valC ip fr, E), 0)) (by simp [results, Tryz.results145, go_sem, numOut, hCe, hx2c0, hx2c1, hx2c2]) rfl ⟨by rw [hV2.out], ?_⟩
          (repeat' (first | (with_reducible refine Below.setCell ?_ ?_ _) | (with_reducible refine Below.alloc ?_ ?_ _) | (with_reducible refine Below.drew ?_) | (with_reducible refine below_drewN ?_ _) | (with_reducible assumption) | (with_reducible exact Below.refl _ _) | (simp only [World.size_alloc, World.size_setCell, World.size_drew]; done) | (simp only [World.size_alloc, World.size_setCell, World.size_drew]; omega) | omega))
        · have hV2 := Lib.hid (show numVal neg ip fr (powP sg pw) = ((false, [], 0), 4) by rw [hV.out, if_neg hr])
          have hr' : numR neg C E = false := by simpa using hr
          clear hV hr
          go_wp2
          refine bodyPost_ret (v := numOut ((false, [], 0), 4)) (by simp [results, Tryz.results145, go_sem, numOut, strL, hx1c0, hx1c1, hx1c2]) rfl ⟨by rw [hV2.out], ?_⟩
          (repeat' (first | (with_reducible refine Below.setCell ?_ ?_ _) | (with_reducible refine Below.alloc ?_ ?_ _) | (with_reducible refine Below.drew ?_) | (with_reducible refine below_drewN ?_ _) | (with_reducible assumption) | (with_reducible exact Below.refl _ _) | (simp only [World.size_alloc, World.size_setCell, World.size_drew]; done) | (simp only [World.size_alloc, World.size_setCell, World.size_drew]; omega) | omega))
end Go.Proofs.YtjlikcfabekhlaaGreatDoor

/- The walks of the lexer's next (layer 11): which token a text begins with. -/
namespace Go.Proofs.YtjlikcfabekhlaaGreatDoor
open Go.RowKit Go.Tab

/-- What the lexer reads of the program's tables. -/
structure LexT (w : World) : Prop where
  utf : Tab w
  steps : TabS w
  dbl : ∀ j : Nat, j < 6 → w.cell? ⟨0, j, none⟩ = some (.string (strL (dbls.getD j [])))
  mlen : ∃ m, w.cell? ⟨2, 0, none⟩ = some (.int .i64 m)
theorem LexT.below {w w' : World} (h : LexT w) (hb : Below w.heap.size w w') : LexT w' :=
  ⟨h.utf.below hb h.utf.pos, h.steps.below hb h.steps.pos, fun j hj => (hb.cell (p := ⟨0, j, none⟩) (World.block_lt_of_cell? w _ (h.dbl j hj))).trans (h.dbl j hj), by
    obtain ⟨m, hm⟩ := h.mlen
    exact ⟨m, (hb.cell (p := ⟨2, 0, none⟩) (World.block_lt_of_cell? w _ hm)).trans hm⟩⟩

theorem indexB (l : List UInt8) (c : UInt8) : decide (0 ≤ Lib.indexByte l c) = l.contains c := by
  induction l with
  | nil => rfl
  | cons b l ih =>
    unfold Lib.indexByte
    rw [List.contains_cons]
    by_cases h : b = c
    · subst h; simp
    · have h1 : (b == c) = false := by simpa using h
      have h2 : (c == b) = false := by simpa using fun e : c = b => h e.symm
      rw [h1, h2, Bool.false_or, ← ih]
      have := Lib.indexByte_ge l c
      simp only [Bool.false_eq_true, if_false]
      by_cases h3 : Lib.indexByte l c = -1
      · rw [if_pos (by simpa using h3), h3]
      · rw [if_neg (by simpa using h3)]
        congr 1
        apply propext
        constructor <;> intro h <;> omega
theorem u8_back (c : UInt8) : ((c.toNat : Int)).toNat.toUInt8 = c := by simp
/-- strings.IndexByte, asked whether the byte is there. -/
theorem has_any (s : ByteArray) (c : UInt8) (w : World) : Calls Tryz.prog 89 #[.string s, .int .u8 c.toNat] w fun e w' => (∃ i : Int, e = .returned (.int .i64 i) ∧ decide (0 ≤ i) = s.data.toList.contains c) ∧ w' = w :=
  (Tryz.strings_IndexByte s c.toNat w).mono fun e w' ⟨h1, h2⟩ => ⟨⟨_, h1, by rw [u8_back]; exact indexB _ _⟩, h2⟩

set_option maxHeartbeats 2000000 in
set_option maxRecDepth 100000 in
theorem sign_any (s : ByteArray) (w : World) (hT : LexT w) (h0 : 0 < s.size) (hs : s.size ≤ maxLen) :
    Calls Tryz.prog 128 #[.string s] w fun e w' => e = .returned (.int .i64 (sgN s.data.toList : Nat)) ∧ w = w' := by
  unfold maxLen at hs
  have t0 := hT.dbl 0 (by decide)
  have t1 := hT.dbl 1 (by decide)
  have t2 := hT.dbl 2 (by decide)
  have t3 := hT.dbl 3 (by decide)
  have t4 := hT.dbl 4 (by decide)
  have t5 := hT.dbl 5 (by decide)
  simp only [dbls, List.getD_cons_zero, List.getD_cons_succ, strL] at t0 t1 t2 t3 t4 t5
  have hP := fun p W => Tryz.strings_HasPrefix s p W
  have hz : s.data.toList = s[0] :: s.data.toList.tail := by
    have := drop_at (s := s) (k := 0) h0
    rw [List.drop_zero] at this
    rw [this]; simp
  have hsg : sgN s.data.toList = if [[61, 61].isPrefixOf s.data.toList, [33, 61].isPrefixOf s.data.toList, [60, 61].isPrefixOf s.data.toList, [62, 61].isPrefixOf s.data.toList, [38, 38].isPrefixOf s.data.toList, [124, 124].isPrefixOf s.data.toList].any id then 2 else if sgls.contains s[0] then 1 else 0 := by
    unfold sgN
    rw [hz]
    rfl
  have hI := fun W => has_any ⟨#[61, 60, 62, 43, 45, 42, 47, 37, 33, 63, 58, 44, 46, 40, 41, 91, 93, 123, 125]⟩ s[0] W
  have hI2 : (⟨#[61, 60, 62, 43, 45, 42, 47, 37, 33, 63, 58, 44, 46, 40, 41, 91, 93, 123, 125]⟩ : ByteArray).data.toList.contains s[0] = sgls.contains s[0] := rfl
  rw [hI2] at hI
  clear hI2
  rw [hsg]
  have e0 := hP ⟨#[61, 61]⟩
  have e1 := hP ⟨#[33, 61]⟩
  have e2 := hP ⟨#[60, 61]⟩
  have e3 := hP ⟨#[62, 61]⟩
  have e4 := hP ⟨#[38, 38]⟩
  have e5 := hP ⟨#[124, 124]⟩
  simp only [Lib.hasPrefix] at e0 e1 e2 e3 e4 e5
  clear hsg hz hP
  generalize [61, 61].isPrefixOf s.data.toList = b0 at *
  generalize [33, 61].isPrefixOf s.data.toList = b1 at *
  generalize [60, 61].isPrefixOf s.data.toList = b2 at *
  generalize [62, 61].isPrefixOf s.data.toList = b3 at *
  generalize [38, 38].isPrefixOf s.data.toList = b4 at *
  generalize [124, 124].isPrefixOf s.data.toList = b5 at *
  obtain ⟨B, hB⟩ : ∃ B, [b0, b1, b2, b3, b4, b5].any id = B := ⟨_, rfl⟩
  rw [hB]
  obtain ⟨R, hR⟩ : ∃ R, R = (if B = true then 2 else if sgls.contains s[0] = true then 1 else 0) := ⟨_, rfl⟩
  rw [← hR]
  have HR := Lib.hid hR
  clear hR
  have HI := Lib.hid hI
  have HE := Lib.hid (And.intro e0 (And.intro e1 (And.intro e2 (And.intro e3 (And.intro e4 e5)))))
  have HBB : Hid (([b0, b1, b2, b3, b4, b5].drop 0).any id = B) := Lib.hid hB
  clear hI e0 e1 e2 e3 e4 e5 hB
  go_enter Tryz.func128, Tryz.ntmps128
  go_wp2_with fail
  go_loop [4, 6] (fun _ i => ∃ k : Nat, k ≤ 6 ∧ i = .int .i64 (k : Int) ∧ ([b0, b1, b2, b3, b4, b5].drop k).any id = B) (fun _ i => 6 - (intOf i).toNat)
  case atStart => exact ⟨0, by omega, rfl, HBB.out⟩
  case round =>
    clear HBB t0 t1 t2 t3 t4 t5
    obtain ⟨k, hk, rfl, hb⟩ := hrel
    have hk7 : k = 0 ∨ k = 1 ∨ k = 2 ∨ k = 3 ∨ k = 4 ∨ k = 5 ∨ k = 6 := by omega
    rcases hk7 with rfl | rfl | rfl | rfl | rfl | rfl | rfl
    · have e := HE.out.1
      have hx := run_index_cell (P := Tryz.prog) w 164 9 6 #[.string ⟨#[61, 61]⟩, .string ⟨#[33, 61]⟩, .string ⟨#[60, 61]⟩, .string ⟨#[62, 61]⟩, .string ⟨#[38, 38]⟩, .string ⟨#[124, 124]⟩] .i64 0 0 _ Tryz.underlying164 (by kernel_rfl) (by kernel_rfl) rfl (by decide) rfl
      cases b0 with
      | true =>
        have hB2 : Hid (B = true) := Lib.hid (by rw [← hb]; simp)
        clear hb HE HI
        go_wp2_with fail
        refine (e _).mono ?_
        rintro _ _ ⟨rfl, rfl⟩
        go_wp2
        go_ret
        exact ⟨ret_num (by rw [HR.out, hB2.out]; rfl), rfl⟩
      | false =>
        have hB2 : Hid (([b1, b2, b3, b4, b5] : List Bool).any id = B) := Lib.hid (by rw [← hb]; simp)
        clear hb HI
        go_wp2_with fail
        refine (e _).mono ?_
        rintro _ _ ⟨rfl, rfl⟩
        go_wp2
        go_round
        case rel => exact ⟨1, by omega, by go_num, hB2.out⟩
        case measure => simp [intOf]
    · have e := HE.out.2.1
      have hx := run_index_cell (P := Tryz.prog) w 164 9 6 #[.string ⟨#[61, 61]⟩, .string ⟨#[33, 61]⟩, .string ⟨#[60, 61]⟩, .string ⟨#[62, 61]⟩, .string ⟨#[38, 38]⟩, .string ⟨#[124, 124]⟩] .i64 1 1 _ Tryz.underlying164 (by kernel_rfl) (by kernel_rfl) rfl (by decide) rfl
      cases b1 with
      | true =>
        have hB2 : Hid (B = true) := Lib.hid (by rw [← hb]; simp)
        clear hb HE HI
        go_wp2_with fail
        refine (e _).mono ?_
        rintro _ _ ⟨rfl, rfl⟩
        go_wp2
        go_ret
        exact ⟨ret_num (by rw [HR.out, hB2.out]; rfl), rfl⟩
      | false =>
        have hB2 : Hid (([b2, b3, b4, b5] : List Bool).any id = B) := Lib.hid (by rw [← hb]; simp)
        clear hb HI
        go_wp2_with fail
        refine (e _).mono ?_
        rintro _ _ ⟨rfl, rfl⟩
        go_wp2
        go_round
        case rel => exact ⟨2, by omega, by go_num, hB2.out⟩
        case measure => simp [intOf]
    · have e := HE.out.2.2.1
      have hx := run_index_cell (P := Tryz.prog) w 164 9 6 #[.string ⟨#[61, 61]⟩, .string ⟨#[33, 61]⟩, .string ⟨#[60, 61]⟩, .string ⟨#[62, 61]⟩, .string ⟨#[38, 38]⟩, .string ⟨#[124, 124]⟩] .i64 2 2 _ Tryz.underlying164 (by kernel_rfl) (by kernel_rfl) rfl (by decide) rfl
      cases b2 with
      | true =>
        have hB2 : Hid (B = true) := Lib.hid (by rw [← hb]; simp)
        clear hb HE HI
        go_wp2_with fail
        refine (e _).mono ?_
        rintro _ _ ⟨rfl, rfl⟩
        go_wp2
        go_ret
        exact ⟨ret_num (by rw [HR.out, hB2.out]; rfl), rfl⟩
      | false =>
        have hB2 : Hid (([b3, b4, b5] : List Bool).any id = B) := Lib.hid (by rw [← hb]; simp)
        clear hb HI
        go_wp2_with fail
        refine (e _).mono ?_
        rintro _ _ ⟨rfl, rfl⟩
        go_wp2
        go_round
        case rel => exact ⟨3, by omega, by go_num, hB2.out⟩
        case measure => simp [intOf]
    · have e := HE.out.2.2.2.1
      have hx := run_index_cell (P := Tryz.prog) w 164 9 6 #[.string ⟨#[61, 61]⟩, .string ⟨#[33, 61]⟩, .string ⟨#[60, 61]⟩, .string ⟨#[62, 61]⟩, .string ⟨#[38, 38]⟩, .string ⟨#[124, 124]⟩] .i64 3 3 _ Tryz.underlying164 (by kernel_rfl) (by kernel_rfl) rfl (by decide) rfl
      cases b3 with
      | true =>
        have hB2 : Hid (B = true) := Lib.hid (by rw [← hb]; simp)
        clear hb HE HI
        go_wp2_with fail
        refine (e _).mono ?_
        rintro _ _ ⟨rfl, rfl⟩
        go_wp2
        go_ret
        exact ⟨ret_num (by rw [HR.out, hB2.out]; rfl), rfl⟩
      | false =>
        have hB2 : Hid (([b4, b5] : List Bool).any id = B) := Lib.hid (by rw [← hb]; simp)
        clear hb HI
        go_wp2_with fail
        refine (e _).mono ?_
        rintro _ _ ⟨rfl, rfl⟩
        go_wp2
        go_round
        case rel => exact ⟨4, by omega, by go_num, hB2.out⟩
        case measure => simp [intOf]
    · have e := HE.out.2.2.2.2.1
      have hx := run_index_cell (P := Tryz.prog) w 164 9 6 #[.string ⟨#[61, 61]⟩, .string ⟨#[33, 61]⟩, .string ⟨#[60, 61]⟩, .string ⟨#[62, 61]⟩, .string ⟨#[38, 38]⟩, .string ⟨#[124, 124]⟩] .i64 4 4 _ Tryz.underlying164 (by kernel_rfl) (by kernel_rfl) rfl (by decide) rfl
      cases b4 with
      | true =>
        have hB2 : Hid (B = true) := Lib.hid (by rw [← hb]; simp)
        clear hb HE HI
        go_wp2_with fail
        refine (e _).mono ?_
        rintro _ _ ⟨rfl, rfl⟩
        go_wp2
        go_ret
        exact ⟨ret_num (by rw [HR.out, hB2.out]; rfl), rfl⟩
      | false =>
        have hB2 : Hid (([b5] : List Bool).any id = B) := Lib.hid (by rw [← hb]; simp)
        clear hb HI
        go_wp2_with fail
        refine (e _).mono ?_
        rintro _ _ ⟨rfl, rfl⟩
        go_wp2
        go_round
        case rel => exact ⟨5, by omega, by go_num, hB2.out⟩
        case measure => simp [intOf]
    · have e := HE.out.2.2.2.2.2
      have hx := run_index_cell (P := Tryz.prog) w 164 9 6 #[.string ⟨#[61, 61]⟩, .string ⟨#[33, 61]⟩, .string ⟨#[60, 61]⟩, .string ⟨#[62, 61]⟩, .string ⟨#[38, 38]⟩, .string ⟨#[124, 124]⟩] .i64 5 5 _ Tryz.underlying164 (by kernel_rfl) (by kernel_rfl) rfl (by decide) rfl
      cases b5 with
      | true =>
        have hB2 : Hid (B = true) := Lib.hid (by rw [← hb]; simp)
        clear hb HE HI
        go_wp2_with fail
        refine (e _).mono ?_
        rintro _ _ ⟨rfl, rfl⟩
        go_wp2
        go_ret
        exact ⟨ret_num (by rw [HR.out, hB2.out]; rfl), rfl⟩
      | false =>
        have hB2 : Hid (([] : List Bool).any id = B) := Lib.hid (by rw [← hb]; simp)
        clear hb HI
        go_wp2_with fail
        refine (e _).mono ?_
        rintro _ _ ⟨rfl, rfl⟩
        go_wp2
        go_round
        case rel => exact ⟨6, by omega, by go_num, hB2.out⟩
        case measure => simp [intOf]
    · have hB2 : Hid (B = false) := Lib.hid hb.symm
      have hI := HI.out
      clear hb HE HI
      generalize sgls.contains s[0] = q at *
      go_wp2_with fail
      refine (hI _).mono ?_
      rintro _ _ ⟨⟨i, rfl, hi⟩, rfl⟩
      cases q with
      | true =>
        go_wp2
        go_ret
        exact ⟨ret_num (by rw [HR.out, hB2.out]; rfl), rfl⟩
      | false =>
        go_wp2
        go_ret
        exact ⟨ret_num (by rw [HR.out, hB2.out]; rfl), rfl⟩
end Go.Proofs.YtjlikcfabekhlaaGreatDoor

/- The number that any text is: both sides tell the same (layer 6), for the lexer's use. -/
namespace Go.Proofs.YtjlikcfabekhlaaGreatDoor
open Go.RowKit Go.Tab

theorem ParseD_any (s : ByteArray) (w : World) (hT : TabS w) (hs : s.size ≤ 1048576) :
    Calls Tryz.prog 145 #[.string s] w fun e w' => e = .returned (numOut (decR s.data.toList)) ∧ Below w.heap.size w w' := by
  by_cases h : scanN s.data.toList = s.data.toList.length ∧ s.data.toList ≠ []
  · obtain ⟨neg, ip, fr, mk, sg, pw, hn⟩ := parts_of_scan _ h.1 h.2
    rw [hn.decR]
    exact Parse_good s neg ip fr mk sg pw w hT hs hn
  · have h2 : s.data.toList = [] ∨ scanN s.data.toList ≠ s.size := by
      rw [size_list]
      by_cases h3 : s.data.toList = []
      · exact .inl h3
      · exact .inr (fun e => h ⟨e, h3⟩)
    rw [show decR s.data.toList = ((false, [], 0), 3) by unfold decR; rw [if_neg h]]
    exact Parse_bad s w hT hs h2
end Go.Proofs.YtjlikcfabekhlaaGreatDoor

/- The walks of the lexer's next, its parts (layer 11): numbers, comments. -/
namespace Go.Proofs.YtjlikcfabekhlaaGreatDoor
open Go.RowKit Go.Tab

def lrV : LR → Value
  | .tok k n => .tuple #[.int .i64 (k : Nat), .int .i64 (n : Nat), .int .i64 0, .int .i64 0]
  | .bad o e => .tuple #[.int .i64 0, .int .i64 0, .int .i64 (o : Nat), .int .i64 e]
theorem ext_take (s : ByteArray) (k : Nat) : (s.extract 0 k).data.toList = s.data.toList.take k := by rw [ext_list, List.drop_zero]
theorem ext_size {s : ByteArray} {k : Nat} (h : k ≤ s.size) : (s.extract 0 k).size = k := by rw [size_list, ext_take, List.length_take, ← size_list]; omega

set_option maxHeartbeats 2000000 in
set_option maxRecDepth 100000 in
theorem decimal_any (s : ByteArray) (w : World) (hT : LexT w) (hs : s.size ≤ 100000) :
    Calls Tryz.prog 123 #[.string s] w fun e w' => e = .returned (lrV (num1 s.data.toList)) ∧ Below w.heap.size w w' := by
  have hS := Scan_any s w hT.steps (by unfold maxLen; omega)
  have hle := scanN_le s.data.toList
  rw [← size_list] at hle
  have hP := fun W h => ParseD_any (s.extract 0 (scanN s.data.toList)) W h (by rw [ext_size hle]; omega)
  rw [ext_take] at hP
  unfold num1 decE
  generalize scanN s.data.toList = k at *
  obtain ⟨⟨⟨b, d, x⟩, z⟩, hR⟩ : ∃ r, decR (s.data.toList.take k) = r := ⟨_, rfl⟩
  rw [hR] at hP ⊢
  simp only [numOut] at hP
  clear hR
  generalize s.data.toList.take k = tk at *
  by_cases hz : z = 0
  · subst hz
    rw [if_pos rfl]
    simp only [lrV]
    go_enter Tryz.func123, Tryz.ntmps123
    go_wp2_with fail
    refine hS.mono ?_
    rintro _ _ ⟨rfl, n, rfl⟩
    have hT2 : TabS (w.drewN n) := hT.steps
    go_wp2_with fail
    refine (hP _ hT2).mono ?_
    rintro _ w2 ⟨rfl, hb2⟩
    go_wp2
    refine bodyPost_ret (v := .tuple #[.int .i64 2, .int .i64 (k : Nat), .int .i64 0, .int .i64 0]) (by simp [results, Tryz.results123, go_sem]) rfl ⟨rfl, ((below_draws w.heap.size w n).trans hb2).alloc hb2.size _⟩
  · have hz2 : (z != 0) = true := by simpa using hz
    rw [if_neg hz]
    simp only [lrV]
    clear hz
    go_enter Tryz.func123, Tryz.ntmps123
    go_wp2_with fail
    refine hS.mono ?_
    rintro _ _ ⟨rfl, n, rfl⟩
    have hT2 : TabS (w.drewN n) := hT.steps
    go_wp2_with fail
    refine (hP _ hT2).mono ?_
    rintro _ w2 ⟨rfl, hb2⟩
    go_wp2
    refine bodyPost_ret (v := .tuple #[.int .i64 0, .int .i64 0, .int .i64 0, .int .i64 z]) (by simp [results, Tryz.results123, go_sem]) rfl ⟨rfl, ((below_draws w.heap.size w n).trans hb2).alloc hb2.size _⟩

theorem lineN_index : ∀ l : Bs, (Lib.indexByte l 10 = -1 ∧ lineN l = l.length) ∨ Lib.indexByte l 10 = (lineN l : Nat)
  | [] => .inl ⟨rfl, rfl⟩
  | c :: l => by
    unfold Lib.indexByte lineN
    by_cases h : c = 10
    · subst h; right; rfl
    · rw [if_neg (by simpa using h), if_neg h]
      rcases lineN_index l with ⟨h1, h2⟩ | h1
      · left; rw [h1]; exact ⟨rfl, by rw [h2]; simp⟩
      · right; rw [h1, if_neg (by simp)]; rfl
theorem remT_none {l : Bs} {k : Nat} (h : wth l = none) : remT l k = .tok k l.length := by unfold remT; rw [h]
theorem remT_some {l : Bs} {k : Nat} {x : Nat × Int} (h : wth l = some x) : remT l k = .bad x.1 x.2 := by unfold remT; rw [h]
theorem wth_err {l : Bs} {x : Nat × Int} (h : wth l = some x) : (x.2 != 0) = true := by
  unfold wth at h
  split at h
  · cases h; rfl
  · split at h
    · cases h; rfl
    · cases h
theorem blanks_ascii : ∀ (j : Nat) b, (⟨#[32, 9, 13]⟩ : ByteArray).data.toList[j]? = some b → b.toNat < 128 := by
  intro j b h
  have hm : b ∈ ([32, 9, 13] : List UInt8) := List.mem_of_getElem? h
  simp at hm
  rcases hm with rfl | rfl | rfl <;> decide

set_option maxHeartbeats 2000000 in
set_option maxRecDepth 100000 in
theorem remark_any (s : ByteArray) (w : World) (hT : LexT w) (hs : s.size ≤ 100000) :
    Calls Tryz.prog 126 #[.string s] w fun e w' => e = .returned (lrV (remT (remS s.data.toList) 6)) ∧ Below w.heap.size w w' := by
  have hI := fun W => Tryz.strings_IndexByte s 10 W
  rw [show ((10 : Int).toNat.toUInt8) = 10 from rfl] at hI
  have hll := lineN_le s.data.toList
  rw [← size_list] at hll
  rcases lineN_index s.data.toList with ⟨h1, h2⟩ | h1
  · rw [h1] at hI
    have hTr := fun W => Any.strings_TrimRight_laid Tryz.lays162 (by kernel_rfl) s ⟨#[32, 9, 13]⟩ W (by omega) (by decide) blanks_ascii
    have he : Lib.trimRightS s.data.toList (⟨#[32, 9, 13]⟩ : ByteArray).data.toList = remS s.data.toList := by
      unfold remS
      rw [h2, List.take_length]
      rfl
    rw [he] at hTr
    clear he h1 h2 hll
    have hW := within_any (strL (remS s.data.toList))
    have hln := remS_len s.data.toList
    rw [strL_list] at hW
    have hsz : (strL (remS s.data.toList)).size = (remS s.data.toList).length := size_strL _
    rw [← size_list] at hln
    change ∀ W, Calls Tryz.prog 151 #[.string s, .string ⟨#[32, 9, 13]⟩] W fun e w' => e = .returned (.string (strL (remS s.data.toList))) ∧ Below W.heap.size W w' at hTr
    generalize hrs : remS s.data.toList = rs at *
    generalize hS : strL rs = S at *
    clear hrs hS
    have hW2 := fun w h => hW w (by omega) h
    clear hW
    cases hw : wth rs with
    | none =>
      rw [remT_none hw]
      rw [hw] at hW2
      simp only [lrV, wthV] at hW2 ⊢
      have HSZ := Lib.hid hsz
      clear hsz
      go_enter Tryz.func126, Tryz.ntmps126
      go_wp2_with fail
      refine (hI _).mono ?_
      rintro _ _ ⟨rfl, rfl⟩
      go_wp2_with fail
      refine (hTr _).mono ?_
      rintro _ w1 ⟨rfl, hb1⟩
      go_wp2_with fail
      refine (hW2 _ (hT.below hb1).utf).mono ?_
      rintro _ w2 ⟨rfl, hb2⟩
      go_wp2
      refine bodyPost_ret (v := .tuple #[.int .i64 6, .int .i64 (rs.length : Nat), .int .i64 0, .int .i64 0]) (by simp [results, Tryz.results126, go_sem, HSZ.out]) rfl ⟨rfl, hb1.trans (hb2.mono hb1.size)⟩
    | some x =>
      rw [remT_some hw]
      rw [hw] at hW2
      have hne := wth_err hw
      obtain ⟨xa, xe⟩ := x
      simp only [lrV, wthV] at hW2 hne ⊢
      go_enter Tryz.func126, Tryz.ntmps126
      go_wp2_with fail
      refine (hI _).mono ?_
      rintro _ _ ⟨rfl, rfl⟩
      go_wp2_with fail
      refine (hTr _).mono ?_
      rintro _ w1 ⟨rfl, hb1⟩
      go_wp2_with fail
      refine (hW2 _ (hT.below hb1).utf).mono ?_
      rintro _ w2 ⟨rfl, hb2⟩
      go_wp2
      refine bodyPost_ret (v := .tuple #[.int .i64 0, .int .i64 0, .int .i64 (xa : Nat), .int .i64 xe]) (by simp [results, Tryz.results126, go_sem]) rfl ⟨rfl, hb1.trans (hb2.mono hb1.size)⟩
  · rw [h1] at hI
    have hTr := fun W => Any.strings_TrimRight_laid Tryz.lays162 (by kernel_rfl) (s.extract 0 (lineN s.data.toList)) ⟨#[32, 9, 13]⟩ W (by rw [ext_size hll]; omega) (by decide) blanks_ascii
    have he : Lib.trimRightS (s.extract 0 (lineN s.data.toList)).data.toList (⟨#[32, 9, 13]⟩ : ByteArray).data.toList = remS s.data.toList := by
      unfold remS
      rw [ext_take]
      rfl
    rw [he] at hTr
    clear he h1
    generalize lineN s.data.toList = ln at *
    have hW := within_any (strL (remS s.data.toList))
    have hln := remS_len s.data.toList
    rw [strL_list] at hW
    have hsz : (strL (remS s.data.toList)).size = (remS s.data.toList).length := size_strL _
    rw [← size_list] at hln
    change ∀ W, Calls Tryz.prog 151 #[.string (s.extract 0 ln), .string ⟨#[32, 9, 13]⟩] W fun e w' => e = .returned (.string (strL (remS s.data.toList))) ∧ Below W.heap.size W w' at hTr
    generalize hrs : remS s.data.toList = rs at *
    generalize hS : strL rs = S at *
    clear hrs hS
    have hW2 := fun w h => hW w (by omega) h
    clear hW
    cases hw : wth rs with
    | none =>
      rw [remT_none hw]
      rw [hw] at hW2
      simp only [lrV, wthV] at hW2 ⊢
      have HSZ := Lib.hid hsz
      clear hsz
      go_enter Tryz.func126, Tryz.ntmps126
      go_wp2_with fail
      refine (hI _).mono ?_
      rintro _ _ ⟨rfl, rfl⟩
      go_wp2_with fail
      refine (hTr _).mono ?_
      rintro _ w1 ⟨rfl, hb1⟩
      go_wp2_with fail
      refine (hW2 _ (hT.below hb1).utf).mono ?_
      rintro _ w2 ⟨rfl, hb2⟩
      go_wp2
      refine bodyPost_ret (v := .tuple #[.int .i64 6, .int .i64 (rs.length : Nat), .int .i64 0, .int .i64 0]) (by simp [results, Tryz.results126, go_sem, HSZ.out]) rfl ⟨rfl, hb1.trans (hb2.mono hb1.size)⟩
    | some x =>
      rw [remT_some hw]
      rw [hw] at hW2
      have hne := wth_err hw
      obtain ⟨xa, xe⟩ := x
      simp only [lrV, wthV] at hW2 hne ⊢
      go_enter Tryz.func126, Tryz.ntmps126
      go_wp2_with fail
      refine (hI _).mono ?_
      rintro _ _ ⟨rfl, rfl⟩
      go_wp2_with fail
      refine (hTr _).mono ?_
      rintro _ w1 ⟨rfl, hb1⟩
      go_wp2_with fail
      refine (hW2 _ (hT.below hb1).utf).mono ?_
      rintro _ w2 ⟨rfl, hb2⟩
      go_wp2
      refine bodyPost_ret (v := .tuple #[.int .i64 0, .int .i64 0, .int .i64 (xa : Nat), .int .i64 xe]) (by simp [results, Tryz.results126, go_sem]) rfl ⟨rfl, hb1.trans (hb2.mono hb1.size)⟩
end Go.Proofs.YtjlikcfabekhlaaGreatDoor

/- The walks of the reference's lexer: its small functions, and comments (layer 11). -/
namespace Go.Proofs.YtjlikcfabekhlaaGreatDoor
open Go.RowKit Go.Tab

theorem OwnT.one (base : Nat) (w : World) (t : Tok) (hb : base ≤ w.heap.size) : OwnT base (w.alloc (.cells #[.int .i64 t.kind, .string t.text, .int .i64 t.pos] 52)) (.slice (some ⟨w.heap.size, 0, none⟩) 1 1) [t] := by
  have h := World.ownsRow_lit (base := base) (e := 52) (size := 3) w #[.int .i64 t.kind, .string t.text, .int .i64 t.pos] 1 hb (by decide) (by simp)
  unfold OwnT
  simpa [tokC] using h
/-- What the reference tells: tokens, a place, an error. -/
def TellP (w : World) (l : List Tok) (a e : Int) (r : Ending) (w' : World) : Prop := ∃ v, r = .returned (.agg #[v, .int .i64 a, .int .i64 e]) ∧ OwnT w.heap.size w' v l ∧ Below w.heap.size w w'

set_option maxHeartbeats 2000000 in
set_option maxRecDepth 100000 in
theorem Letter_any (c : UInt8) (w : World) : Calls Tryz.prog 63 #[.int .u8 c.toNat] w fun e w' => e = .returned (.bool (letB c)) ∧ w = w' := by
  have hL : letB c = (decide (65 ≤ c.toNat ∧ c.toNat ≤ 90) || (decide (97 ≤ c.toNat ∧ c.toNat ≤ 122) || decide (c.toNat = 95))) := rfl
  generalize letB c = b at hL
  generalize c.toNat = n at hL
  have hr : ((n < 65 ∨ (n < 97 ∧ 65 ≤ n ∧ 90 < n ∧ n < 95) ∨ (n < 97 ∧ 65 ≤ n ∧ 90 < n ∧ n = 96) ∨ (97 ≤ n ∧ 122 < n)) ∧ b = false) ∨ (((n < 97 ∧ 65 ≤ n ∧ n ≤ 90) ∨ (97 ≤ n ∧ n ≤ 122) ∨ (n < 97 ∧ 65 ≤ n ∧ 90 < n ∧ n = 95)) ∧ b = true) := by
    cases b with
    | false =>
      have h := hL.symm
      simp only [Bool.or_eq_false_iff, decide_eq_false_iff_not] at h
      left
      exact ⟨by omega, rfl⟩
    | true =>
      have h := hL.symm
      simp only [Bool.or_eq_true, decide_eq_true_eq] at h
      right
      exact ⟨by omega, rfl⟩
  clear hL
  rcases hr with ⟨(h | ⟨h1, h2, h3, h4⟩ | ⟨h1, h2, h3, rfl⟩ | ⟨h1, h2⟩), rfl⟩ | ⟨(⟨h1, h2, h3⟩ | ⟨h1, h2⟩ | ⟨h1, h2, h3, rfl⟩), rfl⟩
  all_goals
    go_enter Tryz.func63, Tryz.ntmps63
    go_wp2
    go_ret
    first
    | exact ⟨rfl, rfl⟩
    | exact ⟨ret_bool (by simp only [ne_eq, Bool.or_eq_false_iff, Bool.or_eq_true, Bool.and_eq_true, Bool.and_eq_false_iff, decide_eq_false_iff_not, decide_eq_true_eq, beq_eq_false_iff_ne, beq_iff_eq]; omega), rfl⟩

set_option maxHeartbeats 2000000 in
set_option maxRecDepth 100000 in
theorem Blank_any (c : UInt8) (w : World) : Calls Tryz.prog 37 #[.int .u8 c.toNat] w fun e w' => e = .returned (.bool (blankB c)) ∧ w = w' := by
  by_cases h1 : c = 32
  · subst h1
    go_enter Tryz.func37, Tryz.ntmps37
    go_wp2
    go_ret
    exact ⟨rfl, rfl⟩
  by_cases h2 : c = 9
  · subst h2
    go_enter Tryz.func37, Tryz.ntmps37
    go_wp2
    go_ret
    exact ⟨rfl, rfl⟩
  by_cases h3 : c = 13
  · subst h3
    go_enter Tryz.func37, Tryz.ntmps37
    go_wp2
    go_ret
    exact ⟨rfl, rfl⟩
  have hb : blankB c = false := by simp [blankB, blanksB, h1, h2, h3]
  rw [hb]
  have d1 := u8_nb h1 (m := 32) rfl
  have d2 := u8_nb h2 (m := 9) rfl
  have d3 := u8_nb h3 (m := 13) rfl
  clear h1 h2 h3 hb
  go_enter Tryz.func37, Tryz.ntmps37
  go_wp2
  go_ret
  exact ⟨rfl, rfl⟩

theorem ext_pfx {s w : ByteArray} {k : Nat} (h : k + w.size ≤ s.size) : (s.extract k (k + w.size) = w) ↔ w.data.toList.isPrefixOf (s.data.toList.drop k) = true := by
  rw [List.isPrefixOf_iff_prefix]
  have e1 : (s.extract k (k + w.size)).data.toList = (s.data.toList.drop k).take w.data.toList.length := by
    rw [ext_list, List.drop_take, ← size_list]; congr 1; omega
  constructor
  · intro he
    rw [he] at e1
    rw [List.prefix_iff_eq_take]
    exact e1
  · intro hp
    apply str_ext
    rw [e1]
    exact (List.prefix_iff_eq_take.1 hp).symm
set_option maxHeartbeats 2000000 in
set_option maxRecDepth 100000 in
theorem is_any (s : ByteArray) (k : Nat) (p : ByteArray) (w : World) (hs : s.size ≤ 1000000) (hk : k ≤ s.size) (hp : p.size ≤ 1000) :
    Calls Tryz.prog 67 #[.string s, .int .i64 (k : Nat), .string p] w fun e w' => e = .returned (.bool (p.data.toList.isPrefixOf (s.data.toList.drop k))) ∧ w = w' := by
  by_cases h : k + p.size ≤ s.size
  · have hx := ext_pfx h
    generalize p.data.toList.isPrefixOf (s.data.toList.drop k) = b at hx
    have hsl : s.extract k (k + p.size) = s.extract k (k + p.size) := rfl
    have HX := Lib.hid hx
    clear hx
    cases b with
    | true =>
      have he := HX.out.2 rfl
      go_enter Tryz.func67, Tryz.ntmps67
      go_wp2
      go_ret
      exact ⟨rfl, rfl⟩
    | false =>
      have he := str_ne (fun e => by have := HX.out.1 e; cases this)
      go_enter Tryz.func67, Tryz.ntmps67
      go_wp2
      go_ret
      exact ⟨rfl, rfl⟩
  · have hb : p.data.toList.isPrefixOf (s.data.toList.drop k) = false := by
      rw [← Bool.not_eq_true]
      intro hp
      have := (List.isPrefixOf_iff_prefix.1 hp).length_le
      rw [List.length_drop, ← size_list, ← size_list] at this
      omega
    rw [hb]
    clear hb
    go_enter Tryz.func67, Tryz.ntmps67
    go_wp2
    go_ret
    exact ⟨rfl, rfl⟩

theorem lineN_step (l : Bs) (k : Nat) (h : k < l.length) : lineN (l.drop k) = if l[k] = 10 then 0 else lineN (l.drop (k + 1)) + 1 := by
  rw [List.drop_eq_getElem_cons h, lineN]
set_option maxHeartbeats 2000000 in
set_option maxRecDepth 100000 in
theorem end_any (s : ByteArray) (k : Nat) (w : World) (hs : s.size ≤ 1000000) (hk : k ≤ s.size) :
    Calls Tryz.prog 68 #[.string s, .int .i64 (k : Nat)] w fun e w' => e = .returned (.int .i64 ((k + lineN (s.data.toList.drop k) : Nat) : Int)) ∧ w = w' := by
  obtain ⟨q, hq⟩ : ∃ q, k + lineN (s.data.toList.drop k) = q := ⟨_, rfl⟩
  rw [hq]
  have HQ := Lib.hid hq
  clear hq
  go_enter Tryz.func68, Tryz.ntmps68
  go_wp2_with fail
  go_loop [1] (fun i => ∃ j : Nat, i = .int .i64 (j : Int) ∧ j ≤ s.size ∧ j + lineN (s.data.toList.drop j) = q) (fun i => s.size - (intOf i).toNat)
  case atStart => exact ⟨k, rfl, hk, HQ.out⟩
  case round =>
    clear HQ
    obtain ⟨j, rfl, hj, hI⟩ := hrel
    by_cases hlt : j < s.size
    · have hst := lineN_step s.data.toList j (by rw [← size_list]; exact hlt)
      rw [hst, ← get_list hlt] at hI
      clear hst
      by_cases h10 : s[j]'hlt = 10
      · have d : (((s[j]'hlt).toNat : Int) != 10) = false := by rw [h10]; rfl
        rw [if_pos h10] at hI
        have HI := Lib.hid hI
        clear hI h10
        go_wp2
        go_ret
        exact ⟨ret_num (by have := HI.out; omega), rfl⟩
      · have d : (((s[j]'hlt).toNat : Int) != 10) = true := by
          have := u8_nb h10 (m := 10) rfl
          rw [beq_eq_false_iff_ne] at this
          rw [bne_iff_ne]; exact this
        rw [if_neg h10] at hI
        have HI := Lib.hid hI
        clear hI h10
        go_wp2
        go_round
        case rel => exact ⟨j + 1, by go_num, by omega, by have := HI.out; omega⟩
        case measure => simp [intOf]; omega
    · obtain rfl : j = s.size := by omega
      have he : lineN (s.data.toList.drop s.size) = 0 := by rw [size_list, List.drop_length]; rfl
      rw [he] at hI
      have HI := Lib.hid hI
      clear hI he
      go_wp2
      go_ret
      exact ⟨ret_num (by have := HI.out; omega), rfl⟩

set_option maxHeartbeats 2000000 in
set_option maxRecDepth 100000 in
theorem token_any (s : ByteArray) (k n : Nat) (kd : Int) (w : World) (hs : s.size ≤ 1000000) (hk : k + n ≤ s.size) :
    Calls Tryz.prog 62 #[.string s, .int .i64 (k : Nat), .int .i64 kd, .int .i64 (n : Nat)] w (TellP w [⟨kd, s.extract k (k + n), (k : Nat)⟩] 0 0) := by
  go_enter Tryz.func62, Tryz.ntmps62
  go_wp2
  have hc := (Cells.new w #[.slice (some ⟨w.heap.size + 1, 0, none⟩) 1 1, .int .i64 0, .int .i64 0] 26).alloc (.cells #[.int .i64 kd, .string (s.extract k (k + n)), .int .i64 (k : Nat)] 52)
  have hcc0 := hc.cell 0 _ rfl
  have hcf0 := hc.frozen 0
  have hcc1 := hc.cell 1 _ rfl
  have hcf1 := hc.frozen 1
  have hcc2 := hc.cell 2 _ rfl
  have hcf2 := hc.frozen 2
  have hown := OwnT.one w.heap.size (w.alloc (.cells #[.slice (some ⟨w.heap.size + 1, 0, none⟩) 1 1, .int .i64 0, .int .i64 0] 26)) ⟨kd, s.extract k (k + n), (k : Nat)⟩ (by simp)
  rw [World.size_alloc] at hown
  refine bodyPost_ret (v := .agg #[.slice (some ⟨w.heap.size + 1, 0, none⟩) 1 1, .int .i64 0, .int .i64 0]) (by simp [results, Tryz.results62, go_sem, hcc0, hcc1, hcc2]) rfl ?_
  exact ⟨_, rfl, hown, ((Below.refl _ w).alloc (Nat.le_refl _) _).alloc (by simp) _⟩

/-- What the reference tells of a token, or of what is none. -/
def lrT (s : ByteArray) (k : Nat) : LR → List Tok × Int × Int
  | .tok kd n => ([⟨(kd : Nat), s.extract k (k + n), (k : Nat)⟩], 0, 0)
  | .bad o e => ([], ((k + o : Nat) : Int), e)
theorem bs_ext (s : ByteArray) (a b : Nat) : bs (s.extract a b) = nb ((s.data.toList.take b).drop a) := by
  unfold bs nb
  rw [ext_list]
theorem nb_drop (l : Bs) (k : Nat) : nb (l.drop k) = (nb l).drop k := by unfold nb; rw [List.map_drop]

set_option maxHeartbeats 4000000 in
set_option maxRecDepth 100000 in
theorem comment_any (s : ByteArray) (k stop kd : Nat) (w : World) (hs : s.size ≤ 100000) (hk : k ≤ stop) (hst : stop ≤ s.size) :
    Calls Tryz.prog 69 #[.string s, .int .i64 (k : Nat), .int .i64 (stop : Nat), .int .i64 (kd : Nat)] w
      (TellP w (lrT s k (remT ((s.data.toList.take stop).drop k) kd)).1 (lrT s k (remT ((s.data.toList.take stop).drop k) kd)).2.1 (lrT s k (remT ((s.data.toList.take stop).drop k) kd)).2.2) := by
  obtain ⟨L, hL⟩ : ∃ L, (s.data.toList.take stop).drop k = L := ⟨_, rfl⟩
  have hLl : L.length = stop - k := by rw [← hL, List.length_drop, List.length_take, ← size_list]; omega
  have hOne : ∀ (j : Nat) W, j ≤ L.length → Calls Tryz.prog 95 #[.string (s.extract 0 stop), .int .i64 ((k + j : Nat) : Int)] W fun e w' => e = .returned (.tuple #[.int .i64 (oneN ((nb L).drop j)).1, .int .i64 (oneN ((nb L).drop j)).2]) ∧ Below W.heap.size W w' := fun j W hj => by
    have h := One_any (s.extract 0 stop) (k + j) W (by rw [ext_size hst]; omega) (by rw [ext_size hst]; omega)
    rw [bs_ext, List.drop_zero] at h
    rw [← hL, nb_drop, List.drop_drop]
    exact h
  rw [hL]
  clear hL
  go_enter Tryz.func69, Tryz.ntmps69
  go_wp2_with fail
  go_loopw [9, 10, 11] (fun i _ _ wr => ∃ (j : Nat) (pre : List (Nat × Nat)), i = .int .i64 ((k + j : Nat) : Int) ∧ j ≤ L.length ∧ Rest (nb L) j pre ∧ (∀ x ∈ pre, badC x = false) ∧ Below w.heap.size w wr ∧ Cells wr w.heap.size #[.slice none 0 0, .int .i64 0, .int .i64 0] 26) (fun i _ _ _ => stop - (intOf i).toNat)
  case atStart => exact ⟨0, [], rfl, Nat.zero_le _, Rest.zero _, by simp, (Below.refl _ w).alloc (Nat.le_refl _) _, Cells.new w _ _⟩
  case round =>
    obtain ⟨j, pre, rfl, hj, hR, hg, hb, hc⟩ := hrel
    have hlt := hc.lt
    by_cases h : j < L.length
    · have hk1 : k + j < stop := by omega
      have hO := fun W => hOne j W hj
      obtain ⟨c, n, h1⟩ : ∃ c n, oneN ((nb L).drop j) = (c, n) := ⟨_, _, rfl⟩
      rw [h1] at hO
      have hle := (oneN_le ((nb L).drop j) ((nb_byt L).drop j)).1
      rw [h1] at hle
      simp only [List.length_drop, nb_len] at hle
      have HR := Lib.hid hR
      have HG := Lib.hid hg
      have H1 := Lib.hid h1
      clear hR hg h1 hOne
      by_cases hn : n = 0
      · subst hn
        have hw : wth L = some (j, 7) := by
          have h2 := HR.out.bad (by rw [nb_len]; exact h) (by rw [H1.out])
          rw [wth_none (by rw [h2]; exact HG.out), h2]
        have HW := Lib.hid hw
        clear hw
        go_wp2_with fail
        refine (hO _).mono ?_
        rintro _ w2 ⟨rfl, hb2⟩
        have hc2 := hc.below hb2 hlt
        have hlt2 := hc2.lt
        have HB := Lib.hid (hb.trans (hb2.mono hb.size))
        clear hb hb2 hc
        have hc2c0 := hc2.cell 0 _ rfl
        have hc2f0 := hc2.frozen 0
        have hc2c1 := hc2.cell 1 _ rfl
        have hc2f1 := hc2.frozen 1
        have hc2c2 := hc2.cell 2 _ rfl
        have hc2f2 := hc2.frozen 2
        go_wp2
        have hq := ((hc2.setI 0 (.slice none 0 0)).setI 1 (.int .i64 ((k : Int) + j))).setI 2 (.int .i64 7)
        have hx := hq.cell 0 _ rfl
        have hy := hq.cell 1 _ rfl
        have hz := hq.cell 2 _ rfl
        refine bodyPost_ret (v := .agg #[.slice none 0 0, .int .i64 ((k : Int) + j), .int .i64 7]) (by simp [results, Tryz.results69, go_sem, hx, hy, hz]) rfl ?_
        rw [remT_some HW.out]
        exact ⟨_, by simp [lrT], OwnT.nil, setAll_below _ _ (Nat.le_refl _) [.slice none 0 0, .int .i64 ((k : Int) + j), .int .i64 7] 0 _ _ HB.out⟩
      · have hgd := HR.out.good (by rw [nb_len]; exact h) H1.out hn
        have hn2 : ((n : Int) == 0) = false := by rw [beq_eq_false_iff_ne]; omega
        have HGD := Lib.hid hgd
        clear hgd
        by_cases hx : c < 32 ∧ c ≠ 9
        · have d1 : decide ((c : Int) < 32) = true := by rw [decide_eq_true_eq]; omega
          have d2 : ((c : Int) != 9) = true := by rw [bne_iff_ne]; omega
          have hbx : badC (j, c) = true := by simp [badC, hx.1, hx.2]
          have hw : wth L = some (j, 3) := wth_some (x := (j, c)) ⟨(scan ((nb L).drop (j + n)) (j + n)).1, by have := HGD.out; unfold Rest at this; rw [this]⟩ HG.out hbx
          clear hx hbx
          have HW := Lib.hid hw
          clear hw
          go_wp2_with fail
          refine (hO _).mono ?_
          rintro _ w2 ⟨rfl, hb2⟩
          have hc2 := hc.below hb2 hlt
          have hlt2 := hc2.lt
          have HB := Lib.hid (hb.trans (hb2.mono hb.size))
          clear hb hb2 hc
          have hc2c0 := hc2.cell 0 _ rfl
          have hc2f0 := hc2.frozen 0
          have hc2c1 := hc2.cell 1 _ rfl
          have hc2f1 := hc2.frozen 1
          have hc2c2 := hc2.cell 2 _ rfl
          have hc2f2 := hc2.frozen 2
          go_wp2
          have hq := ((hc2.setI 0 (.slice none 0 0)).setI 1 (.int .i64 ((k : Int) + j))).setI 2 (.int .i64 3)
          have hx := hq.cell 0 _ rfl
          have hy := hq.cell 1 _ rfl
          have hz := hq.cell 2 _ rfl
          refine bodyPost_ret (v := .agg #[.slice none 0 0, .int .i64 ((k : Int) + j), .int .i64 3]) (by simp [results, Tryz.results69, go_sem, hx, hy, hz]) rfl ?_
          rw [remT_some HW.out]
          exact ⟨_, by simp [lrT], OwnT.nil, setAll_below _ _ (Nat.le_refl _) [.slice none 0 0, .int .i64 ((k : Int) + j), .int .i64 3] 0 _ _ HB.out⟩
        · have hbx : badC (j, c) = false := by
            simp only [badC, Bool.and_eq_false_iff, decide_eq_false_iff_not, bne_eq_false_iff_eq]
            omega
          have HGS := Lib.hid (good_snoc HG.out hbx)
          have hr : 32 ≤ c ∨ c = 9 := by omega
          have hnp : 1 ≤ n := by omega
          clear hx hbx hn
          rcases hr with hr | hr
          · have d1 : decide ((c : Int) < 32) = false := by rw [decide_eq_false_iff_not]; omega
            go_wp2_with fail
            refine (hO _).mono ?_
            rintro _ w2 ⟨rfl, hb2⟩
            have hc2 := hc.below hb2 hlt
            have hb3 := hb.trans (hb2.mono hb.size)
            go_wp2
            go_roundw
            case rel => exact ⟨j + n, _, by go_num, by omega, HGD.out, HGS.out, hb3, hc2⟩
            case measure => simp [intOf]; omega
          · have d1 : decide ((c : Int) < 32) = true := by rw [decide_eq_true_eq]; omega
            have d2 : ((c : Int) != 9) = false := by rw [bne_eq_false_iff_eq]; omega
            go_wp2_with fail
            refine (hO _).mono ?_
            rintro _ w2 ⟨rfl, hb2⟩
            have hc2 := hc.below hb2 hlt
            have hb3 := hb.trans (hb2.mono hb.size)
            go_wp2
            go_roundw
            case rel => exact ⟨j + n, _, by go_num, by omega, HGD.out, HGS.out, hb3, hc2⟩
            case measure => simp [intOf]; omega
    · obtain rfl : j = L.length := by omega
      have hw : wth L = none := by
        have h2 := hR.done (by rw [nb_len])
        rw [wth_none (by rw [h2]; exact hg), h2]
      have hkL : k + L.length = stop := by omega
      have HW := Lib.hid hw
      have HLL := Lib.hid hLl
      clear hw hR hg hOne h hLl
      rw [hkL]
      have hc2 := hc
      have HB := Lib.hid hb
      clear hb
      have hcc0 := hc.cell 0 _ rfl
      have hcf0 := hc.frozen 0
      have hcc1 := hc.cell 1 _ rfl
      have hcf1 := hc.frozen 1
      have hcc2 := hc.cell 2 _ rfl
      have hcf2 := hc.frozen 2
      go_wp2
      have hq := (((hc2.setI 0 (.slice (some ⟨wr.heap.size, 0, none⟩) 1 1)).setI 1 (.int .i64 0)).setI 2 (.int .i64 0)).alloc (.cells #[.int .i64 (kd : Nat), .string (s.extract k stop), .int .i64 (k : Nat)] 52)
      have hx := hq.cell 0 _ rfl
      have hy := hq.cell 1 _ rfl
      have hz := hq.cell 2 _ rfl
      refine bodyPost_ret (v := .agg #[.slice (some ⟨wr.heap.size, 0, none⟩) 1 1, .int .i64 0, .int .i64 0]) (by simp [results, Tryz.results69, go_sem, hx, hy, hz]) rfl ?_
      rw [remT_none HW.out]
      have hown := OwnT.one w.heap.size (setAll wr w.heap.size 0 [.slice (some ⟨wr.heap.size, 0, none⟩) 1 1, .int .i64 0, .int .i64 0]) ⟨(kd : Nat), s.extract k (k + L.length), (k : Nat)⟩ (by rw [setAll_size]; exact HB.out.size)
      rw [setAll_size, hkL] at hown
      exact ⟨_, rfl, by simp only [lrT]; rw [hkL]; exact hown, (setAll_below _ _ (Nat.le_refl _) [.slice (some ⟨wr.heap.size, 0, none⟩) 1 1, .int .i64 0, .int .i64 0] 0 _ _ HB.out).alloc (by rw [setAll_size]; exact HB.out.size) _⟩
end Go.Proofs.YtjlikcfabekhlaaGreatDoor

/- What the reference's Parse gathers, plain (layer 6). -/
namespace Go.Proofs.YtjlikcfabekhlaaGreatDoor

def stF (x : Bs × Int × Bool) (c : UInt8) : Bs × Int × Bool :=
  if c = 46 then (x.1, x.2.1, true) else (if x.1 ≠ [] ∨ c ≠ 48 then x.1 ++ [c] else x.1, if x.2.2 then x.2.1 - 1 else x.2.1, x.2.2)
theorem trimL_snoc (a : Bs) (c : UInt8) : Lib.trimLeftB (a ++ [c]) 48 = if Lib.trimLeftB a 48 ≠ [] ∨ c ≠ 48 then Lib.trimLeftB a 48 ++ [c] else Lib.trimLeftB a 48 := by
  unfold Lib.trimLeftB
  induction a with
  | nil =>
    by_cases h : c = 48
    · subst h; rfl
    · simp [h, List.dropWhile]
  | cons x a ih =>
    by_cases h : x = 48
    · subst h
      simpa [List.dropWhile_cons] using ih
    · simp [List.dropWhile_cons, h]
theorem stF_digits (p : Bool) : ∀ (b a : Bs) (e : Int), b.all dg = true → b.foldl stF (Lib.trimLeftB a 48, e, p) = (Lib.trimLeftB (a ++ b) 48, if p then e - b.length else e, p)
  | [], a, e, _ => by simp
  | c :: b, a, e, h => by
    rw [List.all_cons, Bool.and_eq_true] at h
    have hc : c ≠ 46 := dg_ne h.1 (by decide)
    have h1 : stF (Lib.trimLeftB a 48, e, p) c = (Lib.trimLeftB (a ++ [c]) 48, if p then e - 1 else e, p) := by
      rw [stF, if_neg hc, trimL_snoc]
    rw [List.foldl_cons, h1, stF_digits p b (a ++ [c]) _ h.2, List.append_assoc, List.singleton_append, List.length_cons]
    cases p
    · rfl
    · simp only [if_true]
      congr 2
      omega
section
variable {l : Bs} {neg : Bool} {ip fr mk sg pw : Bs}
theorem NumTxt.gather (h : NumTxt l neg ip fr mk sg pw) : ∃ p, (frontT ip fr).foldl stF ([], 0, false) = (valD ip fr, -(fr.length : Int), p) := by
  have e0 : (([] : Bs), (0 : Int), false) = (Lib.trimLeftB [] 48, (0 : Int), false) := rfl
  rw [frontT, List.foldl_append, e0, stF_digits false ip [] 0 h.dip, List.nil_append]
  by_cases hf : fr = []
  · subst hf
    exact ⟨false, by simp [valD]⟩
  · rw [if_neg hf, List.foldl_cons]
    have h1 : stF (Lib.trimLeftB ip 48, if false then (0 : Int) - ip.length else 0, false) 46 = (Lib.trimLeftB ip 48, 0, true) := rfl
    rw [h1, stF_digits true fr ip 0 h.dfr]
    exact ⟨true, by simp [valD]⟩
end
def stP (x : Nat × Bool) (c : UInt8) : Nat × Bool := (if dg c then addQ x.1 c else x.1, x.2 || decide (c = 45))
theorem stP_digits : ∀ (b : Bs) (n : Nat) (p : Bool), b.all dg = true → b.foldl stP (n, p) = (b.foldl addQ n, p)
  | [], _, _, _ => rfl
  | c :: b, n, p, h => by
    rw [List.all_cons, Bool.and_eq_true] at h
    have hc : decide (c = 45) = false := decide_eq_false (dg_ne h.1 (by decide))
    rw [List.foldl_cons, List.foldl_cons, stP, if_pos h.1, hc, Bool.or_false, stP_digits b _ p h.2]
theorem power_gather (sg pw : Bs) (hs : sg = [] ∨ sg = [43] ∨ sg = [45]) (hp : pw.all dg = true) : (sg ++ pw).foldl stP (0, false) = (pw.foldl addQ 0, decide (sg = [45])) := by
  rcases hs with rfl | rfl | rfl
  · exact stP_digits pw 0 false hp
  · rw [List.foldl_append]; exact stP_digits pw 0 false hp
  · rw [List.foldl_append]; exact stP_digits pw 0 true hp
theorem foldQ_lt : ∀ (l : Bs) (n : Nat), n < 10000000000 → l.all dg = true → l.foldl addQ n < 10000000000
  | [], _, h, _ => h
  | c :: l, n, h, hd => by
    rw [List.all_cons, Bool.and_eq_true] at hd
    have := dg_lt hd.1
    rw [List.foldl_cons]
    refine foldQ_lt l _ ?_ hd.2
    unfold addQ
    split <;> omega
theorem trimR_snoc (a : Bs) (c : UInt8) : Lib.trimRightB (a ++ [c]) 48 = if c = 48 then Lib.trimRightB a 48 else a ++ [c] := by
  unfold Lib.trimRightB
  rw [List.reverse_append, List.reverse_cons, List.reverse_nil, List.nil_append, List.singleton_append, List.dropWhile_cons]
  by_cases h : c = 48
  · subst h; simp
  · simp [h]
end Go.Proofs.YtjlikcfabekhlaaGreatDoor

/- The walk of Right of a number (layer 6), the reference's. -/
namespace Go.Proofs.YtjlikcfabekhlaaGreatDoor
open Go.RowKit Go.Tab

set_option maxRecDepth 100000 in
theorem rdig_yes (s : ByteArray) (k : Nat) (w : World) (h : k < s.size) (hd : 48 ≤ (s[k]'h).toNat ∧ (s[k]'h).toNat ≤ 57) :
    Calls Tryz.prog 91 #[.string s, .int .i64 k] w fun r w' => r = .returned (.bool true) ∧ w = w' := by
  go_enter Tryz.func91, Tryz.ntmps91
  go_wp2
  go_ret
  refine ⟨?_, rfl⟩
  show Ending.returned (.bool (decide _)) = _
  rw [decide_eq_true (by omega)]
set_option maxRecDepth 100000 in
theorem rdig_no (s : ByteArray) (k : Nat) (w : World) (h : k < s.size) (hd : ¬ (48 ≤ (s[k]'h).toNat ∧ (s[k]'h).toNat ≤ 57)) :
    Calls Tryz.prog 91 #[.string s, .int .i64 k] w fun r w' => r = .returned (.bool false) ∧ w = w' := by
  have hdg' : (s[k]'h).toNat < 48 ∨ (48 ≤ (s[k]'h).toNat ∧ 57 < (s[k]'h).toNat) := by omega
  clear hd
  rcases hdg' with hdg | hdg
  all_goals
    go_enter Tryz.func91, Tryz.ntmps91
    go_wp2
    go_ret
    refine ⟨?_, rfl⟩
    first | rfl | (show Ending.returned (.bool (decide _)) = _; rw [decide_eq_false (by omega)])

set_option maxHeartbeats 4000000 in
set_option maxRecDepth 100000 in
theorem rNumRight_any (neg : Bool) (d : ByteArray) (e : Int) (w : World) (hd : d.size ≤ 1048576) :
    Calls Tryz.prog 93 #[.agg #[.bool neg, .string d, .int .i64 e]] w fun r w' => r = .returned (.bool (numR neg d e)) ∧ Below w.heap.size w w' := by
  have hx0 := Cells.new w #[.bool neg, .string d, .int .i64 e] 106
  have hb0 : Below w.heap.size w (w.alloc (.cells #[.bool neg, .string d, .int .i64 e] 106)) := (Below.refl _ w).alloc (Nat.le_refl _) _
  by_cases h0 : d.size = 0
  · have hR := Lib.hid (numR_empty (neg := neg) (e := e) h0)
    cases neg
    all_goals
      go_enter Tryz.func93, Tryz.ntmps93
      go_wp2
      go_ret
      refine ⟨?_, hb0⟩
      rw [hR.out]
      first | rfl | (congr 2; by_cases he : e = 0 <;> simp [he])
  · by_cases h1 : 1000 < d.size ∨ e < -10000 ∨ 10000 < e
    · have hR := Lib.hid (numR_great (neg := neg) h0 h1)
      have h1' : 1000 < d.size ∨ (d.size ≤ 1000 ∧ e < -10000) ∨ (d.size ≤ 1000 ∧ -10000 ≤ e ∧ 10000 < e) := by omega
      clear h1
      have q0 : ((d.size : Int) == 0) = false := by rw [beq_eq_false_iff_ne]; omega
      have q1 : decide ((1000 : Int) < (d.size : Int)) = decide (1000 < d.size) := by congr 1; apply propext; omega
      have q2 : decide (e < -10000) = decide (e < -10000) := rfl
      rcases h1' with h1 | ⟨h1, h2⟩ | ⟨h1, h2, h3⟩
      all_goals
        go_enter Tryz.func93, Tryz.ntmps93
        go_wp2
        go_ret
        refine ⟨?_, hb0⟩
        rw [hR.out]
        try rfl
    · have H1 := Lib.hid h1
      have h2 : d.size ≤ 1000 ∧ -10000 ≤ e ∧ e ≤ 10000 := by omega
      clear h1
      have hp : 0 < d.size := by omega
      go_enter Tryz.func93, Tryz.ntmps93
      go_wp2_with fail
      go_loop [3] (fun i => ∃ k : Nat, k ≤ d.size ∧ i = .int .i64 (k : Int) ∧ ∀ j (hj : j < d.size), j < k → 48 ≤ (d[j]'hj).toNat ∧ (d[j]'hj).toNat ≤ 57) (fun i => d.size - (intOf i).toNat)
      case atStart => exact ⟨0, Nat.zero_le _, rfl, fun j _ h => by omega⟩
      case round =>
        obtain ⟨k, hk, rfl, hall⟩ := hrel
        have HA := Lib.hid hall
        clear hall
        have hx0c0 := hx0.cell 0 _ rfl
        have hx0f0 := hx0.frozen 0
        have hx0c1 := hx0.cell 1 _ rfl
        have hx0f1 := hx0.frozen 1
        have hx0c2 := hx0.cell 2 _ rfl
        have hx0f2 := hx0.frozen 2
        by_cases hkl : k < d.size
        · by_cases hdg : 48 ≤ (d[k]'hkl).toNat ∧ (d[k]'hkl).toNat ≤ 57
          · have HA2 : Hid (∀ j (hj : j < d.size), j < k + 1 → 48 ≤ (d[j]'hj).toNat ∧ (d[j]'hj).toNat ≤ 57) := Lib.hid (fun j hj h => by
              by_cases hjk : j = k
              · subst hjk; exact hdg
              · exact HA.out j hj (by omega))
            clear HA
            have hF := fun W => rdig_yes d k W hkl hdg
            go_wp2_with fail
            refine (hF _).mono ?_
            rintro r w1 ⟨rfl, rfl⟩
            go_wp2
            go_round
            case rel => exact ⟨k + 1, by omega, by go_num, HA2.out⟩
            case measure => simp [intOf]; omega
          · have hR := Lib.hid (numR_not (neg := neg) (e := e) hkl hdg)
            have hF := fun W => rdig_no d k W hkl hdg
            clear hdg
            go_wp2_with fail
            refine (hF _).mono ?_
            rintro r w1 ⟨rfl, rfl⟩
            go_wp2
            go_ret
            refine ⟨?_, hb0⟩
            rw [hR.out]
            try rfl
        · obtain rfl : k = d.size := by omega
          have hR := Lib.hid (numR_yes (neg := neg) hp H1.out (fun j hj => HA.out j hj hj))
          by_cases hz : (d[0]'hp).toNat = 48
          · go_wp2
            go_ret
            refine ⟨?_, hb0⟩
            rw [hR.out]
            simp [hz]
          · go_wp2
            go_ret
            refine ⟨?_, hb0⟩
            rw [hR.out]
            have hz' : ¬ (((d[0]'hp).toNat : Int) = 48) := by omega
            by_cases hy : (d[d.size - 1]'(by omega)).toNat = 48
            · simp [hz, hz', hy, bne]
            · have hy' : ¬ (((d[d.size - 1]'(by omega)).toNat : Int) = 48) := by omega
              simp [hz, hz', hy, hy', bne]
end Go.Proofs.YtjlikcfabekhlaaGreatDoor
