/- The walk of Scan (layer 6), this side's: the automaton over its table of steps. -/
import Derived.Test.YthiggalnjjcejaaDoorNuG
import Derived.Lib.LaidTab
namespace Go.Proofs.YthiggalnjjcejaaDoor
set_option linter.unusedSimpArgs false
set_option linter.unusedVariables false
open Go.RowKit Go.Tab

/-- The table of steps, as the program lays it. -/
def TabS (w : World) : Prop := ∀ j : Nat, j < 63 → w.cell? ⟨0, j, none⟩ = some (.int .i64 (stepsN.getD j 9 : Nat))
theorem TabS.below {w w' : World} {B : Nat} (h : TabS w) (hb : Below B w w') (hB : 0 < B) : TabS w' := fun j hj => (hb.cell hB).trans (h j hj)
theorem TabS.pos {w : World} (h : TabS w) : 0 < w.heap.size := World.block_lt_of_cell? w _ (h 0 (by decide))

theorem u8_nb {c : UInt8} {n : UInt8} (h : c ≠ n) {m : Int} (hm : (n.toNat : Int) = m) : ((c.toNat : Int) == m) = false := by
  rw [beq_eq_false_iff_ne, ← hm]
  exact fun e => h (UInt8.toNat_inj.1 (by omega))
set_option maxHeartbeats 2000000 in
set_option maxRecDepth 100000 in
theorem signOf_any (c : UInt8) (w : World) : Calls Tryd.prog 33 #[.int .u8 c.toNat] w fun e w' => e = .returned (.int .i64 (signN c : Nat)) ∧ w = w' := by
  unfold signN
  by_cases h1 : c = 45
  · subst h1
    go_enter Tryd.func33, Tryd.ntmps33
    go_wp2
    go_ret
    exact ⟨rfl, rfl⟩
  have d1 := u8_nb h1 (m := 45) rfl
  by_cases h2 : c = 43
  · subst h2
    go_enter Tryd.func33, Tryd.ntmps33
    go_wp2
    go_ret
    exact ⟨rfl, rfl⟩
  have d2 := u8_nb h2 (m := 43) rfl
  by_cases h3 : c = 48
  · subst h3
    go_enter Tryd.func33, Tryd.ntmps33
    go_wp2
    go_ret
    exact ⟨rfl, rfl⟩
  have d3 := u8_nb h3 (m := 48) rfl
  rw [if_neg h1, if_neg h2, if_neg h3]
  by_cases h4 : 49 ≤ c.toNat ∧ c.toNat ≤ 57
  · rw [if_pos h4]
    go_enter Tryd.func33, Tryd.ntmps33
    go_wp2
    go_ret
    exact ⟨rfl, rfl⟩
  rw [if_neg h4]
  have H4 : c.toNat < 49 ∨ (49 ≤ c.toNat ∧ 57 < c.toNat) := by omega
  clear h4
  by_cases h5 : c = 46
  · subst h5
    clear H4
    go_enter Tryd.func33, Tryd.ntmps33
    go_wp2
    go_ret
    exact ⟨rfl, rfl⟩
  have d5 := u8_nb h5 (m := 46) rfl
  rw [if_neg h5]
  by_cases h6 : c = 101
  · subst h6
    clear H4
    go_enter Tryd.func33, Tryd.ntmps33
    go_wp2
    go_ret
    exact ⟨rfl, rfl⟩
  by_cases h7 : c = 69
  · subst h7
    clear H4
    go_enter Tryd.func33, Tryd.ntmps33
    go_wp2
    go_ret
    exact ⟨rfl, rfl⟩
  have d6 := u8_nb h6 (m := 101) rfl
  have d7 := u8_nb h7 (m := 69) rfl
  rw [if_neg (by simp [h6, h7])]
  clear h1 h2 h3 h5 h6 h7
  rcases H4 with h4 | ⟨h4, h8⟩
  all_goals
    go_enter Tryd.func33, Tryd.ntmps33
    go_wp2
    go_ret
    exact ⟨rfl, rfl⟩

theorem whole_yes (st : Nat) (w : World) (h : wholeB st = true) : Calls Tryd.prog 34 #[.int .i64 st] w fun e w' => e = .returned (.bool true) ∧ w = w' := by
  have h1 : st = 2 ∨ st = 3 ∨ st = 5 ∨ st = 8 := by simpa [wholeB] using h
  clear h
  rcases h1 with rfl | rfl | rfl | rfl
  all_goals
    go_enter Tryd.func34, Tryd.ntmps34
    go_wp2
    go_ret
    exact ⟨rfl, rfl⟩
theorem whole_no (st : Nat) (w : World) (h : wholeB st = false) (hs : st < 9) : Calls Tryd.prog 34 #[.int .i64 st] w fun e w' => e = .returned (.bool false) ∧ w = w' := by
  have h1 : st = 0 ∨ st = 1 ∨ st = 4 ∨ st = 6 ∨ st = 7 := by
    have h2 : ¬ (st = 2 ∨ st = 3 ∨ st = 5 ∨ st = 8) := by
      intro h3
      have : wholeB st = true := by simpa [wholeB] using h3
      rw [h] at this; cases this
    omega
  clear h hs
  rcases h1 with rfl | rfl | rfl | rfl | rfl
  all_goals
    go_enter Tryd.func34, Tryd.ntmps34
    go_wp2
    go_ret
    exact ⟨rfl, rfl⟩
theorem stepN_le : ∀ st : Fin 9, ∀ sg : Fin 7, stepN st.val sg.val ≤ 9 := by decide
theorem signN_lt (c : UInt8) : signN c < 7 := by cases sort6 c <;> omega
theorem drop_at {s : ByteArray} {k : Nat} (h : k < s.size) : s.data.toList.drop k = s[k]'h :: s.data.toList.drop (k + 1) := by
  rw [List.drop_eq_getElem_cons (by simpa using h)]
  rfl

set_option maxHeartbeats 4000000 in
set_option maxRecDepth 100000 in
theorem Scan_any (s : ByteArray) (w : World) (hT : TabS w) (hs : s.size ≤ maxLen) :
    Calls Tryd.prog 12 #[.string s] w fun e w' => e = .returned (.int .i64 (scanN s.data.toList : Nat)) ∧ ∃ n, w' = w.drewN n := by
  unfold maxLen at hs
  go_enter Tryd.func12, Tryd.ntmps12
  go_wp2_with fail
  go_loopw [3, 4, 8] (fun g t i wr => ∃ k st L : Nat, k ≤ s.size ∧ i = .int .i64 k ∧ t = .int .i64 st ∧ g = .int .i64 L ∧ st < 9 ∧ autoS st k L (s.data.toList.drop k) = scanN s.data.toList ∧ ∃ n, wr = w.drewN n) (fun _ _ i _ => s.size - (intOf i).toNat)
  case atStart => exact ⟨0, 0, 0, Nat.zero_le _, rfl, rfl, rfl, by decide, auto_scan _, 0, rfl⟩
  case round =>
    obtain ⟨k, st, L, hk, rfl, rfl, rfl, hst, ha, n, rfl⟩ := hrel
    have HA := Lib.hid ha
    clear ha
    by_cases hlt : k < s.size
    · have hsg := signN_lt (s[k]'hlt)
      have hF := signOf_any (s[k]'hlt)
      have hi : (st : Int) < 9 := by omega
      have hj : ((signN (s[k]'hlt) : Nat) : Int) < 7 := by omega
      have hc : w.cell? ⟨0, st * 7 + signN (s[k]'hlt), none⟩ = some (.int .i64 (stepN st (signN (s[k]'hlt)) : Nat)) := by rw [Nat.mul_comm]; exact hT _ (by omega)
      have hA := HA.out
      rw [drop_at hlt, auto_cons] at hA
      have hle := stepN_le ⟨st, hst⟩ ⟨_, hsg⟩
      simp only at hle
      generalize signN (s[k]'hlt) = sg at hF hc hA hle hsg hj
      generalize stepN st sg = st' at hc hA hle
      go_wp2_with fail
      by_cases h9 : st' = 9
      · rw [if_pos h9] at hA
        have HL := Lib.hid hA
        have d9 : ((st' : Int) == 9) = true := by rw [beq_iff_eq]; omega
        clear hA h9 hle
        go_quiet (exact (hF _).mono fun _ _ h => ⟨h.1, _, h.2.symm⟩)
        go_wp2
        go_ret
        exact ⟨by rw [← HL.out]; rfl, _, rfl⟩
      · rw [if_neg h9] at hA
        have d9 : ((st' : Int) == 9) = false := by rw [beq_eq_false_iff_ne]; omega
        have hlt9 : st' < 9 := by omega
        clear h9 hle
        by_cases hw : wholeB st' = true
        · rw [if_pos hw] at hA
          have HL := Lib.hid hA
          have hW := fun W => whole_yes st' W hw
          clear hA hw
          go_quiet (exact (hF _).mono fun _ _ h => ⟨h.1, _, h.2.symm⟩)
          go_wp2_with ((with_reducible refine (hW _).mono ?_); rintro _ _ ⟨rfl, rfl⟩)
          go_roundw
          case rel => exact ⟨k + 1, st', k + 1, by omega, by go_num, rfl, by go_num, hlt9, HL.out, _, rfl⟩
          case measure => simp [intOf]; omega
        · have hw' : wholeB st' = false := by simpa using hw
          rw [if_neg hw] at hA
          have HL := Lib.hid hA
          have hW := fun W => whole_no st' W hw' hlt9
          clear hA hw hw'
          go_quiet (exact (hF _).mono fun _ _ h => ⟨h.1, _, h.2.symm⟩)
          go_wp2_with ((with_reducible refine (hW _).mono ?_); rintro _ _ ⟨rfl, rfl⟩)
          go_roundw
          case rel => exact ⟨k + 1, st', L, by omega, by go_num, rfl, rfl, hlt9, HL.out, _, rfl⟩
          case measure => simp [intOf]; omega
    · obtain rfl : k = s.size := by omega
      have hl : s.data.toList.drop s.size = [] := by
        rw [List.drop_eq_nil_iff]; exact Nat.le_refl _
      have hA := HA.out
      rw [hl] at hA
      have HL := Lib.hid (show L = scanN s.data.toList from hA)
      clear hA HA hl
      go_wp2
      go_ret
      exact ⟨by rw [← HL.out]; rfl, _, rfl⟩
end Go.Proofs.YthiggalnjjcejaaDoor
