/- Texts of this claim, one behind the other: NuW. -/
import Derived.Test.YtjlikcfabekhlaaGreatDoorMgg
set_option linter.unusedSimpArgs false
set_option linter.unusedVariables false

/- The walks of digit, run and Scan (layer 6), the reference's. -/
namespace Go.Proofs.YtjlikcfabekhlaaGreatDoor
open Go.RowKit Go.Tab

def digB (s : ByteArray) (k : Nat) : Bool := decide (digs (s.data.toList.drop k) ≠ 0)
theorem drop_out {s : ByteArray} {k : Nat} (h : ¬ k < s.size) : s.data.toList.drop k = [] := by
  rw [List.drop_eq_nil_iff, ← size_list]; omega
theorem digs_at {s : ByteArray} {k : Nat} (h : k < s.size) : digs (s.data.toList.drop k) = if dg (s[k]'h) then digs (s.data.toList.drop (k + 1)) + 1 else 0 := by
  rw [drop_at h, digs]
theorem dg_iff {c : UInt8} : dg c = true ↔ 48 ≤ c.toNat ∧ c.toNat ≤ 57 := by simp [dg, dig]
set_option maxRecDepth 100000 in
theorem rdig_any (s : ByteArray) (k : Nat) (w : World) (hk : k ≤ 4611686018427387904) :
    Calls Tryz.prog 91 #[.string s, .int .i64 k] w fun r w' => r = .returned (.bool (digB s k)) ∧ w = w' := by
  by_cases h : k < s.size
  · by_cases hd : 48 ≤ (s[k]'h).toNat ∧ (s[k]'h).toNat ≤ 57
    · have : digB s k = true := by
        rw [digB, digs_at h, if_pos (dg_iff.2 hd)]; simp
      rw [this]; exact rdig_yes s k w h hd
    · have : digB s k = false := by
        rw [digB, digs_at h, if_neg (fun e => hd (dg_iff.1 e))]; rfl
      rw [this]; exact rdig_no s k w h hd
  · have hR := Lib.hid (show digB s k = false by rw [digB, drop_out h]; rfl)
    go_enter Tryz.func91, Tryz.ntmps91
    go_wp2
    go_ret
    exact ⟨by rw [hR.out]; rfl, rfl⟩

set_option maxHeartbeats 1000000 in
set_option maxRecDepth 100000 in
theorem rrun_any (s : ByteArray) (i : Nat) (w : World) (hs : s.size ≤ 1048576) (hi : i ≤ s.size) :
    Calls Tryz.prog 92 #[.string s, .int .i64 i] w fun r w' => r = .returned (.int .i64 (i + digs (s.data.toList.drop i) : Nat)) ∧ w = w' := by
  obtain ⟨z, hz⟩ : ∃ z, i + digs (s.data.toList.drop i) = z := ⟨_, rfl⟩
  rw [hz]
  have HZ := Lib.hid hz
  clear hz
  go_enter Tryz.func92, Tryz.ntmps92
  go_wp2_with fail
  go_loop [1] (fun x => ∃ k : Nat, k ≤ s.size ∧ x = .int .i64 k ∧ k + digs (s.data.toList.drop k) = z) (fun x => s.size - (intOf x).toNat)
  case atStart => exact ⟨i, hi, rfl, HZ.out⟩
  case round =>
    obtain ⟨k, hk, rfl, hr⟩ := hrel
    have HR := Lib.hid hr
    clear hr
    have hF := fun W => rdig_any s k W (by omega)
    cases hd : digB s k with
    | true =>
      have hlt : k < s.size := by
        false_or_by_contra
        rename_i h
        rw [digB, drop_out h] at hd
        cases hd
      have hN := Lib.hid (show k + 1 + digs (s.data.toList.drop (k + 1)) = z by
        have := HR.out
        rw [digs_at hlt] at this
        split at this
        · omega
        · next e => rw [digB, digs_at hlt, if_neg e] at hd; cases hd)
      rw [hd] at hF
      clear hd
      go_wp2_with ((with_reducible refine (hF _).mono ?_); rintro _ _ ⟨rfl, rfl⟩)
      go_round
      case rel => exact ⟨k + 1, by omega, by go_num, hN.out⟩
      case measure => simp [intOf]; omega
    | false =>
      have hN := Lib.hid (show k = z by
        have := HR.out
        have h0 : digs (s.data.toList.drop k) = 0 := by simpa [digB] using hd
        omega)
      rw [hd] at hF
      clear hd
      go_wp2_with ((with_reducible refine (hF _).mono ?_); rintro _ _ ⟨rfl, rfl⟩)
      go_ret
      exact ⟨by rw [← hN.out]; rfl, rfl⟩

theorem mnS_le (l : Bs) : mnS l ≤ l.length := by
  cases l with
  | nil => exact Nat.le_refl _
  | cons c l => rw [mnS]; split <;> simp
theorem fracS_le (l : Bs) : fracS l ≤ l.length := by
  cases l with
  | nil => exact Nat.le_refl _
  | cons c l => rw [fracS]; have := digs_le l; split <;> simp; omega
theorem intS_le (l : Bs) : intS l ≤ l.length := by
  cases l with
  | nil => exact Nat.le_refl _
  | cons c l => rw [intS]; split; (· simp); (· exact digs_le _)
theorem intS_digs (l : Bs) : intS l = 0 ↔ digs l = 0 := by
  cases l with
  | nil => exact Iff.rfl
  | cons c l =>
    rw [intS]
    split
    · next h => subst h; simp [digs, show dg 48 = true from rfl]
    · exact Iff.rfl

set_option maxHeartbeats 4000000 in
set_option maxRecDepth 100000 in
theorem rScan_any (s : ByteArray) (w : World) (hs : s.size ≤ 1048576) :
    Calls Tryz.prog 64 #[.string s] w fun e w' => e = .returned (.int .i64 (scanN s.data.toList : Nat)) ∧ w = w' := by
  obtain ⟨i0, hi0⟩ : ∃ i0, mnS s.data.toList = i0 := ⟨_, rfl⟩
  have hi0l : i0 ≤ s.size := by rw [← hi0, size_list]; exact mnS_le _
  have hF0 := fun W => rdig_any s i0 W (by omega)
  have hi01 : i0 = 0 ∨ i0 = 1 := by
    rw [← hi0]
    cases s.data.toList with
    | nil => exact .inl rfl
    | cons c l => rw [mnS]; split <;> simp
  obtain ⟨i1, hi1⟩ : ∃ i1, i0 + intS (s.data.toList.drop i0) = i1 := ⟨_, rfl⟩
  have hi1l : i1 ≤ s.size := by
    have := intS_le (s.data.toList.drop i0)
    rw [List.length_drop, ← size_list] at this
    omega
  obtain ⟨i2, hi2⟩ : ∃ i2, i1 + fracS (s.data.toList.drop i1) = i2 := ⟨_, rfl⟩
  have hi2l : i2 ≤ s.size := by
    have := fracS_le (s.data.toList.drop i1)
    rw [List.length_drop, ← size_list] at this
    omega
  have hd0 : digB s i0 = true → ∃ h : i0 < s.size, dg (s[i0]'h) = true := by
    intro hd
    by_cases h : i0 < s.size
    · refine ⟨h, ?_⟩
      rw [digB, digs_at h] at hd
      split at hd
      · assumption
      · cases hd
    · rw [digB, drop_out h] at hd; cases hd
  have hfin : digB s i0 = true → scanN s.data.toList = i2 + powS (s.data.toList.drop i2) := by
    intro hd
    have hn : intS (s.data.toList.drop i0) ≠ 0 := by
      rw [Ne, intS_digs]
      simpa [digB] using hd
    rw [scanN, hi0, if_neg hn, hi1, tailS, List.drop_drop, hi2, ← hi2]
    omega
  obtain ⟨bM, hbM⟩ : ∃ b, decide (i0 = 1) = b := ⟨_, rfl⟩
  have HbM := Lib.hid hbM
  clear hbM
  have HI0 := Lib.hid hi0
  have HI1 := Lib.hid hi1
  have HI2 := Lib.hid hi2
  have Hd0 := Lib.hid hd0
  have Hfin := Lib.hid hfin
  clear hi0 hi1 hi2 hd0 hfin
  go_enter Tryz.func64, Tryz.ntmps64
  go_upto_region 2 with fail
  go_cut [12] (fun x wc => x = .bool bM ∧ w = wc)
  case first =>
    by_cases h0 : 0 < s.size
    · by_cases h1 : s[0]'h0 = 45
      · have d1 : (((s[0]'h0).toNat : Int) == 45) = true := by rw [h1]; rfl
        have h2 : Hid (i0 = 1) := Lib.hid (by rw [← HI0.out, ← List.drop_zero (l := s.data.toList), drop_at h0, h1]; rfl)
        clear h1
        go_wp2
        go_meet
        case rel => exact ⟨by rw [← HbM.out, decide_eq_true h2.out], rfl⟩
      · have d1 : (((s[0]'h0).toNat : Int) == 45) = false := u8_nb h1 rfl
        have h2 : Hid (i0 = 0) := Lib.hid (by rw [← HI0.out, ← List.drop_zero (l := s.data.toList), drop_at h0, mnS, if_neg h1])
        clear h1
        go_wp2
        go_meet
        case rel => exact ⟨by rw [← HbM.out, h2.out]; rfl, rfl⟩
    · have h2 : Hid (i0 = 0) := Lib.hid (by rw [← HI0.out, ← List.drop_zero (l := s.data.toList), drop_out h0, mnS])
      go_wp2
      go_meet
      case rel => exact ⟨by rw [← HbM.out, h2.out]; rfl, rfl⟩
  case rest =>
    obtain ⟨rfl, rfl⟩ := hcut
    go_upto_if 12 with fail
    go_cut [3] (fun x wc => x = .int .i64 i0 ∧ w = wc)
    case first =>
      cases bM with
      | false =>
        have H := Lib.hid (show i0 = 0 by have := of_decide_eq_false HbM.out; omega)
        go_wp2
        go_meet
        case rel => exact ⟨by rw [H.out]; rfl, rfl⟩
      | true =>
        have H := Lib.hid (of_decide_eq_true HbM.out)
        go_wp2
        go_meet
        case rel => exact ⟨by rw [H.out]; rfl, rfl⟩
    case rest =>
      obtain ⟨rfl, rfl⟩ := hcut
      cases hd : digB s i0 with
      | false =>
        have hz := Lib.hid (show scanN s.data.toList = 0 by
          rw [scanN, HI0.out, if_pos]
          rw [intS_digs]
          simpa [digB] using hd)
        rw [hd] at hF0
        clear hd
        go_wp2_with ((with_reducible refine (hF0 _).mono ?_); rintro _ _ ⟨rfl, rfl⟩)
        go_ret
        exact ⟨by rw [hz.out]; rfl, rfl⟩
      | true =>
        have HF := Lib.hid (Hfin.out hd)
        obtain ⟨hlt, hdg⟩ := Hd0.out hd
        have hint : Hid (i1 = if s[i0]'hlt = 48 then i0 + 1 else i0 + digs (s.data.toList.drop i0)) := Lib.hid (by
          rw [← HI1.out, drop_at hlt, intS]
          split <;> rfl)
        rw [hd] at hF0
        clear hd hdg Hd0 Hfin
        go_upto_if 20 with ((with_reducible refine (hF0 _).mono ?_); rintro _ _ ⟨rfl, rfl⟩)
        go_cut [3] (fun x wc => x = .int .i64 i1 ∧ w = wc)
        case first =>
          by_cases h48 : s[i0]'hlt = 48
          · have d1 : (((s[i0]'hlt).toNat : Int) == 48) = true := by rw [h48]; rfl
            have h2 : Hid (i1 = i0 + 1) := Lib.hid (by rw [hint.out, if_pos h48])
            clear h48
            go_wp2
            go_meet
            case rel => exact ⟨by rw [h2.out]; rfl, rfl⟩
          · have d1 : (((s[i0]'hlt).toNat : Int) == 48) = false := u8_nb h48 rfl
            have h2 : Hid (i1 = i0 + digs (s.data.toList.drop i0)) := Lib.hid (by rw [hint.out, if_neg h48])
            have hR := fun W => rrun_any s i0 W hs hi0l
            rw [← h2.out] at hR
            clear h48
            go_wp2_with ((with_reducible refine (hR _).mono ?_); rintro _ _ ⟨rfl, rfl⟩)
            go_meet
            case rel => exact ⟨rfl, rfl⟩
        case rest =>
          obtain ⟨rfl, rfl⟩ := hcut
          clear hF0 hint
          obtain ⟨bF, hbF⟩ : ∃ b, decide (fracS (s.data.toList.drop i1) ≠ 0) = b := ⟨_, rfl⟩
          have HbF := Lib.hid hbF
          clear hbF
          go_upto_region 9 with fail
          go_cut [41] (fun x wc => x = .bool bF ∧ w = wc)
          case first =>
            by_cases h0 : i1 < s.size
            · by_cases h1 : s[i1]'h0 = 46
              · have d1 : (((s[i1]'h0).toNat : Int) == 46) = true := by rw [h1]; rfl
                have hD : ∀ W, Calls Tryz.prog 91 #[.string s, .int .i64 ((i1 : Int) + 1)] W fun r w' => r = .returned (.bool (digB s (i1 + 1))) ∧ W = w' := fun W => rdig_any s (i1 + 1) W (by omega)
                have h2 : digB s (i1 + 1) = bF := by
                  rw [← HbF.out, drop_at h0, fracS, h1, digB]
                  by_cases hz : digs (s.data.toList.drop (i1 + 1)) = 0
                  · rw [if_neg (by simp [hz])]; simp [hz]
                  · rw [if_pos ⟨rfl, hz⟩]; simp [hz]
                rw [h2] at hD
                clear h1 h2
                go_wp2_with ((with_reducible refine (hD _).mono ?_); rintro _ _ ⟨rfl, rfl⟩)
                go_meet
                case rel => exact ⟨rfl, rfl⟩
              · have d1 : (((s[i1]'h0).toNat : Int) == 46) = false := u8_nb h1 rfl
                have h2 : Hid (bF = false) := Lib.hid (by rw [← HbF.out, drop_at h0, fracS, if_neg (fun e => h1 e.1)]; rfl)
                clear h1
                go_wp2
                go_meet
                case rel => exact ⟨by rw [h2.out], rfl⟩
            · have h2 : Hid (bF = false) := Lib.hid (by rw [← HbF.out, drop_out h0]; rfl)
              go_wp2
              go_meet
              case rel => exact ⟨by rw [h2.out], rfl⟩
          case rest =>
            obtain ⟨rfl, rfl⟩ := hcut
            go_upto_if 41 with fail
            go_cut [3] (fun x wc => x = .int .i64 i2 ∧ w = wc)
            case first =>
              cases bF with
              | false =>
                have H := Lib.hid (show i2 = i1 by have h1 := of_decide_eq_false HbF.out; have := HI2.out; omega)
                go_wp2
                go_meet
                case rel => exact ⟨by rw [H.out], rfl⟩
              | true =>
                have h1 := of_decide_eq_true HbF.out
                have h0 : i1 < s.size := by
                  false_or_by_contra
                  rename_i h
                  rw [drop_out h] at h1
                  exact h1 rfl
                have hR : ∀ W, Calls Tryz.prog 92 #[.string s, .int .i64 ((i1 : Int) + 1)] W fun r w' => r = .returned (.int .i64 (i1 + 1 + digs (s.data.toList.drop (i1 + 1)) : Nat)) ∧ W = w' := fun W => rrun_any s (i1 + 1) W hs (by omega)
                have h2 : i1 + 1 + digs (s.data.toList.drop (i1 + 1)) = i2 := by
                  rw [← HI2.out]
                  rw [drop_at h0, fracS] at h1 ⊢
                  split at h1
                  · next h3 => rw [if_pos h3]; omega
                  · exact absurd rfl h1
                rw [h2] at hR
                clear h1 h2
                go_wp2_with ((with_reducible refine (hR _).mono ?_); rintro _ _ ⟨rfl, rfl⟩)
                go_meet
                case rel => exact ⟨rfl, rfl⟩
            case rest =>
              obtain ⟨rfl, rfl⟩ := hcut
              clear HbF HbM HI0 HI1 HI2
              obtain ⟨bE, hbE⟩ : ∃ b : Bool, (∃ h : i2 < s.size, s[i2]'h = 101 ∨ s[i2]'h = 69) ↔ b = true := ⟨decide (∃ h : i2 < s.size, s[i2]'h = 101 ∨ s[i2]'h = 69), by simp⟩
              have HbE := Lib.hid hbE
              clear hbE
              go_upto_region 11 with fail
              go_cut [61] (fun x wc => x = .bool bE ∧ w = wc)
              case first =>
                by_cases h0 : i2 < s.size
                · by_cases h1 : s[i2]'h0 = 101
                  · have d1 : (((s[i2]'h0).toNat : Int) == 101) = true := by rw [h1]; rfl
                    have h2 : Hid (bE = true) := Lib.hid (HbE.out.1 ⟨h0, .inl h1⟩)
                    clear h1
                    go_wp2
                    go_meet
                    case rel => exact ⟨by rw [h2.out], rfl⟩
                  · have d1 : (((s[i2]'h0).toNat : Int) == 101) = false := u8_nb h1 rfl
                    by_cases h3 : s[i2]'h0 = 69
                    · have d2 : (((s[i2]'h0).toNat : Int) == 69) = true := by rw [h3]; rfl
                      have h2 : Hid (bE = true) := Lib.hid (HbE.out.1 ⟨h0, .inr h3⟩)
                      clear h1 h3
                      go_wp2
                      go_meet
                      case rel => exact ⟨by rw [h2.out], rfl⟩
                    · have d2 : (((s[i2]'h0).toNat : Int) == 69) = false := u8_nb h3 rfl
                      have h2 : Hid (bE = false) := Lib.hid (by
                        rw [Bool.eq_false_iff]
                        intro e
                        obtain ⟨_, h | h⟩ := HbE.out.2 e
                        · exact h1 h
                        · exact h3 h)
                      clear h1 h3
                      go_wp2
                      go_meet
                      case rel => exact ⟨by rw [h2.out], rfl⟩
                · have h2 : Hid (bE = false) := Lib.hid (by
                    rw [Bool.eq_false_iff]
                    intro e
                    obtain ⟨h, _⟩ := HbE.out.2 e
                    exact h0 h)
                  go_wp2
                  go_meet
                  case rel => exact ⟨by rw [h2.out], rfl⟩
              case rest =>
                obtain ⟨rfl, rfl⟩ := hcut
                cases bE with
                | false =>
                  have hz := Lib.hid (show scanN s.data.toList = i2 by
                    rw [HF.out]
                    by_cases h0 : i2 < s.size
                    · have hn : ¬ (s[i2]'h0 = 101 ∨ s[i2]'h0 = 69) := fun e => by have := HbE.out.1 ⟨h0, e⟩; cases this
                      rw [drop_at h0, powS, if_neg (fun e => hn e.1)]; rfl
                    · rw [drop_out h0]; rfl)
                  go_wp2
                  go_ret
                  exact ⟨by rw [hz.out]; rfl, rfl⟩
                | true =>
                  obtain ⟨h0, hm⟩ := HbE.out.2 rfl
                  obtain ⟨k, hk⟩ : ∃ k, i2 + 1 + sgS (s.data.toList.drop (i2 + 1)) = k := ⟨_, rfl⟩
                  have hkl : sgS (s.data.toList.drop (i2 + 1)) ≤ 1 := by
                    cases s.data.toList.drop (i2 + 1) with
                    | nil => exact Nat.zero_le _
                    | cons c t => rw [sgS]; split <;> omega
                  have hkb : i2 ≤ k ∧ k ≤ i2 + 2 := by omega
                  have hfin := Lib.hid (show scanN s.data.toList = if digs (s.data.toList.drop k) = 0 then i2 else k + digs (s.data.toList.drop k) by
                    rw [HF.out, drop_at h0, powS]
                    simp only [hm, true_and]
                    rw [List.drop_drop, hk]
                    split
                    · next h => (try rw [if_neg h]); omega
                    · next h => first | rfl | (rw [if_pos (by simpa using h)]; rfl))
                  have hks : k ≤ s.size := by
                    by_cases h1 : i2 + 1 < s.size
                    · omega
                    · rw [drop_out h1] at hk
                      simp only [sgS] at hk
                      omega
                  have HK := Lib.hid hk
                  clear hm hk hkl HbE HF
                  obtain ⟨bS, hbS⟩ : ∃ b, decide (k = i2 + 2) = b := ⟨_, rfl⟩
                  have HbS := Lib.hid hbS
                  clear hbS
                  go_upto_region 13 with fail
                  go_cut [79] (fun x wc => x = .bool bS ∧ w = wc)
                  case first =>
                    by_cases h1 : i2 + 1 < s.size
                    · have h1I : (i2 : Int) + 1 < (s.size : Int) := by omega
                      have hbd : 0 ≤ (i2 : Int) + 1 ∧ (i2 : Int) + 1 < (s.size : Int) := by omega
                      by_cases h3 : s[i2 + 1]'h1 = 43
                      · have d1 : (((s[i2 + 1]'h1).toNat : Int) == 43) = true := by rw [h3]; rfl
                        have h2 : Hid (bS = true) := Lib.hid (by rw [← HbS.out, ← HK.out, drop_at h1, sgS, if_pos (.inl h3)]; simp)
                        clear h3
                        go_wp2
                        go_meet
                        case rel => exact ⟨by rw [h2.out], rfl⟩
                      · have d1 : (((s[i2 + 1]'h1).toNat : Int) == 43) = false := u8_nb h3 rfl
                        by_cases h4 : s[i2 + 1]'h1 = 45
                        · have d2 : (((s[i2 + 1]'h1).toNat : Int) == 45) = true := by rw [h4]; rfl
                          have h2 : Hid (bS = true) := Lib.hid (by rw [← HbS.out, ← HK.out, drop_at h1, sgS, if_pos (.inr h4)]; simp)
                          clear h3 h4
                          go_wp2
                          go_meet
                          case rel => exact ⟨by rw [h2.out], rfl⟩
                        · have d2 : (((s[i2 + 1]'h1).toNat : Int) == 45) = false := u8_nb h4 rfl
                          have h2 : Hid (bS = false) := Lib.hid (by rw [← HbS.out, ← HK.out, drop_at h1, sgS, if_neg (by simp [h3, h4])]; simp)
                          clear h3 h4
                          go_wp2
                          go_meet
                          case rel => exact ⟨by rw [h2.out], rfl⟩
                    · have h2 : Hid (bS = false) := Lib.hid (by rw [← HbS.out, ← HK.out, drop_out h1]; simp [sgS])
                      go_wp2
                      go_meet
                      case rel => exact ⟨by rw [h2.out], rfl⟩
                  case rest =>
                    obtain ⟨rfl, rfl⟩ := hcut
                    go_upto_if 79 with fail
                    go_cut [4] (fun x wc => x = .int .i64 k ∧ w = wc)
                    case first =>
                      cases bS with
                      | false =>
                        have H := Lib.hid (show (i2 : Int) + 1 = (k : Int) by
                          have h1 := of_decide_eq_false HbS.out
                          have := HK.out
                          omega)
                        go_wp2
                        go_meet
                        case rel => exact ⟨by first | rw [H.out] | (congr 1; exact H.out), rfl⟩
                      | true =>
                        have H := Lib.hid (show (i2 : Int) + 1 + 1 = (k : Int) by
                          have h1 := of_decide_eq_true HbS.out
                          omega)
                        go_wp2
                        go_meet
                        case rel => exact ⟨by first | rw [H.out] | (congr 1; have := H.out; omega), rfl⟩
                    case rest =>
                      obtain ⟨rfl, rfl⟩ := hcut
                      have hD := fun W => rdig_any s k W (by omega)
                      have hR := fun W => rrun_any s k W hs hks
                      cases hd : digB s k with
                      | false =>
                        have hz : Hid (scanN s.data.toList = i2) := Lib.hid (by rw [hfin.out, if_pos (by simpa [digB] using hd)])
                        rw [hd] at hD
                        clear hd
                        go_wp2_with ((with_reducible refine (hD _).mono ?_); rintro _ _ ⟨rfl, rfl⟩)
                        go_ret
                        exact ⟨by rw [hz.out]; rfl, rfl⟩
                      | true =>
                        have hz : Hid (scanN s.data.toList = k + digs (s.data.toList.drop k)) := Lib.hid (by rw [hfin.out, if_neg (by simpa [digB] using hd)])
                        rw [hd] at hD
                        clear hd
                        go_wp2_with (first | ((with_reducible refine (hD _).mono ?_); rintro _ _ ⟨rfl, rfl⟩) | ((with_reducible refine (hR _).mono ?_); rintro _ _ ⟨rfl, rfl⟩))
                        go_ret
                        exact ⟨by rw [hz.out]; rfl, rfl⟩
end Go.Proofs.YtjlikcfabekhlaaGreatDoor
