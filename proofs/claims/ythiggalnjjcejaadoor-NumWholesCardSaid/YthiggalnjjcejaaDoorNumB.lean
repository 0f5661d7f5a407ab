/- The walk of Right of a number (layer 6), the reference's. -/
import Derived.Test.YthiggalnjjcejaaDoorNumA
namespace Go.Proofs.YthiggalnjjcejaaDoor
set_option linter.unusedSimpArgs false
set_option linter.unusedVariables false
open Go.RowKit Go.Tab

set_option maxRecDepth 100000 in
theorem rdig_yes (s : ByteArray) (k : Nat) (w : World) (h : k < s.size) (hd : 48 ≤ (s[k]'h).toNat ∧ (s[k]'h).toNat ≤ 57) :
    Calls Tryd.prog 32 #[.string s, .int .i64 k] w fun r w' => r = .returned (.bool true) ∧ w = w' := by
  go_enter Tryd.func32, Tryd.ntmps32
  go_wp2
  go_ret
  refine ⟨?_, rfl⟩
  show Ending.returned (.bool (decide _)) = _
  rw [decide_eq_true (by omega)]
set_option maxRecDepth 100000 in
theorem rdig_no (s : ByteArray) (k : Nat) (w : World) (h : k < s.size) (hd : ¬ (48 ≤ (s[k]'h).toNat ∧ (s[k]'h).toNat ≤ 57)) :
    Calls Tryd.prog 32 #[.string s, .int .i64 k] w fun r w' => r = .returned (.bool false) ∧ w = w' := by
  have hdg' : (s[k]'h).toNat < 48 ∨ (48 ≤ (s[k]'h).toNat ∧ 57 < (s[k]'h).toNat) := by omega
  clear hd
  rcases hdg' with hdg | hdg
  all_goals
    go_enter Tryd.func32, Tryd.ntmps32
    go_wp2
    go_ret
    refine ⟨?_, rfl⟩
    first | rfl | (show Ending.returned (.bool (decide _)) = _; rw [decide_eq_false (by omega)])

set_option maxHeartbeats 4000000 in
set_option maxRecDepth 100000 in
theorem rNumRight_any (neg : Bool) (d : ByteArray) (e : Int) (w : World) (hd : d.size ≤ 1048576) :
    Calls Tryd.prog 16 #[.agg #[.bool neg, .string d, .int .i64 e]] w fun r w' => r = .returned (.bool (numR neg d e)) ∧ Below w.heap.size w w' := by
  have hx0 := Cells.new w #[.bool neg, .string d, .int .i64 e] 24
  have hb0 : Below w.heap.size w (w.alloc (.cells #[.bool neg, .string d, .int .i64 e] 24)) := (Below.refl _ w).alloc (Nat.le_refl _) _
  by_cases h0 : d.size = 0
  · have hR := Lib.hid (numR_empty (neg := neg) (e := e) h0)
    cases neg
    all_goals
      go_enter Tryd.func16, Tryd.ntmps16
      go_wp2
      go_ret
      refine ⟨?_, hb0⟩
      rw [hR.out]
      first | rfl | (congr 2; by_cases he : e = 0 <;> simp [he])
  · by_cases h1 : 1000 < d.size ∨ e < -10000 ∨ 10000 < e
    · have hR := Lib.hid (numR_great (neg := neg) h0 h1)
      have h1' : 1000 < d.size ∨ (d.size ≤ 1000 ∧ e < -10000) ∨ (d.size ≤ 1000 ∧ -10000 ≤ e ∧ 10000 < e) := by omega
      clear h1
      have q0 : ((d.size : Int) == 0) = false := by rw [beq_eq_false_iff_ne]; omega
      have q1 : decide ((1000 : Int) < (d.size : Int)) = decide (1000 < d.size) := by congr 1; apply propext; omega
      have q2 : decide (e < -10000) = decide (e < -10000) := rfl
      rcases h1' with h1 | ⟨h1, h2⟩ | ⟨h1, h2, h3⟩
      all_goals
        go_enter Tryd.func16, Tryd.ntmps16
        go_wp2
        go_ret
        refine ⟨?_, hb0⟩
        rw [hR.out]
        try rfl
    · have H1 := Lib.hid h1
      have h2 : d.size ≤ 1000 ∧ -10000 ≤ e ∧ e ≤ 10000 := by omega
      clear h1
      have hp : 0 < d.size := by omega
      go_enter Tryd.func16, Tryd.ntmps16
      go_wp2_with fail
      go_loop [3] (fun i => ∃ k : Nat, k ≤ d.size ∧ i = .int .i64 (k : Int) ∧ ∀ j (hj : j < d.size), j < k → 48 ≤ (d[j]'hj).toNat ∧ (d[j]'hj).toNat ≤ 57) (fun i => d.size - (intOf i).toNat)
      case atStart => exact ⟨0, Nat.zero_le _, rfl, fun j _ h => by omega⟩
      case round =>
        obtain ⟨k, hk, rfl, hall⟩ := hrel
        have HA := Lib.hid hall
        clear hall
        have hx0c0 := hx0.cell 0 _ rfl
        have hx0f0 := hx0.frozen 0
        have hx0c1 := hx0.cell 1 _ rfl
        have hx0f1 := hx0.frozen 1
        have hx0c2 := hx0.cell 2 _ rfl
        have hx0f2 := hx0.frozen 2
        by_cases hkl : k < d.size
        · by_cases hdg : 48 ≤ (d[k]'hkl).toNat ∧ (d[k]'hkl).toNat ≤ 57
          · have HA2 : Hid (∀ j (hj : j < d.size), j < k + 1 → 48 ≤ (d[j]'hj).toNat ∧ (d[j]'hj).toNat ≤ 57) := Lib.hid (fun j hj h => by
              by_cases hjk : j = k
              · subst hjk; exact hdg
              · exact HA.out j hj (by omega))
            clear HA
            have hF := fun W => rdig_yes d k W hkl hdg
            go_wp2_with fail
            refine (hF _).mono ?_
            rintro r w1 ⟨rfl, rfl⟩
            go_wp2
            go_round
            case rel => exact ⟨k + 1, by omega, by go_num, HA2.out⟩
            case measure => simp [intOf]; omega
          · have hR := Lib.hid (numR_not (neg := neg) (e := e) hkl hdg)
            have hF := fun W => rdig_no d k W hkl hdg
            clear hdg
            go_wp2_with fail
            refine (hF _).mono ?_
            rintro r w1 ⟨rfl, rfl⟩
            go_wp2
            go_ret
            refine ⟨?_, hb0⟩
            rw [hR.out]
            try rfl
        · obtain rfl : k = d.size := by omega
          have hR := Lib.hid (numR_yes (neg := neg) hp H1.out (fun j hj => HA.out j hj hj))
          by_cases hz : (d[0]'hp).toNat = 48
          · go_wp2
            go_ret
            refine ⟨?_, hb0⟩
            rw [hR.out]
            simp [hz]
          · go_wp2
            go_ret
            refine ⟨?_, hb0⟩
            rw [hR.out]
            have hz' : ¬ (((d[0]'hp).toNat : Int) = 48) := by omega
            by_cases hy : (d[d.size - 1]'(by omega)).toNat = 48
            · simp [hz, hz', hy, bne]
            · have hy' : ¬ (((d[d.size - 1]'(by omega)).toNat : Int) = 48) := by omega
              simp [hz, hz', hy, hy', bne]
end Go.Proofs.YthiggalnjjcejaaDoor
