/- The walks that hold two rows of texts against each other (layer 8). -/
import Derived.Test.YtpcfhiipkbpmkaaDoorTreB
namespace Go.Proofs.YtpcfhiipkbpmkaaDoor
open Go.RowKit Go.Tab

theorem rows_ne {α : Type} {a b : List α} {k : Nat} (h1 : k < a.length) (h2 : k < b.length) (h : a[k] ≠ b[k]) : a ≠ b := by
  rintro rfl
  exact h rfl
theorem rows_eq {α : Type} {a b : List α} (hl : a.length = b.length) (h : ∀ j (h1 : j < a.length) (h2 : j < b.length), a[j] = b[j]) : a = b :=
  List.ext_getElem hl h

theorem str_ne {a b : ByteArray} (h : ¬ a = b) : (a.toList == b.toList) = false := by
  rw [beq_eq_false_iff_ne]
  intro h1
  exact h (ByteArray.ext (Array.ext' (by rw [ByteArray.toList_eq, ByteArray.toList_eq] at h1; exact h1)))

set_option maxHeartbeats 4000000 in
set_option maxRecDepth 100000 in
theorem Texts_any (a b : Value) (la lb : List ByteArray) (w : World) (ha : RowOf Value.string w a la) (hb : RowOf Value.string w b lb) :
    Calls Tryd.prog 50 #[a, b] w fun e w' => e = .returned (.bool (decide (la = lb))) ∧ Below w.heap.size w w' := by
  obtain ⟨xa, ca, rfl, hla, hca, -⟩ := ha.len
  obtain ⟨xb, cb, rfl, hlb, hcb, -⟩ := hb.len
  unfold maxLen at hca hcb
  by_cases hlen : la.length = lb.length
  · go_enter Tryd.func50, Tryd.ntmps50
    go_wp2_with fail
    go_loopw [5] (fun i wr => ∃ k : Nat, k ≤ la.length ∧ i = .int .i64 (k : Int) ∧ (∀ j (h1 : j < la.length) (h2 : j < lb.length), j < k → la[j] = lb[j]) ∧ Below w.heap.size w wr) (fun i _ => la.length - (intOf i).toNat)
    case atStart => exact ⟨0, Nat.zero_le _, rfl, fun j _ _ h => by omega, Below.refl _ w⟩
    case round =>
      obtain ⟨k, hk, rfl, hall, hbl⟩ := hrel
      have HA := Lib.hid hall
      clear hall
      have ha1 := ha.below hbl (Nat.le_refl _)
      have hb1 := hb.below hbl (Nat.le_refl _)
      by_cases hkl : k < la.length
      · have hkb : k < lb.length := by omega
        obtain ⟨ba, oa, rfl, hlta, hcella⟩ := ha1.at hkl
        obtain ⟨bb, ob, rfl, hltb, hcellb⟩ := hb1.at hkb
        have hcka := hcella k hkl
        have hckb := hcellb k hkb
        clear hcella hcellb
        by_cases heq : la[k] = lb[k]
        · have HA2 : Hid (∀ j (h1 : j < la.length) (h2 : j < lb.length), j < k + 1 → la[j] = lb[j]) := Lib.hid (fun j h1 h2 h => by
            by_cases hjk : j = k
            · subst hjk; exact heq
            · exact HA.out j h1 h2 (by omega))
          clear HA
          rw [← heq] at hckb
          clear heq
          generalize la[k] = x at *
          go_wp2_with fail
          go_quiet (fail)
          all_goals
            go_wp2
            go_roundw
          case rel => exact ⟨k + 1, by omega, by go_num, HA2.out, hbl.trans (below_draws w.heap.size wr _)⟩
          case measure => simp [intOf]; omega
        · have hR := Lib.hid (rows_ne hkl hkb heq)
          generalize la[k] = x at *
          generalize lb[k] = y at *
          go_wp2_with fail
          go_quiet (fail)
          all_goals
            go_wp2
          · go_ret
            refine ⟨?_, hbl.trans (below_draws w.heap.size wr _)⟩
            rw [decide_eq_false hR.out]
            rfl
          · rename_i hh
            rw [str_ne heq] at hh
            cases hh
      · obtain rfl : k = la.length := by omega
        have hR := Lib.hid (rows_eq hlen (fun j h1 h2 => HA.out j h1 h2 h1))
        go_wp2
        go_ret
        refine ⟨?_, hbl⟩
        rw [decide_eq_true hR.out]
        rfl
  · have hR : Hid (la ≠ lb) := Lib.hid (by rintro rfl; exact hlen rfl)
    have hq : ((la.length : Int) != (lb.length : Int)) = true := by rw [bne_iff_ne]; omega
    clear hlen
    go_enter Tryd.func50, Tryd.ntmps50
    go_wp2
    go_ret
    refine ⟨?_, Below.refl _ w⟩
    rw [decide_eq_false hR.out]
    rfl

set_option maxHeartbeats 4000000 in
set_option maxRecDepth 100000 in
theorem Equal_any (a b : Value) (la lb : List ByteArray) (w : World) (ha : RowOf Value.string w a la) (hb : RowOf Value.string w b lb) :
    Calls Tryd.prog 52 #[a, b] w fun e w' => e = .returned (.bool (decide (la = lb))) ∧ Below w.heap.size w w' := by
  obtain ⟨xa, ca, rfl, hla, hca, -⟩ := ha.len
  obtain ⟨xb, cb, rfl, hlb, hcb, -⟩ := hb.len
  unfold maxLen at hca hcb
  by_cases hlen : la.length = lb.length
  · go_enter Tryd.func52, Tryd.ntmps52
    go_wp2_with fail
    go_loopw [13] (fun i wr => ∃ k : Nat, k ≤ la.length ∧ i = .int .i64 (k : Int) ∧ (∀ j (h1 : j < la.length) (h2 : j < lb.length), j < k → la[j] = lb[j]) ∧ Below w.heap.size w wr) (fun i _ => la.length - (intOf i).toNat)
    case atStart => exact ⟨0, Nat.zero_le _, rfl, fun j _ _ h => by omega, Below.refl _ w⟩
    case round =>
      obtain ⟨k, hk, rfl, hall, hbl⟩ := hrel
      have HA := Lib.hid hall
      clear hall
      have ha1 := ha.below hbl (Nat.le_refl _)
      have hb1 := hb.below hbl (Nat.le_refl _)
      by_cases hkl : k < la.length
      · have hkb : k < lb.length := by omega
        obtain ⟨ba, oa, rfl, hlta, hcella⟩ := ha1.at hkl
        obtain ⟨bb, ob, rfl, hltb, hcellb⟩ := hb1.at hkb
        have hcka := hcella k hkl
        have hckb := hcellb k hkb
        clear hcella hcellb
        by_cases heq : la[k] = lb[k]
        · have HA2 : Hid (∀ j (h1 : j < la.length) (h2 : j < lb.length), j < k + 1 → la[j] = lb[j]) := Lib.hid (fun j h1 h2 h => by
            by_cases hjk : j = k
            · subst hjk; exact heq
            · exact HA.out j h1 h2 (by omega))
          clear HA
          rw [← heq] at hckb
          clear heq
          generalize la[k] = x at *
          go_wp2_with fail
          go_quiet (fail)
          all_goals
            go_wp2
            go_roundw
          case rel => exact ⟨k + 1, by omega, by go_num, HA2.out, hbl.trans (below_draws w.heap.size wr _)⟩
          case measure => simp [intOf]; omega
        · have hR := Lib.hid (rows_ne hkl hkb heq)
          generalize la[k] = x at *
          generalize lb[k] = y at *
          go_wp2_with fail
          go_quiet (fail)
          all_goals
            go_wp2
          · go_ret
            refine ⟨?_, hbl.trans (below_draws w.heap.size wr _)⟩
            rw [decide_eq_false hR.out]
            rfl
          · rename_i hh
            rw [str_ne heq] at hh
            cases hh
      · obtain rfl : k = la.length := by omega
        have hR := Lib.hid (rows_eq hlen (fun j h1 h2 => HA.out j h1 h2 h1))
        go_wp2
        go_ret
        refine ⟨?_, hbl⟩
        rw [decide_eq_true hR.out]
        rfl
  · have hR : Hid (la ≠ lb) := Lib.hid (by rintro rfl; exact hlen rfl)
    have hq : ((la.length : Int) != (lb.length : Int)) = true := by rw [bne_iff_ne]; omega
    clear hlen
    go_enter Tryd.func52, Tryd.ntmps52
    go_wp2
    go_ret
    refine ⟨?_, Below.refl _ w⟩
    rw [decide_eq_false hR.out]
    rfl
end Go.Proofs.YtpcfhiipkbpmkaaDoor
