/- The walk of Whole (layer 6), the reference's. -/
import Derived.Test.YthiggalnjjcejaaDoorNuWh
import Derived.Test.YthiggalnjjcejaaDoorNuM
namespace Go.Proofs.YthiggalnjjcejaaDoor
set_option linter.unusedSimpArgs false
set_option linter.unusedVariables false
open Go.RowKit Go.Tab

theorem getD_zeros (d : Bs) (m i : Nat) : (d ++ zeros m).getD i 48 = d.getD i 48 := by
  rw [List.getD_eq_getElem?_getD, List.getD_eq_getElem?_getD, List.getElem?_append]
  split
  · rfl
  · rw [List.getElem?_eq_none (l := d) (by omega), zeros, List.getElem?_replicate]
    split <;> rfl
set_option maxHeartbeats 4000000 in
set_option maxRecDepth 100000 in
theorem rWhole_any (n : Bool) (d : ByteArray) (e : Int) (w : World) (hd : d.size ≤ 1048576) :
    Calls Tryd.prog 22 #[.agg #[.bool n, .string d, .int .i64 e]] w fun r w' => r = .returned (whV (wholeO n d e)) ∧ Below w.heap.size w w' := by
  have hR := fun W => rNumRight_any n d e W hd
  have hx0 := Cells.new w #[.bool n, .string d, .int .i64 e] 24
  have hb0 : Below w.heap.size w (w.alloc (.cells #[.bool n, .string d, .int .i64 e] 24)) := (Below.refl _ w).alloc (Nat.le_refl _) _
  have hx0c0 := hx0.cell 0 _ rfl
  have hx0f0 := hx0.frozen 0
  have hx0c1 := hx0.cell 1 _ rfl
  have hx0f1 := hx0.frozen 1
  have hx0c2 := hx0.cell 2 _ rfl
  have hx0f2 := hx0.frozen 2
  cases hr : numR n d e with
  | false =>
    have hO := Lib.hid (show wholeO n d e = none by rw [wholeO, if_neg (by rw [hr]; simp)])
    rw [hr] at hR
    clear hr
    go_enter Tryd.func22, Tryd.ntmps22
    go_wp2_with fail
    refine (hR _).mono ?_
    rintro _ w1 ⟨rfl, hb⟩
    have hx1 := hx0.below hb hx0.lt
    have hb1 := hb0.trans (hb.mono hb0.size)
    have hlt1 := hx1.lt
    clear hb hx0c0 hx0c1 hx0c2 hx0f0 hx0f1 hx0f2
    have hx1c0 := hx1.cell 0 _ rfl
    have hx1f0 := hx1.frozen 0
    have hx1c1 := hx1.cell 1 _ rfl
    have hx1f1 := hx1.frozen 1
    have hx1c2 := hx1.cell 2 _ rfl
    have hx1f2 := hx1.frozen 2
    go_wp2
    go_ret2
    exact ⟨by rw [hO.out]; rfl, hb1⟩
  | true =>
    have hB := right_b hr
    have HP := Lib.hid (numR_list (neg := n) (d := d.data.toList) (e := e) (by rw [← strL_of]; exact hr))
    rw [hr] at hR
    by_cases c1 : n = true
    · have hO := Lib.hid (show wholeO n d e = none by rw [wholeO, if_neg (by rw [c1]; simp)])
      subst c1
      clear hr HP
      go_enter Tryd.func22, Tryd.ntmps22
      go_wp2_with fail
      refine (hR _).mono ?_
      rintro _ w1 ⟨rfl, hb⟩
      have hx1 := hx0.below hb hx0.lt
      have hb1 := hb0.trans (hb.mono hb0.size)
      have hlt1 := hx1.lt
      clear hb hx0c0 hx0c1 hx0c2 hx0f0 hx0f1 hx0f2
      have hx1c0 := hx1.cell 0 _ rfl
      have hx1f0 := hx1.frozen 0
      have hx1c1 := hx1.cell 1 _ rfl
      have hx1f1 := hx1.frozen 1
      have hx1c2 := hx1.cell 2 _ rfl
      have hx1f2 := hx1.frozen 2
      go_wp2
      go_ret2
      exact ⟨by rw [hO.out]; rfl, hb1⟩
    obtain rfl : n = false := by simpa using c1
    clear c1
    by_cases c2 : e < 0
    · have hO := Lib.hid (show wholeO false d e = none by rw [wholeO, if_neg (by omega)])
      clear hr HP
      go_enter Tryd.func22, Tryd.ntmps22
      go_wp2_with fail
      refine (hR _).mono ?_
      rintro _ w1 ⟨rfl, hb⟩
      have hx1 := hx0.below hb hx0.lt
      have hb1 := hb0.trans (hb.mono hb0.size)
      have hlt1 := hx1.lt
      clear hb hx0c0 hx0c1 hx0c2 hx0f0 hx0f1 hx0f2
      have hx1c0 := hx1.cell 0 _ rfl
      have hx1f0 := hx1.frozen 0
      have hx1c1 := hx1.cell 1 _ rfl
      have hx1f1 := hx1.frozen 1
      have hx1c2 := hx1.cell 2 _ rfl
      have hx1f2 := hx1.frozen 2
      go_wp2
      go_ret2
      exact ⟨by rw [hO.out]; rfl, hb1⟩
    by_cases c3 : 20 < (d.size : Int) + e
    · have hO := Lib.hid (show wholeO false d e = none by rw [wholeO, if_neg (by omega)])
      have c4 : 20 < e + (d.size : Int) := by omega
      clear hr HP
      go_enter Tryd.func22, Tryd.ntmps22
      go_wp2_with fail
      refine (hR _).mono ?_
      rintro _ w1 ⟨rfl, hb⟩
      have hx1 := hx0.below hb hx0.lt
      have hb1 := hb0.trans (hb.mono hb0.size)
      have hlt1 := hx1.lt
      clear hb hx0c0 hx0c1 hx0c2 hx0f0 hx0f1 hx0f2
      have hx1c0 := hx1.cell 0 _ rfl
      have hx1f0 := hx1.frozen 0
      have hx1c1 := hx1.cell 1 _ rfl
      have hx1f1 := hx1.frozen 1
      have hx1c2 := hx1.cell 2 _ rfl
      have hx1f2 := hx1.frozen 2
      go_wp2
      go_ret2
      exact ⟨by rw [hO.out]; rfl, hb1⟩
    obtain ⟨m, rfl⟩ : ∃ m : Nat, e = m := ⟨e.toNat, by omega⟩
    have hO1 : wholeO false d m = w64 0 (d.data.toList ++ zeros m) := by rw [wholeO, if_pos ⟨hr, rfl, by omega, by omega⟩, Int.toNat_natCast]
    have c4 : ¬ 20 < (m : Int) + (d.size : Int) := by omega
    obtain ⟨L, hL⟩ : ∃ L, d.data.toList ++ zeros m = L := ⟨_, rfl⟩
    have hLl : L.length = d.size + m := by rw [← hL, List.length_append, ← size_list, zeros, List.length_replicate]
    have hall : L.all dg = true := by
      rw [← hL, List.all_append, zeros_all, Bool.and_true]
      rcases HP.out with h | h
      · rw [h.1]; rfl
      · exact h.all
    have hat : ∀ i, i < L.length → atN d.data.toList m ((d.size : Int) + m - 1 - i) = L.getD i 48 := fun i hi => by
      rw [atN_at (i := i) (by rw [← size_list]), ← hL, getD_zeros]
    rw [hL] at hO1
    have HO := Lib.hid hO1
    have HL := Lib.hid hLl
    have HA := Lib.hid hall
    have HT := Lib.hid hat
    have hds : d.size ≤ 20 := by omega
    have hm20 : m ≤ 20 := by omega
    clear hr HP hL hLl hall hat hO1
    go_enter Tryd.func22, Tryd.ntmps22
    go_wp2_with fail
    refine (hR _).mono ?_
    rintro _ w1 ⟨rfl, hb⟩
    have hx1 := hx0.below hb hx0.lt
    have hb1 := hb0.trans (hb.mono hb0.size)
    have hlt1 := hx1.lt
    clear hb hx0c0 hx0c1 hx0c2 hx0f0 hx0f1 hx0f2
    have hx1c0 := hx1.cell 0 _ rfl
    have hx1f0 := hx1.frozen 0
    have hx1c1 := hx1.cell 1 _ rfl
    have hx1f1 := hx1.frozen 1
    have hx1c2 := hx1.cell 2 _ rfl
    have hx1f2 := hx1.frozen 2
    go_wp2_with fail
    clear hx1c0 hx1c1 hx1c2 hx1f0 hx1f1 hx1f2
    go_loopw [4, 5] (fun v p wr => ∃ (i a : Nat), i ≤ d.size + m ∧ v = .int .u64 a ∧ p = .int .i64 ((m : Int) + (d.size : Int) - 1 - i) ∧ a < 18446744073709551616 ∧ w64 a (L.drop i) = wholeO false d m ∧ Cells wr w.heap.size #[.bool false, .string d, .int .i64 m] 24 ∧ Below w.heap.size w wr) (fun _ p _ => (intOf p + 1).toNat)
    case atStart => exact ⟨0, 0, Nat.zero_le _, rfl, by simp, by decide, by rw [HO.out]; rfl, hx1, hb1⟩
    case round =>
      clear hx1 hb1 hlt1 hR hB
      obtain ⟨i, a, hi, rfl, rfl, ha, hw, hx, hb⟩ := hrel
      by_cases h0 : i = d.size + m
      · have hO := Lib.hid (show wholeO false d m = some a by rw [← hw, List.drop_of_length_le (by rw [HL.out]; omega)]; rfl)
        have hq : (m : Int) + (d.size : Int) - 1 - i = -1 := by omega
        rw [hq]
        clear hw hq
        go_wp2
        go_ret2
        exact ⟨by rw [hO.out]; rfl, hb⟩
      · have hil : i < L.length := by rw [HL.out]; omega
        obtain ⟨c, hc⟩ : ∃ c, L.getD i 48 = c := ⟨_, rfl⟩
        have hce : L[i] = c := by rw [← hc, List.getD_eq_getElem?_getD, List.getElem?_eq_getElem hil]; rfl
        have hcd := dg_lt (List.all_eq_true.1 HA.out L[i] (List.getElem_mem _))
        rw [hce] at hcd
        rw [List.drop_eq_getElem_cons hil, hce, w64] at hw
        obtain ⟨q, hq⟩ : ∃ q : Int, (m : Int) + (d.size : Int) - 1 - i = q := ⟨_, rfl⟩
        have hq0 : 0 ≤ q ∧ q ≤ 20 := by omega
        have hc1 : Calls Tryd.prog 44 #[.agg #[.bool false, .string d, .int .i64 m], .int .i64 q] wr fun e w' => e = .returned (.int .u8 c.toNat) ∧ Below wr.heap.size wr w' := by
          have h1 := HT.out i hil
          rw [show (d.size : Int) + m - 1 - i = q by omega, hc] at h1
          rw [← h1]; exact at_any false d m q wr (by omega) (by omega) (by omega)
        have HQ := Lib.hid hq
        rw [hq]
        obtain ⟨k, hk⟩ : ∃ k, c.toNat - 48 = k := ⟨_, rfl⟩
        have hck : (c.toNat : Int) = 48 + k := by omega
        have hk9 : k ≤ 9 := by omega
        rw [hk] at hw
        rw [hck] at hc1
        clear hc hce hq hil hck hk hcd
        have hxc0 := hx.cell 0 _ rfl
        have hxf0 := hx.frozen 0
        have hxc1 := hx.cell 1 _ rfl
        have hxf1 := hx.frozen 1
        have hxc2 := hx.cell 2 _ rfl
        have hxf2 := hx.frozen 2
        go_wp2_with fail
        refine hc1.mono ?_
        clear hc1
        rintro _ w2 ⟨rfl, hb2⟩
        have hx2 := hx.below hb2 hx.lt
        have hb3 := hb.trans (hb2.mono hb.size)
        clear hb2 hxc0 hxc1 hxc2 hxf0 hxf1 hxf2 hx hb c4 c3 c2 hds hm20
        have s1 : (48 : Int) + k - 48 = k := by omega
        by_cases hov : 18446744073709551616 ≤ a * 10 + k
        · rw [if_pos hov] at hw
          have hO := Lib.hid hw.symm
          clear hw hi
          have hq1 : (18446744073709551615 - (k : Int)) / 10 < a := by omega
          have hq2 : (18446744073709551615 - (k : Int)).tdiv 10 < a := by rw [Int.tdiv_eq_ediv_of_nonneg (by omega)]; exact hq1
          go_wp2
          go_ret2
          exact ⟨by rw [hO.out]; rfl, hb3⟩
        · rw [if_neg hov] at hw
          have hN := Lib.hid hw
          have hi1 : i + 1 ≤ d.size + m := by omega
          have hq1 : ¬ (18446744073709551615 - (k : Int)) / 10 < a := by omega
          have hq2 : ¬ (18446744073709551615 - (k : Int)).tdiv 10 < a := by rw [Int.tdiv_eq_ediv_of_nonneg (by omega)]; exact hq1
          clear hw
          go_wp2
          go_roundw
          · exact ⟨i + 1, a * 10 + k, hi1, by simp, by simp; have := HQ.out; omega, by omega, hN.out, hx2, hb3⟩
          · simp [intOf]; have := HQ.out; omega
end Go.Proofs.YthiggalnjjcejaaDoor
