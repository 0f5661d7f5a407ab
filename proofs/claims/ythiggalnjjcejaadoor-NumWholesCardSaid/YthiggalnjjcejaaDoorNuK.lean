/- The walk of Print (layer 6), this side's; what the tables are that the walks read. -/
import Derived.Test.YthiggalnjjcejaaDoorNuJ
import Derived.Test.YthiggalnjjcejaaDoorNuV
import Derived.Test.YthiggalnjjcejaaDoorLaidK
import Derived.WalkSmall
import Derived.Lib.ItoaLen
import Derived.Lib.AppendIntMem
namespace Go.Proofs.YthiggalnjjcejaaDoor
set_option linter.unusedSimpArgs false
set_option linter.unusedVariables false
open Go.RowKit Go.Tab

/-- The tables that the walks of numbers read. -/
structure NumTab (w : World) : Prop where
  steps : TabS w
  pow : Lib.TabIs Tryd.prog w "internal/strconv.uint64pow10" .u64 Lib.pow10Tab
theorem gPow : Tryd.prog.globalNamed "internal/strconv.uint64pow10" = some 4 := by kernel_rfl
theorem TabS.below' {w w' : World} (h : TabS w) (hb : Below w.heap.size w w') : TabS w' := h.below hb h.pos
theorem pow_below {w w' : World} (h : Lib.TabIs Tryd.prog w "internal/strconv.uint64pow10" .u64 Lib.pow10Tab) (hb : Below w.heap.size w w') : Lib.TabIs Tryd.prog w' "internal/strconv.uint64pow10" .u64 Lib.pow10Tab := by
  have hc := h.cell gPow 0 (by rw [Lib.pow10Tab_length]; omega)
  have hlt := World.block_lt_of_cell? w _ hc
  exact var?_below hb gPow hlt h
theorem NumTab.below {w w' : World} (h : NumTab w) (hb : Below w.heap.size w w') : NumTab w' := ⟨h.steps.below' hb, pow_below h.pow hb⟩

theorem repeatL_zeros (n : Nat) : Lib.repeatL [48] n = zeros n := by
  unfold zeros
  induction n with
  | zero => rfl
  | succ n ih => rw [Lib.repeatL, ih, List.replicate_succ]; rfl
theorem repeat_any (n : Nat) (w : World) (hn : n ≤ 1000000) : Calls Tryd.prog 36 #[.string ⟨#[48]⟩, .int .i64 n] w fun e w' => e = .returned (.string (strL (zeros n))) ∧ Below w.heap.size w w' := by
  have := Go.Proofs.Tryd.strings_Repeat ⟨#[48]⟩ n w (by omega) (by show 1 * n ≤ _; omega)
  rw [show (⟨#[48]⟩ : ByteArray).data.toList = [48] from rfl, repeatL_zeros] at this
  exact this
theorem itoa_any (e : Int) (w : World) (h : -1000000 ≤ e ∧ e ≤ 1000000) (hT : Lib.TabIs Tryd.prog w "internal/strconv.uint64pow10" .u64 Lib.pow10Tab) :
    Calls Tryd.prog 37 #[.int .i64 e] w fun r w' => r = .returned (.string (strL (Lib.itoa e))) ∧ Below w.heap.size w w' := by
  refine (Go.Proofs.Tryd.strconv_Itoa e (by omega) (by omega) w hT).mono ?_
  rintro r w' ⟨rfl, k, os, rfl⟩
  exact ⟨rfl, Lib.below_grow _ _ (Nat.le_refl _) k os⟩


/-- A number by value. -/
def numV (neg : Bool) (D : ByteArray) (e : Int) : Value := .agg #[.bool neg, .string D, .int .i64 e]

set_option maxHeartbeats 4000000 in
set_option maxRecDepth 100000 in
theorem Print_any (neg : Bool) (D : ByteArray) (e : Int) (w : World) (hT : NumTab w) (hd : D.size ≤ 1048576) :
    Calls Tryd.prog 14 #[.agg #[.bool neg, .string D, .int .i64 e]] w fun r w' => r = .returned (.string (strL (if numR neg D e then printN neg D.data.toList e else []))) ∧ Below w.heap.size w w' := by
  have hR := fun W => numRight_any neg D e W hd
  have hx0 := Cells.new w #[.bool neg, .string D, .int .i64 e] 24
  have hb0 : Below w.heap.size w (w.alloc (.cells #[.bool neg, .string D, .int .i64 e] 24)) := (Below.refl _ w).alloc (Nat.le_refl _) _
  cases hr : numR neg D e with
  | false =>
    rw [hr] at hR
    clear hr
    have hx0c0 := hx0.cell 0 _ rfl
    have hx0f0 := hx0.frozen 0
    have hx0c1 := hx0.cell 1 _ rfl
    have hx0f1 := hx0.frozen 1
    have hx0c2 := hx0.cell 2 _ rfl
    have hx0f2 := hx0.frozen 2
    go_enter Tryd.func14, Tryd.ntmps14
    go_wp2_with fail
    refine (hR _).mono ?_
    rintro _ w1 ⟨rfl, hb⟩
    go_wp2
    go_ret
    exact ⟨rfl, hb0.trans (hb.mono (by simp))⟩
  | true =>
    have HP := Lib.hid (numR_list (neg := neg) (d := D.data.toList) (e := e) (by rw [← strL_of]; exact hr))
    rw [hr] at hR
    clear hr
    by_cases h0 : D.size = 0
    · have hz : ((D.size : Int) == 0) = true := by rw [beq_iff_eq]; omega
      have hl : D.data.toList = [] := List.eq_nil_of_length_eq_zero (by rw [← size_list]; exact h0)
      have HL := Lib.hid (show printN neg D.data.toList e = [48] by rw [printN, if_pos hl])
      clear h0 hl HP
      have hx0c0 := hx0.cell 0 _ rfl
      have hx0f0 := hx0.frozen 0
      have hx0c1 := hx0.cell 1 _ rfl
      have hx0f1 := hx0.frozen 1
      have hx0c2 := hx0.cell 2 _ rfl
      have hx0f2 := hx0.frozen 2
      go_enter Tryd.func14, Tryd.ntmps14
      go_wp2_with fail
      refine (hR _).mono ?_
      rintro _ w1 ⟨rfl, hb⟩
      have hx1 := hx0.below hb hx0.lt
      have hb1 := hb0.trans (hb.mono hb0.size)
      clear hb hx0c0 hx0c1 hx0c2 hx0f0 hx0f1 hx0f2
      have hx1c0 := hx1.cell 0 _ rfl
      have hx1f0 := hx1.frozen 0
      have hx1c1 := hx1.cell 1 _ rfl
      have hx1f1 := hx1.frozen 1
      have hx1c2 := hx1.cell 2 _ rfl
      have hx1f2 := hx1.frozen 2
      go_wp2
      go_ret
      exact ⟨by rw [HL.out]; rfl, hb1⟩
    · have hRD : RightD D.data.toList e := by
        rcases HP.out with h | h
        · exact absurd (by rw [size_list, h.1]; rfl) h0
        · exact h
      have hlen := hRD.len
      rw [← size_list] at hlen
      have he1 := hRD.e1
      have he2 := hRD.e2
      have hz : ((D.size : Int) == 0) = false := by rw [beq_eq_false_iff_ne]; omega
      have HN := Lib.hid hRD.ne
      clear HP hRD h0
      have hx0c0 := hx0.cell 0 _ rfl
      have hx0f0 := hx0.frozen 0
      have hx0c1 := hx0.cell 1 _ rfl
      have hx0f1 := hx0.frozen 1
      have hx0c2 := hx0.cell 2 _ rfl
      have hx0f2 := hx0.frozen 2
      go_enter Tryd.func14, Tryd.ntmps14
      go_wp2_with fail
      refine (hR _).mono ?_
      clear hR
      rintro _ w1 ⟨rfl, hb⟩
      have hx1 := hx0.below hb hx0.lt
      have hb1 := hb0.trans (hb.mono hb0.size)
      clear hb hx0c0 hx0c1 hx0c2 hx0f0 hx0f1 hx0f2
      have hx1c0 := hx1.cell 0 _ rfl
      have hx1f0 := hx1.frozen 0
      have hx1c1 := hx1.cell 1 _ rfl
      have hx1f1 := hx1.frozen 1
      have hx1c2 := hx1.cell 2 _ rfl
      have hx1f2 := hx1.frozen 2
      have hT1 := hT.below hb1
      go_upto_if 14 with fail
      obtain ⟨F, hF⟩ : ∃ F, strL (front neg) = F := ⟨_, rfl⟩
      go_cut [4] (fun x wc => x = .string F ∧ w1 = wc)
      case first =>
        have HF := Lib.hid hF
        clear hF
        cases neg
        · go_wp2
          go_meet
          case rel => exact ⟨by rw [← HF.out]; rfl, rfl⟩
        · go_wp2
          go_meet
          case rel => exact ⟨by rw [← HF.out]; rfl, rfl⟩
      case rest =>
        obtain ⟨rfl, rfl⟩ := hcut
        have hFs : F.size ≤ 1 := by rw [← hF, size_strL]; cases neg <;> simp [front]
        have HF := Lib.hid hF
        have X0 := fun x : Under w1 => (x.below.cell (by exact hx1.lt)).trans hx1c0
        have X1 := fun x : Under w1 => (x.below.cell (by exact hx1.lt)).trans hx1c1
        have X2 := fun x : Under w1 => (x.below.cell (by exact hx1.lt)).trans hx1c2
        clear hF
        by_cases hA : 0 ≤ e ∧ e ≤ 20
        · obtain ⟨m, rfl⟩ : ∃ m : Nat, e = m := ⟨e.toNat, by omega⟩
          have HO := Lib.hid (show printN neg D.data.toList m = front neg ++ (D.data.toList ++ zeros m) by rw [printN, if_neg HN.out, if_pos hA]; rfl)
          obtain ⟨Z, hZ⟩ : ∃ Z, strL (zeros m) = Z := ⟨_, rfl⟩
          have hZs : Z.size ≤ 20 := by rw [← hZ, size_strL, zeros, List.length_replicate]; omega
          have hcall : ∀ x : Under w1, Calls Tryd.prog 36 #[.string ⟨#[48]⟩, .int .i64 m] x.w fun e w' => e = .returned (.string Z) ∧ ∃ y : Under w1, w' = y.w := fun x => x.call (by rw [← hZ]; exact repeat_any m x.w (by omega))
          have HZ := Lib.hid hZ
          clear hZ
          go_wp2_with fail
          refine wp_region_under w1 (by kernel_rfl) (by kernel_rfl) (Below.refl _ _) ?_
          repeat (go_big_quiet_step ((first | exact hcall _)))
          refine wpQuiet_nil ?_
          rintro _ ⟨x, rfl⟩
          go_wp2
          go_ret
          refine ⟨?_, hb1.trans (x.below.mono hb1.size)⟩
          show Ending.returned (.string (F ++ D ++ Z)) = _
          congr 2
          exact str_ext (by rw [app_list, app_list, HO.out, ← HF.out, ← HZ.out]; simp [strL_list])
        · by_cases hB : e < -20 ∨ 20 < e
          · have HO := Lib.hid (show printN neg D.data.toList e = front neg ++ (D.data.toList ++ 101 :: Lib.itoa e) by rw [printN, if_neg HN.out, if_neg hA, if_pos hB])
            obtain ⟨Z, hZ⟩ : ∃ Z, strL (Lib.itoa e) = Z := ⟨_, rfl⟩
            have hZs : Z.size ≤ 21 := by rw [← hZ, size_strL]; exact Lib.itoa_length_le e (by omega) (by omega)
            have hcall : ∀ x : Under w1, Calls Tryd.prog 37 #[.int .i64 e] x.w fun r w' => r = .returned (.string Z) ∧ ∃ y : Under w1, w' = y.w := fun x => x.call (by rw [← hZ]; exact itoa_any e x.w (by omega) (hT1.below x.below).pow)
            have HZ := Lib.hid hZ
            clear hZ hA
            rcases hB with hB | hB
            · go_wp2_with fail
              refine wp_region_under w1 (by kernel_rfl) (by kernel_rfl) (Below.refl _ _) ?_
              repeat (go_big_quiet_step ((first | exact hcall _)))
              refine wpQuiet_nil ?_
              rintro _ ⟨x, rfl⟩
              go_wp2
              go_ret
              refine ⟨?_, hb1.trans (x.below.mono hb1.size)⟩
              show Ending.returned (.string (F ++ D ++ ⟨#[101]⟩ ++ Z)) = _
              congr 2
              exact str_ext (by rw [app_list, app_list, app_list, HO.out, ← HF.out, ← HZ.out]; simp [strL_list])
            · have hA1 : decide (e ≤ 20) = false := decide_eq_false (by omega)
              go_wp2_with fail
              refine wp_region_under w1 (by kernel_rfl) (by kernel_rfl) (Below.refl _ _) ?_
              repeat (go_big_quiet_step ((first | exact hcall _)))
              refine wpQuiet_nil ?_
              rintro _ ⟨x, rfl⟩
              go_wp2
              go_ret
              refine ⟨?_, hb1.trans (x.below.mono hb1.size)⟩
              show Ending.returned (.string (F ++ D ++ ⟨#[101]⟩ ++ Z)) = _
              congr 2
              exact str_ext (by rw [app_list, app_list, app_list, HO.out, ← HF.out, ← HZ.out]; simp [strL_list])
          · obtain ⟨m, rfl⟩ : ∃ m : Nat, e = -(m : Int) := ⟨(-e).toNat, by omega⟩
            have hm : 1 ≤ m ∧ m ≤ 20 := by omega
            have d1 : ¬ (0 ≤ -(m : Int)) := by omega
            have d2 : ¬ (-(m : Int) < -20) := by omega
            have d3 : ¬ (20 < -(m : Int)) := by omega
            by_cases hC : m < D.size
            · have HO := Lib.hid (show printN neg D.data.toList (-(m : Int)) = front neg ++ (D.data.toList.take (D.size - m) ++ 46 :: D.data.toList.drop (D.size - m)) by
                rw [printN, if_neg HN.out, if_neg hA, if_neg hB, if_pos (by rw [← size_list]; omega), ← size_list, show (- -(m : Int)).toNat = m by omega])
              obtain ⟨j, hj⟩ : ∃ j, D.size - m = j := ⟨_, rfl⟩
              rw [hj] at HO
              have hjj : IntKind.i64.wrap ((D.size : Int) + -(m : Int)) = (j : Int) := by rw [IntWalk.i64_in _ (by omega)]; omega
              have hj1 : j ≤ D.size := by omega
              have hjb : 0 ≤ (j : Int) ∧ (j : Int) ≤ (D.size : Int) := by omega
              obtain ⟨D1, hD1⟩ : ∃ D1, D.extract 0 j = D1 := ⟨_, rfl⟩
              obtain ⟨D2, hD2⟩ : ∃ D2, D.extract j D.size = D2 := ⟨_, rfl⟩
              have hs1 : D1.size ≤ 1000 := by rw [← hD1, ByteArray.size_extract]; omega
              have hs2 : D2.size ≤ 1000 := by rw [← hD2, ByteArray.size_extract]; omega
              have hmm : (m : Int) < (D.size : Int) := by omega
              clear hA hB hj
              have HD1 := Lib.hid hD1
              have HD2 := Lib.hid hD2
              go_wp2_with fail
              go_quiet (fail)
              clear hjj hjb
              go_wp2
              go_ret
              refine ⟨?_, below_drewN hb1 _⟩
              show Ending.returned (.string (F ++ D1 ++ ⟨#[46]⟩ ++ D2)) = _
              congr 2
              exact str_ext (by rw [app_list, app_list, app_list, HO.out, ← HF.out, ← HD1.out, ← HD2.out, ext_list, ext_list, size_list, List.take_length]; simp [strL_list])
            · have HO := Lib.hid (show printN neg D.data.toList (-(m : Int)) = front neg ++ ([48, 46] ++ (zeros (m - D.size) ++ D.data.toList)) by
                rw [printN, if_neg HN.out, if_neg hA, if_neg hB, if_neg (by rw [← size_list]; omega), ← size_list, show (- -(m : Int)).toNat = m by omega])
              obtain ⟨j, hj⟩ : ∃ j, m - D.size = j := ⟨_, rfl⟩
              rw [hj] at HO
              have hj1 : j ≤ 20 := by omega
              have k1 : IntKind.i64.wrap (m : Int) = (m : Int) := IntWalk.i64_in _ (by omega)
              have k2 : IntKind.i64.wrap (- -(m : Int)) = (m : Int) := by rw [IntWalk.i64_in _ (by omega)]; omega
              have k3 : IntKind.i64.wrap ((m : Int) - (D.size : Int)) = (j : Int) := by rw [IntWalk.i64_in _ (by omega)]; omega
              obtain ⟨Z, hZ⟩ : ∃ Z, strL (zeros j) = Z := ⟨_, rfl⟩
              have hZs : Z.size ≤ 20 := by rw [← hZ, size_strL, zeros, List.length_replicate]; omega
              have hcall : ∀ x : Under w1, Calls Tryd.prog 36 #[.string ⟨#[48]⟩, .int .i64 j] x.w fun e w' => e = .returned (.string Z) ∧ ∃ y : Under w1, w' = y.w := fun x => x.call (by rw [← hZ]; exact repeat_any j x.w (by omega))
              have HZ := Lib.hid hZ
              have hmm : ¬ (m : Int) < (D.size : Int) := by omega
              clear hA hB hj hZ
              go_wp2_with fail
              refine wp_region_under w1 (by kernel_rfl) (by kernel_rfl) (Below.refl _ _) ?_
              repeat (go_big_quiet_step ((first | exact hcall _)))
              refine wpQuiet_nil ?_
              rintro _ ⟨x, rfl⟩
              clear k1 k2 k3
              go_wp2
              go_ret
              refine ⟨?_, hb1.trans (x.below.mono hb1.size)⟩
              show Ending.returned (.string (F ++ ⟨#[48, 46]⟩ ++ Z ++ D)) = _
              congr 2
              exact str_ext (by rw [app_list, app_list, app_list, HO.out, ← HF.out, ← HZ.out]; simp [strL_list])
end Go.Proofs.YthiggalnjjcejaaDoor
