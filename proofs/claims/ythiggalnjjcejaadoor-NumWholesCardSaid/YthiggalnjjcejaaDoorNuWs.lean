/- NumWholes: the walk (layer 6). -/
import Derived.Test.YthiggalnjjcejaaDoorNuL
import Derived.Test.YthiggalnjjcejaaDoorNuOf
import Derived.Test.YthiggalnjjcejaaDoorNuWr
namespace Go.Proofs.YthiggalnjjcejaaDoor
set_option linter.unusedSimpArgs false
set_option linter.unusedVariables false
open Go.RowKit Go.Tab

theorem whV_is (o : Option Nat) : ∃ (z : Nat) (b : Bool), whV o = .tuple #[.int .u64 z, .bool b] := by
  cases o with
  | none => exact ⟨0, false, rfl⟩
  | some v => exact ⟨v, true, rfl⟩
set_option maxHeartbeats 4000000 in
set_option maxRecDepth 100000 in
theorem NumWholes_walk (nb0 : Bool) (nd0 : ByteArray) (ne0 : Int) (a1 : Int) (w : World) (w0 : nd0.size ≤ maxLen ∧ (Lit.int .i64 ne0).wf = true) (w1 : (Lit.int .u64 a1).wf = true) (hT0 : NumTab w ∧ ErrAt w) :
    Calls Tryd.prog 8 #[.agg #[.bool nb0, .string nd0, .int .i64 ne0], .int .u64 a1] w fun e w' => e = .returned (.bool true) ∧ Below w.heap.size w w' := by
  replace w0 := w0.1
  unfold maxLen at w0
  have r1 : 0 ≤ a1 ∧ a1 < 18446744073709551616 := by
    rw [Lit.wf, Bool.and_eq_true, decide_eq_true_eq, decide_eq_true_eq] at w1
    have e1 : IntKind.u64.min = 0 := rfl
    have e2 : IntKind.u64.max = 18446744073709551615 := rfl
    omega
  clear w1
  obtain ⟨v, rfl⟩ : ∃ v : Nat, a1 = v := ⟨a1.toNat, by omega⟩
  have hv : v < 18446744073709551616 := by omega
  clear r1
  have hT := hT0.1
  have hE := hT0.2
  have hb : Below w.heap.size w (w.alloc (.cells #[.bool nb0, .string nd0, .int .i64 ne0] 24)) := (Below.refl _ w).alloc (Nat.le_refl _) _
  have hx := Cells.new w #[.bool nb0, .string nd0, .int .i64 ne0] 24
  have hW := wakes_any _ (hT.below hb)
  by_cases hl : 1200 < nd0.size
  · skip
    have hxc0 := hx.cell 0 _ rfl
    have hxf0 := hx.frozen 0
    have hxc1 := hx.cell 1 _ rfl
    have hxf1 := hx.frozen 1
    have hxc2 := hx.cell 2 _ rfl
    have hxf2 := hx.frozen 2
    go_enter Tryd.func8, Tryd.ntmps8
    go_wp2_with fail
    refine hW.mono ?_
    rintro _ w1 ⟨rfl, hb1⟩
    have hx1 := hx.below hb1 hx.lt
    have hb2 := hb.trans (hb1.mono hb.size)
    clear hxc0 hxc1 hxc2 hxf0 hxf1 hxf2 hx hb hb1
    have hx := hx1
    have hb := hb2
    clear hx1 hb2
    have hxc0 := hx.cell 0 _ rfl
    have hxf0 := hx.frozen 0
    have hxc1 := hx.cell 1 _ rfl
    have hxf1 := hx.frozen 1
    have hxc2 := hx.cell 2 _ rfl
    have hxf2 := hx.frozen 2
    go_wp2
    go_ret
    exact ⟨rfl, hb⟩
  · obtain ⟨z, b, hz⟩ := whV_is (wholeO nb0 nd0 ne0)
    have hA : ∀ W, NumTab W → ErrAt W → Calls Tryd.prog 21 #[.agg #[.bool nb0, .string nd0, .int .i64 ne0]] W fun r w' => r = .returned (.tuple #[.int .u64 z, .bool b]) ∧ Below W.heap.size W w' := fun W h1 h2 => by rw [← hz]; exact Whole_any nb0 nd0 ne0 W h1 h2 (by omega)
    have hB : ∀ W, Calls Tryd.prog 22 #[.agg #[.bool nb0, .string nd0, .int .i64 ne0]] W fun r w' => r = .returned (.tuple #[.int .u64 z, .bool b]) ∧ Below W.heap.size W w' := fun W => by rw [← hz]; exact rWhole_any nb0 nd0 ne0 W (by omega)
    obtain ⟨D, E, hDE, hwo, hDs⟩ : ∃ (D : ByteArray) (E : Int), ofV v = .agg #[.bool false, .string D, .int .i64 E] ∧ wholeO false D E = some v ∧ D.size ≤ 20 := by
      refine ⟨_, _, rfl, whole_of hv, ?_⟩
      split
      · decide
      · have h1 := dec_len hv
        have h2 := trimR_le (Lib.decDigits v)
        change (cutD v).length ≤ _ at h2
        rw [size_strL]; omega
    have hO : ∀ W, NumTab W → Calls Tryd.prog 23 #[.int .u64 v] W fun e w' => e = .returned (.agg #[.bool false, .string D, .int .i64 E]) ∧ Below W.heap.size W w' := fun W h => by rw [← hDE]; exact Of_any v hv W h
    have hP : ∀ W, Calls Tryd.prog 24 #[.int .u64 v] W fun e w' => e = .returned (.agg #[.bool false, .string D, .int .i64 E]) ∧ Below W.heap.size W w' := fun W => by rw [← hDE]; exact rOf_any v hv W
    have hC : ∀ W, NumTab W → ErrAt W → Calls Tryd.prog 21 #[.agg #[.bool false, .string D, .int .i64 E]] W fun r w' => r = .returned (.tuple #[.int .u64 v, .bool true]) ∧ Below W.heap.size W w' := fun W h1 h2 => by
      have := Whole_any false D E W h1 h2 (by omega)
      rw [hwo] at this
      exact this
    clear hz hDE hwo hDs hv w0 hT0
    have hxc0 := hx.cell 0 _ rfl
    have hxf0 := hx.frozen 0
    have hxc1 := hx.cell 1 _ rfl
    have hxf1 := hx.frozen 1
    have hxc2 := hx.cell 2 _ rfl
    have hxf2 := hx.frozen 2
    go_enter Tryd.func8, Tryd.ntmps8
    go_wp2_with fail
    refine hW.mono ?_
    clear hW
    rintro _ w1 ⟨rfl, hb1⟩
    have hx1 := hx.below hb1 hx.lt
    have hb2 := hb.trans (hb1.mono hb.size)
    clear hxc0 hxc1 hxc2 hxf0 hxf1 hxf2 hx hb hb1
    have hx := hx1
    have hb := hb2
    clear hx1 hb2
    have hxc0 := hx.cell 0 _ rfl
    have hxf0 := hx.frozen 0
    have hxc1 := hx.cell 1 _ rfl
    have hxf1 := hx.frozen 1
    have hxc2 := hx.cell 2 _ rfl
    have hxf2 := hx.frozen 2
    go_wp2_with fail
    refine (hA _ (hT.below hb) (hE.below hb)).mono ?_
    clear hA
    rintro _ w2 ⟨rfl, hb1⟩
    have hx1 := hx.below hb1 hx.lt
    have hb2 := hb.trans (hb1.mono hb.size)
    clear hxc0 hxc1 hxc2 hxf0 hxf1 hxf2 hx hb hb1
    have hx := hx1
    have hb := hb2
    clear hx1 hb2
    have hxc0 := hx.cell 0 _ rfl
    have hxf0 := hx.frozen 0
    have hxc1 := hx.cell 1 _ rfl
    have hxf1 := hx.frozen 1
    have hxc2 := hx.cell 2 _ rfl
    have hxf2 := hx.frozen 2
    go_wp2_with fail
    refine (hB _).mono ?_
    clear hB
    rintro _ w3 ⟨rfl, hb1⟩
    have hx1 := hx.below hb1 hx.lt
    have hb2 := hb.trans (hb1.mono hb.size)
    clear hxc0 hxc1 hxc2 hxf0 hxf1 hxf2 hx hb hb1
    have hx := hx1
    have hb := hb2
    clear hx1 hb2
    have hxc0 := hx.cell 0 _ rfl
    have hxf0 := hx.frozen 0
    have hxc1 := hx.cell 1 _ rfl
    have hxf1 := hx.frozen 1
    have hxc2 := hx.cell 2 _ rfl
    have hxf2 := hx.frozen 2
    go_wp2_with fail
    refine (hO _ (hT.below hb)).mono ?_
    rintro _ w4 ⟨rfl, hb1⟩
    have hx1 := hx.below hb1 hx.lt
    have hb2 := hb.trans (hb1.mono hb.size)
    clear hxc0 hxc1 hxc2 hxf0 hxf1 hxf2 hx hb hb1
    have hx := hx1
    have hb := hb2
    clear hx1 hb2
    have hxc0 := hx.cell 0 _ rfl
    have hxf0 := hx.frozen 0
    have hxc1 := hx.cell 1 _ rfl
    have hxf1 := hx.frozen 1
    have hxc2 := hx.cell 2 _ rfl
    have hxf2 := hx.frozen 2
    go_wp2_with fail
    refine (hC _ (hT.below hb) (hE.below hb)).mono ?_
    clear hC
    rintro _ w5 ⟨rfl, hb1⟩
    have hx1 := hx.below hb1 hx.lt
    have hb2 := hb.trans (hb1.mono hb.size)
    clear hxc0 hxc1 hxc2 hxf0 hxf1 hxf2 hx hb hb1
    have hx := hx1
    have hb := hb2
    clear hx1 hb2
    have hxc0 := hx.cell 0 _ rfl
    have hxf0 := hx.frozen 0
    have hxc1 := hx.cell 1 _ rfl
    have hxf1 := hx.frozen 1
    have hxc2 := hx.cell 2 _ rfl
    have hxf2 := hx.frozen 2
    go_wp2_with fail
    refine (hO _ (hT.below hb)).mono ?_
    rintro _ w6 ⟨rfl, hb1⟩
    have hx1 := hx.below hb1 hx.lt
    have hb2 := hb.trans (hb1.mono hb.size)
    clear hxc0 hxc1 hxc2 hxf0 hxf1 hxf2 hx hb hb1
    have hx := hx1
    have hb := hb2
    clear hx1 hb2
    have hxc0 := hx.cell 0 _ rfl
    have hxf0 := hx.frozen 0
    have hxc1 := hx.cell 1 _ rfl
    have hxf1 := hx.frozen 1
    have hxc2 := hx.cell 2 _ rfl
    have hxf2 := hx.frozen 2
    go_wp2_with fail
    refine (hP _).mono ?_
    rintro _ w7 ⟨rfl, hb1⟩
    have hx1 := hx.below hb1 hx.lt
    have hb2 := hb.trans (hb1.mono hb.size)
    clear hxc0 hxc1 hxc2 hxf0 hxf1 hxf2 hx hb hb1
    have hx := hx1
    have hb := hb2
    clear hx1 hb2
    have hxc0 := hx.cell 0 _ rfl
    have hxf0 := hx.frozen 0
    have hxc1 := hx.cell 1 _ rfl
    have hxf1 := hx.frozen 1
    have hxc2 := hx.cell 2 _ rfl
    have hxf2 := hx.frozen 2
    go_wp2
    go_ret
    exact ⟨rfl, hb⟩
end Go.Proofs.YthiggalnjjcejaaDoor
