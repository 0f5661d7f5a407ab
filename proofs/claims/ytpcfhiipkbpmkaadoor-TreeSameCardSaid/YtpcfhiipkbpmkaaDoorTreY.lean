/- The walk of TreeSame (layer 8). -/
import Derived.Test.YtpcfhiipkbpmkaaDoorTreX
import Derived.Test.YtpcfhiipkbpmkaaDoorTreS
import Derived.Test.YtpcfhiipkbpmkaaDoorTreD
import Derived.Test.YtpcfhiipkbpmkaaDoorTreL
namespace Go.Proofs.YtpcfhiipkbpmkaaDoor
open Go.RowKit Go.Tab

theorem ValAt.shapeS {w : World} {t : Tree} {cs : List Value} (h : ValAt w t cs) :
    ∃ kind is neg digits exp str ka kn kc sa sn sc, cs = [.int .i64 kind, .bool is, .bool neg, .string digits, .int .i64 exp, .string str, .slice ka kn kc, .slice sa sn sc] := by
  cases t
  simp only [ValAt] at h
  obtain ⟨kv, a, cap, rfl, h2, -⟩ := h
  obtain ⟨ka, kc, rfl, -⟩ := h2.len
  exact ⟨_, _, _, _, _, _, _, _, _, _, _, _, rfl⟩
theorem rSame_both (t : Tree) (w : World) (cs ds : List Value) (hv : ValAt w t cs) (hv2 : ValAt w t ds) : Calls Tryd.prog 18 #[valV cs, valV ds] w fun e w' => e = .returned (.bool true) ∧ Below w.heap.size w w' :=
  SameP.fix (b := true) (yes_iff rfl) (rSame_any t t w cs ds hv hv2)
theorem Same_both (t : Tree) (w : World) (cs ds : List Value) (hv : ValAt w t cs) (hv2 : ValAt w t ds) : Calls Tryd.prog 22 #[valV cs, valV ds] w fun e w' => e = .returned (.bool true) ∧ Below w.heap.size w w' :=
  SameP.fix (b := true) (yes_iff rfl) (Same_any t t w cs ds hv hv2)

set_option maxHeartbeats 8000000 in
set_option maxRecDepth 100000 in
theorem TreeSame_walk (c0 : List Value) (t0 : Tree) (c1 : List Value) (t1 : Tree) (w : World) (w0 : ValAt w t0 c0) (w1 : ValAt w t1 c1) (hT : Tab w) (hf : Fits t0) (hf1 : Fits t1) :
    Calls Tryd.prog 5 #[valV c0, valV c1] w fun e w' => e = .returned (.bool true) ∧ Below w.heap.size w w' := by
  have HV0 := Lib.hid w0
  have HV1 := Lib.hid w1
  obtain ⟨kind, is, neg, digits, exp, str, ka, kn, kc, sa, sn, sc, rfl⟩ := w0.shapeS
  obtain ⟨jkind, jis, jneg, jdig, jexp, jstr, jka, jkn, jkc, jsa, jsn, jsc, rfl⟩ := w1.shapeS
  have hb0 : Below w.heap.size w ((w.alloc (.cells #[.int .i64 kind, .bool is, .bool neg, .string digits, .int .i64 exp, .string str, .slice ka kn kc, .slice sa sn sc] 27)).alloc (.cells #[.int .i64 jkind, .bool jis, .bool jneg, .string jdig, .int .i64 jexp, .string jstr, .slice jka jkn jkc, .slice jsa jsn jsc] 27)) := ((Below.refl _ w).alloc (Nat.le_refl _) _).alloc (by simp) _
  have hwk := twakes_any _ (hT.below hb0 hT.pos)
  have HB0 := Lib.hid hb0
  clear w0 w1 hb0
  simp only [valV]
  go_enter Tryd.func5, Tryd.ntmps5
  go_wp2_with fail
  refine hwk.mono ?_
  clear hwk
  rintro e w3 ⟨rfl, hb3⟩
  obtain ⟨hc0, hc1, hz0, hz1⟩ := two_new hb3
  have hbw : Below w.heap.size w w3 := HB0.out.trans (hb3.mono HB0.out.size)
  clear hb3 HB0
  have hG := Great_any t0 hf w3 _ (ValAt.below hbw _ _ HV0.out)
  have hc0' := hc0
  simp only [valV] at hG
  have hc0c0 := hc0.cell 0 _ rfl
  have hc0f0 := hc0.frozen 0
  have hc0c1 := hc0.cell 1 _ rfl
  have hc0f1 := hc0.frozen 1
  have hc0c2 := hc0.cell 2 _ rfl
  have hc0f2 := hc0.frozen 2
  have hc0c3 := hc0.cell 3 _ rfl
  have hc0f3 := hc0.frozen 3
  have hc0c4 := hc0.cell 4 _ rfl
  have hc0f4 := hc0.frozen 4
  have hc0c5 := hc0.cell 5 _ rfl
  have hc0f5 := hc0.frozen 5
  have hc0c6 := hc0.cell 6 _ rfl
  have hc0f6 := hc0.frozen 6
  have hc0c7 := hc0.cell 7 _ rfl
  have hc0f7 := hc0.frozen 7
  go_wp2_with fail
  refine hG.mono ?_
  clear hG hc0c0 hc0f0 hc0c1 hc0f1 hc0c2 hc0f2 hc0c3 hc0f3 hc0c4 hc0f4 hc0c5 hc0f5 hc0c6 hc0f6 hc0c7 hc0f7 hc0
  rintro e w4 ⟨⟨b, rfl, hgb⟩, hb4⟩
  have HGB := Lib.hid hgb
  clear hgb hf
  have hc0 := hc0'.below hb4 hz0
  have hc14 := hc1.below hb4 hz1
  have hbl4 := hbw.trans (hb4.mono hbw.size)
  have hz04 := hc0.lt
  have hz14 := hc14.lt
  clear hc0' hb4 hbw hc1
  cases b
  · have hkt : t0.bulk ≤ 1048576 := Nat.le_trans (HGB.out rfl) (by decide)
    clear HGB
    have hG := Great_any t1 hf1 w4 _ (ValAt.below hbl4 _ _ HV1.out)
    have hc14' := hc14
    simp only [valV] at hG
    have hc14c0 := hc14.cell 0 _ rfl
    have hc14f0 := hc14.frozen 0
    have hc14c1 := hc14.cell 1 _ rfl
    have hc14f1 := hc14.frozen 1
    have hc14c2 := hc14.cell 2 _ rfl
    have hc14f2 := hc14.frozen 2
    have hc14c3 := hc14.cell 3 _ rfl
    have hc14f3 := hc14.frozen 3
    have hc14c4 := hc14.cell 4 _ rfl
    have hc14f4 := hc14.frozen 4
    have hc14c5 := hc14.cell 5 _ rfl
    have hc14f5 := hc14.frozen 5
    have hc14c6 := hc14.cell 6 _ rfl
    have hc14f6 := hc14.frozen 6
    have hc14c7 := hc14.cell 7 _ rfl
    have hc14f7 := hc14.frozen 7
    go_wp2_with fail
    refine hG.mono ?_
    clear hG hc14c0 hc14f0 hc14c1 hc14f1 hc14c2 hc14f2 hc14c3 hc14f3 hc14c4 hc14f4 hc14c5 hc14f5 hc14c6 hc14f6 hc14c7 hc14f7 hc14
    rintro e w5 ⟨⟨b, rfl, -⟩, hb5⟩
    have hd0 := hc0.below hb5 hz04
    have hd1 := hc14'.below hb5 hz14
    have hbl5 := hbl4.trans (hb5.mono hbl4.size)
    clear hc14' hb5 hc0 hbl4
    cases b
    · obtain ⟨b, hb⟩ := some_bool (t0 = t1)
      have hcS := fun (x : Under w5) => Under.call x (SameP.fix hb (Same_any t0 t1 x.w _ _ (ValAt.below (hbl5.trans (x.below.mono hbl5.size)) _ _ HV0.out) (ValAt.below (hbl5.trans (x.below.mono hbl5.size)) _ _ HV1.out)))
      have hcR := fun (x : Under w5) => Under.call x (SameP.fix hb (rSame_any t0 t1 x.w _ _ (ValAt.below (hbl5.trans (x.below.mono hbl5.size)) _ _ HV0.out) (ValAt.below (hbl5.trans (x.below.mono hbl5.size)) _ _ HV1.out)))
      have p0 := fun x : Under w5 => (x.below.cell (p := ⟨w.heap.size, 0, none⟩) (by exact hd0.lt)).trans (hd0.cell 0 _ rfl)
      have p1 := fun x : Under w5 => (x.below.cell (p := ⟨w.heap.size, 1, none⟩) (by exact hd0.lt)).trans (hd0.cell 1 _ rfl)
      have p2 := fun x : Under w5 => (x.below.cell (p := ⟨w.heap.size, 2, none⟩) (by exact hd0.lt)).trans (hd0.cell 2 _ rfl)
      have p3 := fun x : Under w5 => (x.below.cell (p := ⟨w.heap.size, 3, none⟩) (by exact hd0.lt)).trans (hd0.cell 3 _ rfl)
      have p4 := fun x : Under w5 => (x.below.cell (p := ⟨w.heap.size, 4, none⟩) (by exact hd0.lt)).trans (hd0.cell 4 _ rfl)
      have p5 := fun x : Under w5 => (x.below.cell (p := ⟨w.heap.size, 5, none⟩) (by exact hd0.lt)).trans (hd0.cell 5 _ rfl)
      have p6 := fun x : Under w5 => (x.below.cell (p := ⟨w.heap.size, 6, none⟩) (by exact hd0.lt)).trans (hd0.cell 6 _ rfl)
      have p7 := fun x : Under w5 => (x.below.cell (p := ⟨w.heap.size, 7, none⟩) (by exact hd0.lt)).trans (hd0.cell 7 _ rfl)
      have q0 := fun x : Under w5 => (x.below.cell (p := ⟨w.heap.size + 1, 0, none⟩) (by exact hd1.lt)).trans (hd1.cell 0 _ rfl)
      have q1 := fun x : Under w5 => (x.below.cell (p := ⟨w.heap.size + 1, 1, none⟩) (by exact hd1.lt)).trans (hd1.cell 1 _ rfl)
      have q2 := fun x : Under w5 => (x.below.cell (p := ⟨w.heap.size + 1, 2, none⟩) (by exact hd1.lt)).trans (hd1.cell 2 _ rfl)
      have q3 := fun x : Under w5 => (x.below.cell (p := ⟨w.heap.size + 1, 3, none⟩) (by exact hd1.lt)).trans (hd1.cell 3 _ rfl)
      have q4 := fun x : Under w5 => (x.below.cell (p := ⟨w.heap.size + 1, 4, none⟩) (by exact hd1.lt)).trans (hd1.cell 4 _ rfl)
      have q5 := fun x : Under w5 => (x.below.cell (p := ⟨w.heap.size + 1, 5, none⟩) (by exact hd1.lt)).trans (hd1.cell 5 _ rfl)
      have q6 := fun x : Under w5 => (x.below.cell (p := ⟨w.heap.size + 1, 6, none⟩) (by exact hd1.lt)).trans (hd1.cell 6 _ rfl)
      have q7 := fun x : Under w5 => (x.below.cell (p := ⟨w.heap.size + 1, 7, none⟩) (by exact hd1.lt)).trans (hd1.cell 7 _ rfl)
      have HD0 := Lib.hid hd0
      have HD1 := Lib.hid hd1
      have HBL5 := Lib.hid hbl5
      have hy0 := hd0.lt
      have hy1 := hd1.lt
      clear hd0 hd1 hbl5 hb
      simp only [valV] at hcS hcR
      go_wp2_with fail
      refine wp_region_under w5 (by kernel_rfl) (by kernel_rfl) (Below.refl _ _) ?_
      repeat (go_big_quiet_step (first | (go_at_call 22; exact hcS _) | (go_at_call 18; exact hcR _)))
      refine wpQuiet_nil ?_
      rintro _ ⟨x, rfl⟩
      clear hcS hcR p0 p1 p2 p3 p4 p5 p6 p7 q0 q1 q2 q3 q4 q5 q6 q7
      have hd0 := HD0.out.below x.below hy0
      have hbl6 := HBL5.out.trans (x.below.mono HBL5.out.size)
      generalize x.w = w6 at *
      have hC := Copy_any t0 hkt w6 _ (ValAt.below hbl6 _ _ HV0.out)
      have hd0' := hd0
      have hy0 := hd0.lt
      have HBL6 := Lib.hid hbl6
      clear hbl6 HD0 HD1 HBL5
      simp only [valV] at hC
      have hd0c0 := hd0.cell 0 _ rfl
      have hd0f0 := hd0.frozen 0
      have hd0c1 := hd0.cell 1 _ rfl
      have hd0f1 := hd0.frozen 1
      have hd0c2 := hd0.cell 2 _ rfl
      have hd0f2 := hd0.frozen 2
      have hd0c3 := hd0.cell 3 _ rfl
      have hd0f3 := hd0.frozen 3
      have hd0c4 := hd0.cell 4 _ rfl
      have hd0f4 := hd0.frozen 4
      have hd0c5 := hd0.cell 5 _ rfl
      have hd0f5 := hd0.frozen 5
      have hd0c6 := hd0.cell 6 _ rfl
      have hd0f6 := hd0.frozen 6
      have hd0c7 := hd0.cell 7 _ rfl
      have hd0f7 := hd0.frozen 7
      have hbb : (b != b) = false := by simp
      go_wp2_with fail
      refine hC.mono ?_
      clear hC hd0c0 hd0f0 hd0c1 hd0f1 hd0c2 hd0f2 hd0c3 hd0f3 hd0c4 hd0f4 hd0c5 hd0f5 hd0c6 hd0f6 hd0c7 hd0f7 hd0 hbb
      rintro e w7 ⟨⟨cs7, rfl, hin7⟩, hb7⟩
      obtain ⟨dkind, dis, dneg, ddig, dexp, dstr, dka, dkn, dkc, dsa, dsn, dsc, rfl⟩ := hin7.shape
      have hs7 := hb7.size
      have hd07 := hd0'.below hb7 hy0
      have hbl7 := HBL6.out.trans (hb7.mono HBL6.out.size)
      have hin7' : ValIn (fun k => w6.heap.size ≤ k ∧ k < w7.heap.size) w7 t0 [.int .i64 dkind, .bool dis, .bool dneg, .string ddig, .int .i64 dexp, .string dstr, .slice dka dkn dkc, .slice dsa dsn dsc] := ValIn.move (Nat.le_refl _) (fun _ _ _ => rfl) (fun k (h1 : w6.heap.size ≤ k) h2 => ⟨h1, h2⟩) _ _ hin7
      have hal : Below w7.heap.size w7 (w7.alloc (.cells #[.int .i64 dkind, .bool dis, .bool dneg, .string ddig, .int .i64 dexp, .string dstr, .slice dka dkn dkc, .slice dsa dsn dsc] 27)) := (Below.refl _ w7).alloc (Nat.le_refl _) _
      have hin8 := ValIn.below hal _ _ hin7'
      have hX := Cells.new w7 #[.int .i64 dkind, .bool dis, .bool dneg, .string ddig, .int .i64 dexp, .string dstr, .slice dka dkn dkc, .slice dsa dsn dsc] 27
      have hd08 := hd07.alloc (.cells #[.int .i64 dkind, .bool dis, .bool dneg, .string ddig, .int .i64 dexp, .string dstr, .slice dka dkn dkc, .slice dsa dsn dsc] 27)
      have hbl8 := hbl7.alloc hbl7.size (.cells #[.int .i64 dkind, .bool dis, .bool dneg, .string ddig, .int .i64 dexp, .string dstr, .slice dka dkn dkc, .slice dsa dsn dsc] 27)
      have hz8 : (w7.alloc (.cells #[.int .i64 dkind, .bool dis, .bool dneg, .string ddig, .int .i64 dexp, .string dstr, .slice dka dkn dkc, .slice dsa dsn dsc] 27)).heap.size = w7.heap.size + 1 := by simp
      have hsw := HBL6.out.size
      clear hin7 hin7' hal hb7 hd07 hbl7 hd0'
      simp only [valV]
      go_wp2_with fail
      generalize w7.alloc (.cells #[.int .i64 dkind, .bool dis, .bool dneg, .string ddig, .int .i64 dexp, .string dstr, .slice dka dkn dkc, .slice dsa dsn dsc] 27) = w8 at *
      generalize w7.heap.size = X at *
      have hC := Copy_any t0 hkt w8 _ (ValIn.at _ _ hin8)
      have H8 := Lib.hid (And.intro hin8 (And.intro hX (And.intro hd08 hbl8)))
      clear hin8 hd08 hbl8
      simp only [valV] at hC
      have hXl := hX.lt
      have hXc0 := hX.cell 0 _ rfl
      have hXf0 := hX.frozen 0
      have hXc1 := hX.cell 1 _ rfl
      have hXf1 := hX.frozen 1
      have hXc2 := hX.cell 2 _ rfl
      have hXf2 := hX.frozen 2
      have hXc3 := hX.cell 3 _ rfl
      have hXf3 := hX.frozen 3
      have hXc4 := hX.cell 4 _ rfl
      have hXf4 := hX.frozen 4
      have hXc5 := hX.cell 5 _ rfl
      have hXf5 := hX.frozen 5
      have hXc6 := hX.cell 6 _ rfl
      have hXf6 := hX.frozen 6
      have hXc7 := hX.cell 7 _ rfl
      have hXf7 := hX.frozen 7
      go_wp2_with fail
      refine hC.mono ?_
      clear hC hXc0 hXf0 hXc1 hXf1 hXc2 hXf2 hXc3 hXf3 hXc4 hXf4 hXc5 hXf5 hXc6 hXf6 hXc7 hXf7 hX
      rintro e w9 ⟨⟨cs9, rfl, hin9⟩, hb9⟩
      obtain ⟨fkind, fis, fneg, fdig, fexp, fstr, fka, fkn, fkc, fsa, fsn, fsc, rfl⟩ := hin9.shape
      obtain ⟨hin8, hX, hd08, hbl8⟩ := H8.out
      have hs9 := hb9.size
      have hin89 := ValIn.below hb9 _ _ hin8
      have hX9 := hX.below hb9 hX.lt
      have hd09 := hd08.below hb9 hd08.lt
      have hbl9 := hbl8.trans (hb9.mono hbl8.size)
      have hal : Below w9.heap.size w9 (w9.alloc (.cells #[.int .i64 fkind, .bool fis, .bool fneg, .string fdig, .int .i64 fexp, .string fstr, .slice fka fkn fkc, .slice fsa fsn fsc] 27)) := (Below.refl _ w9).alloc (Nat.le_refl _) _
      have h10 := And.intro (ValIn.below hal _ _ hin89) (And.intro (ValIn.below hal _ _ hin9) (And.intro (hX9.alloc (.cells #[.int .i64 fkind, .bool fis, .bool fneg, .string fdig, .int .i64 fexp, .string fstr, .slice fka fkn fkc, .slice fsa fsn fsc] 27)) (And.intro (hd09.alloc (.cells #[.int .i64 fkind, .bool fis, .bool fneg, .string fdig, .int .i64 fexp, .string fstr, .slice fka fkn fkc, .slice fsa fsn fsc] 27)) (And.intro (Cells.new w9 #[.int .i64 fkind, .bool fis, .bool fneg, .string fdig, .int .i64 fexp, .string fstr, .slice fka fkn fkc, .slice fsa fsn fsc] 27) (hbl9.alloc hbl9.size (.cells #[.int .i64 fkind, .bool fis, .bool fneg, .string fdig, .int .i64 fexp, .string fstr, .slice fka fkn fkc, .slice fsa fsn fsc] 27))))))
      have hz10 : (w9.alloc (.cells #[.int .i64 fkind, .bool fis, .bool fneg, .string fdig, .int .i64 fexp, .string fstr, .slice fka fkn fkc, .slice fsa fsn fsc] 27)).heap.size = w9.heap.size + 1 := by simp
      have hC1 := rSame_both t0 (w9.alloc (.cells #[.int .i64 fkind, .bool fis, .bool fneg, .string fdig, .int .i64 fexp, .string fstr, .slice fka fkn fkc, .slice fsa fsn fsc] 27)) _ _ (ValIn.at _ _ h10.1) (ValAt.below h10.2.2.2.2.2 _ _ HV0.out)
      have H10 := Lib.hid h10
      have hXl9 := hX9.lt
      have hdl9 := hd09.lt
      clear H8 h10 hin8 hX hd08 hbl8 hin89 hin9 hbl9 hal hb9
      have hX9c0 := hX9.cell 0 _ rfl
      have hX9f0 := hX9.frozen 0
      have hX9c1 := hX9.cell 1 _ rfl
      have hX9f1 := hX9.frozen 1
      have hX9c2 := hX9.cell 2 _ rfl
      have hX9f2 := hX9.frozen 2
      have hX9c3 := hX9.cell 3 _ rfl
      have hX9f3 := hX9.frozen 3
      have hX9c4 := hX9.cell 4 _ rfl
      have hX9f4 := hX9.frozen 4
      have hX9c5 := hX9.cell 5 _ rfl
      have hX9f5 := hX9.frozen 5
      have hX9c6 := hX9.cell 6 _ rfl
      have hX9f6 := hX9.frozen 6
      have hX9c7 := hX9.cell 7 _ rfl
      have hX9f7 := hX9.frozen 7
      have hd09c0 := hd09.cell 0 _ rfl
      have hd09f0 := hd09.frozen 0
      have hd09c1 := hd09.cell 1 _ rfl
      have hd09f1 := hd09.frozen 1
      have hd09c2 := hd09.cell 2 _ rfl
      have hd09f2 := hd09.frozen 2
      have hd09c3 := hd09.cell 3 _ rfl
      have hd09f3 := hd09.frozen 3
      have hd09c4 := hd09.cell 4 _ rfl
      have hd09f4 := hd09.frozen 4
      have hd09c5 := hd09.cell 5 _ rfl
      have hd09f5 := hd09.frozen 5
      have hd09c6 := hd09.cell 6 _ rfl
      have hd09f6 := hd09.frozen 6
      have hd09c7 := hd09.cell 7 _ rfl
      have hd09f7 := hd09.frozen 7
      clear hX9 hd09
      simp only [valV] at hC1 ⊢
      go_wp2_with fail
      refine hC1.mono ?_
      clear hC1 hX9c0 hX9f0 hX9c1 hX9f1 hX9c2 hX9f2 hX9c3 hX9f3 hX9c4 hX9f4 hX9c5 hX9f5 hX9c6 hX9f6 hX9c7 hX9f7 hd09c0 hd09f0 hd09c1 hd09f1 hd09c2 hd09f2 hd09c3 hd09f3 hd09c4 hd09f4 hd09c5 hd09f5 hd09c6 hd09f6 hd09c7 hd09f7
      generalize w9.alloc (.cells #[.int .i64 fkind, .bool fis, .bool fneg, .string fdig, .int .i64 fexp, .string fstr, .slice fka fkn fkc, .slice fsa fsn fsc] 27) = w10 at *
      generalize w9.heap.size = Xd at *
      rintro e w11 ⟨rfl, hb11⟩
      obtain ⟨hc10, hd10, hX10, h010, hXd10, hbl10⟩ := H10.out
      have hc11 := ValIn.below hb11 _ _ hc10
      have hdd11 := ValIn.below hb11 _ _ hd10
      have hX11 := hX10.below hb11 hX10.lt
      have h011 := h010.below hb11 h010.lt
      have hXd11 := hXd10.below hb11 hXd10.lt
      have hbl11 := hbl10.trans (hb11.mono hbl10.size)
      clear H10 hc10 hd10 hX10 h010 hXd10 hbl10 hb11
      have hC2 := Same_both t0 w11 _ _ (ValIn.at _ _ hc11) (ValAt.below hbl11 _ _ HV0.out)
      have H11 := Lib.hid (And.intro hc11 (And.intro hdd11 (And.intro hX11 (And.intro h011 (And.intro hXd11 hbl11)))))
      have hX11c0 := hX11.cell 0 _ rfl
      have hX11f0 := hX11.frozen 0
      have hX11c1 := hX11.cell 1 _ rfl
      have hX11f1 := hX11.frozen 1
      have hX11c2 := hX11.cell 2 _ rfl
      have hX11f2 := hX11.frozen 2
      have hX11c3 := hX11.cell 3 _ rfl
      have hX11f3 := hX11.frozen 3
      have hX11c4 := hX11.cell 4 _ rfl
      have hX11f4 := hX11.frozen 4
      have hX11c5 := hX11.cell 5 _ rfl
      have hX11f5 := hX11.frozen 5
      have hX11c6 := hX11.cell 6 _ rfl
      have hX11f6 := hX11.frozen 6
      have hX11c7 := hX11.cell 7 _ rfl
      have hX11f7 := hX11.frozen 7
      have h011c0 := h011.cell 0 _ rfl
      have h011f0 := h011.frozen 0
      have h011c1 := h011.cell 1 _ rfl
      have h011f1 := h011.frozen 1
      have h011c2 := h011.cell 2 _ rfl
      have h011f2 := h011.frozen 2
      have h011c3 := h011.cell 3 _ rfl
      have h011f3 := h011.frozen 3
      have h011c4 := h011.cell 4 _ rfl
      have h011f4 := h011.frozen 4
      have h011c5 := h011.cell 5 _ rfl
      have h011f5 := h011.frozen 5
      have h011c6 := h011.cell 6 _ rfl
      have h011f6 := h011.frozen 6
      have h011c7 := h011.cell 7 _ rfl
      have h011f7 := h011.frozen 7
      clear hc11 hdd11 hX11 h011 hXd11 hbl11
      simp only [valV] at hC2
      go_wp2_with fail
      refine hC2.mono ?_
      clear hC2 hX11c0 hX11f0 hX11c1 hX11f1 hX11c2 hX11f2 hX11c3 hX11f3 hX11c4 hX11f4 hX11c5 hX11f5 hX11c6 hX11f6 hX11c7 hX11f7 h011c0 h011f0 h011c1 h011f1 h011c2 h011f2 h011c3 h011f3 h011c4 h011f4 h011c5 h011f5 h011c6 h011f6 h011c7 h011f7
      rintro e w12 ⟨rfl, hb12⟩
      obtain ⟨hc11, hdd11, hX11, h011, hXd11, hbl11⟩ := H11.out
      have hc12 := ValIn.below hb12 _ _ hc11
      have hdd12 := ValIn.below hb12 _ _ hdd11
      have hX12 := hX11.below hb12 hX11.lt
      have h012 := h011.below hb12 h011.lt
      have hXd12 := hXd11.below hb12 hXd11.lt
      have hbl12 := hbl11.trans (hb12.mono hbl11.size)
      have hSp := spoil_any _ (cost t0) t0 (Nat.le_refl _) t0.bulk (StrB_bulk t0) (by have := cost_bulk t0; omega) w12 X 0 _ hX12.lt (fun j u hu => by rw [Nat.zero_add]; exact hX12.cell j u (by simpa using hu)) hc12
      have H12 := Lib.hid (And.intro hdd12 (And.intro h012 (And.intro hXd12 hbl12)))
      clear H11 hc11 hdd11 hX11 h011 hXd11 hbl11 hb12 hc12 hdd12 hX12 h012 hXd12 hbl12
      go_wp2_with fail
      refine hSp.mono ?_
      clear hSp
      rintro e w13 ⟨rfl, hsp⟩
      obtain ⟨hdd12, h012, hXd12, hbl12⟩ := H12.out
      have h013 : Cells w13 w.heap.size #[.int .i64 kind, .bool is, .bool neg, .string digits, .int .i64 exp, .string str, .slice ka kn kc, .slice sa sn sc] 27 := (hsp.block _ (by rintro ⟨h1, h2⟩; omega)).trans h012
      have hXd13 : Cells w13 Xd #[.int .i64 fkind, .bool fis, .bool fneg, .string fdig, .int .i64 fexp, .string fstr, .slice fka fkn fkc, .slice fsa fsn fsc] 27 := (hsp.block _ (by rintro ⟨h1, h2⟩; omega)).trans hXd12
      have hbl13 := hbl12.trans (hsp.below (B := w.heap.size) (fun k hk => by have := hk.1; omega))
      have hdd13 := ValIn.move (Q := fun _ => True) (Nat.le_of_eq hsp.size.symm) (fun k (h1 : w8.heap.size ≤ k) _ => hsp.block k (by rintro ⟨h2, h3⟩; omega)) (fun _ _ _ => trivial) _ _ hdd12
      have hC3 := rSame_both t0 w13 _ _ (ValIn.at _ _ hdd13) (ValAt.below hbl13 _ _ HV0.out)
      have HB13 := Lib.hid hbl13
      clear H12 hdd12 h012 hXd12 hbl12 hsp hbl13 hdd13
      have h013c0 := h013.cell 0 _ rfl
      have h013f0 := h013.frozen 0
      have h013c1 := h013.cell 1 _ rfl
      have h013f1 := h013.frozen 1
      have h013c2 := h013.cell 2 _ rfl
      have h013f2 := h013.frozen 2
      have h013c3 := h013.cell 3 _ rfl
      have h013f3 := h013.frozen 3
      have h013c4 := h013.cell 4 _ rfl
      have h013f4 := h013.frozen 4
      have h013c5 := h013.cell 5 _ rfl
      have h013f5 := h013.frozen 5
      have h013c6 := h013.cell 6 _ rfl
      have h013f6 := h013.frozen 6
      have h013c7 := h013.cell 7 _ rfl
      have h013f7 := h013.frozen 7
      have hXd13c0 := hXd13.cell 0 _ rfl
      have hXd13f0 := hXd13.frozen 0
      have hXd13c1 := hXd13.cell 1 _ rfl
      have hXd13f1 := hXd13.frozen 1
      have hXd13c2 := hXd13.cell 2 _ rfl
      have hXd13f2 := hXd13.frozen 2
      have hXd13c3 := hXd13.cell 3 _ rfl
      have hXd13f3 := hXd13.frozen 3
      have hXd13c4 := hXd13.cell 4 _ rfl
      have hXd13f4 := hXd13.frozen 4
      have hXd13c5 := hXd13.cell 5 _ rfl
      have hXd13f5 := hXd13.frozen 5
      have hXd13c6 := hXd13.cell 6 _ rfl
      have hXd13f6 := hXd13.frozen 6
      have hXd13c7 := hXd13.cell 7 _ rfl
      have hXd13f7 := hXd13.frozen 7
      clear h013 hXd13
      simp only [valV] at hC3
      go_wp2_with fail
      refine hC3.mono ?_
      rintro e w14 ⟨rfl, hb14⟩
      go_wp2_with fail
      go_ret
      exact ⟨rfl, HB13.out.trans (hb14.mono HB13.out.size)⟩
    · skip
      have hd0c0 := hd0.cell 0 _ rfl
      have hd0f0 := hd0.frozen 0
      have hd0c1 := hd0.cell 1 _ rfl
      have hd0f1 := hd0.frozen 1
      have hd0c2 := hd0.cell 2 _ rfl
      have hd0f2 := hd0.frozen 2
      have hd0c3 := hd0.cell 3 _ rfl
      have hd0f3 := hd0.frozen 3
      have hd0c4 := hd0.cell 4 _ rfl
      have hd0f4 := hd0.frozen 4
      have hd0c5 := hd0.cell 5 _ rfl
      have hd0f5 := hd0.frozen 5
      have hd0c6 := hd0.cell 6 _ rfl
      have hd0f6 := hd0.frozen 6
      have hd0c7 := hd0.cell 7 _ rfl
      have hd0f7 := hd0.frozen 7
      have hd1c0 := hd1.cell 0 _ rfl
      have hd1f0 := hd1.frozen 0
      have hd1c1 := hd1.cell 1 _ rfl
      have hd1f1 := hd1.frozen 1
      have hd1c2 := hd1.cell 2 _ rfl
      have hd1f2 := hd1.frozen 2
      have hd1c3 := hd1.cell 3 _ rfl
      have hd1f3 := hd1.frozen 3
      have hd1c4 := hd1.cell 4 _ rfl
      have hd1f4 := hd1.frozen 4
      have hd1c5 := hd1.cell 5 _ rfl
      have hd1f5 := hd1.frozen 5
      have hd1c6 := hd1.cell 6 _ rfl
      have hd1f6 := hd1.frozen 6
      have hd1c7 := hd1.cell 7 _ rfl
      have hd1f7 := hd1.frozen 7
      go_wp2_with fail
      go_ret
      exact ⟨rfl, hbl5⟩
  · skip
    have hc0c0 := hc0.cell 0 _ rfl
    have hc0f0 := hc0.frozen 0
    have hc0c1 := hc0.cell 1 _ rfl
    have hc0f1 := hc0.frozen 1
    have hc0c2 := hc0.cell 2 _ rfl
    have hc0f2 := hc0.frozen 2
    have hc0c3 := hc0.cell 3 _ rfl
    have hc0f3 := hc0.frozen 3
    have hc0c4 := hc0.cell 4 _ rfl
    have hc0f4 := hc0.frozen 4
    have hc0c5 := hc0.cell 5 _ rfl
    have hc0f5 := hc0.frozen 5
    have hc0c6 := hc0.cell 6 _ rfl
    have hc0f6 := hc0.frozen 6
    have hc0c7 := hc0.cell 7 _ rfl
    have hc0f7 := hc0.frozen 7
    go_wp2_with fail
    go_ret
    exact ⟨rfl, hbl4⟩
end Go.Proofs.YtpcfhiipkbpmkaaDoor
