/- The walk of Whole (layer 6), this side's. -/
import Derived.Test.YthiggalnjjcejaaDoorNuWp
import Derived.Test.YthiggalnjjcejaaDoorNuK
import Derived.Test.YthiggalnjjcejaaDoorNuD
import Derived.Lib.AtoiErrMem
namespace Go.Proofs.YthiggalnjjcejaaDoor
set_option linter.unusedSimpArgs false
set_option linter.unusedVariables false
open Go.RowKit Go.Tab

/-- The place of the error that the library's reader hands on. -/
def ErrAt (w : World) : Prop := ∃ tp p, w.var? Tryd.prog "strconv.ErrRange" = some #[.iface tp p]
theorem gErr : Tryd.prog.globalNamed "strconv.ErrRange" = some 3 := by kernel_rfl
theorem ErrAt.below {w w' : World} (h : ErrAt w) (hb : Below w.heap.size w w') : ErrAt w' := by
  obtain ⟨tp, p, h⟩ := h
  have hc := World.var?_cell gErr h 0
  have hlt := World.block_lt_of_cell? w _ (u := .iface tp p) (by rw [hc]; rfl)
  exact ⟨tp, p, var?_below hb gErr hlt h⟩
/-- What Whole hands back. -/
def whV (o : Option Nat) : Value := match o with
  | some v => .tuple #[.int .u64 v, .bool true]
  | none => .tuple #[.int .u64 0, .bool false]
theorem parse_ok (S : ByteArray) (u : Nat) (hs : S.size ≤ 1048576) (h : Lib.parseUintB 64 S.data.toList = .ok u) (w : World) :
    Calls Tryd.prog 43 #[.string S, .int .i64 10, .int .i64 64] w fun e w' => e = .returned (.tuple #[.int .u64 u, .nilIface]) ∧ Below w.heap.size w w' := by
  refine (Go.Proofs.Tryd.strconv_ParseUint_10_at64_ok S (by omega) u h w).mono ?_
  rintro e w' ⟨rfl, h | h⟩
  · exact ⟨rfl, by rw [h]; exact Below.refl _ _⟩
  · exact ⟨rfl, by rw [h]; exact Lib.bytesWorld_below _ _ _⟩

set_option maxHeartbeats 4000000 in
set_option maxRecDepth 100000 in
theorem Whole_any (n : Bool) (d : ByteArray) (e : Int) (w : World) (hT : NumTab w) (hE : ErrAt w) (hd : d.size ≤ 1048576) :
    Calls Tryd.prog 21 #[.agg #[.bool n, .string d, .int .i64 e]] w fun r w' => r = .returned (whV (wholeO n d e)) ∧ Below w.heap.size w w' := by
  have hR := fun W => numRight_any n d e W hd
  have hx0 := Cells.new w #[.bool n, .string d, .int .i64 e] 24
  have hb0 : Below w.heap.size w (w.alloc (.cells #[.bool n, .string d, .int .i64 e] 24)) := (Below.refl _ w).alloc (Nat.le_refl _) _
  have hx0c0 := hx0.cell 0 _ rfl
  have hx0f0 := hx0.frozen 0
  have hx0c1 := hx0.cell 1 _ rfl
  have hx0f1 := hx0.frozen 1
  have hx0c2 := hx0.cell 2 _ rfl
  have hx0f2 := hx0.frozen 2
  cases hr : numR n d e with
  | false =>
    have hO := Lib.hid (show wholeO n d e = none by rw [wholeO, if_neg (by rw [hr]; simp)])
    rw [hr] at hR
    clear hr
    go_enter Tryd.func21, Tryd.ntmps21
    go_wp2_with fail
    refine (hR _).mono ?_
    rintro _ w1 ⟨rfl, hb⟩
    have hx1 := hx0.below hb hx0.lt
    have hb1 := hb0.trans (hb.mono hb0.size)
    have hlt1 := hx1.lt
    clear hb hx0c0 hx0c1 hx0c2 hx0f0 hx0f1 hx0f2
    have hx1c0 := hx1.cell 0 _ rfl
    have hx1f0 := hx1.frozen 0
    have hx1c1 := hx1.cell 1 _ rfl
    have hx1f1 := hx1.frozen 1
    have hx1c2 := hx1.cell 2 _ rfl
    have hx1f2 := hx1.frozen 2
    go_wp2
    go_ret2
    exact ⟨by rw [hO.out]; rfl, hb1⟩
  | true =>
    have hB := right_b hr
    have HP := Lib.hid (numR_list (neg := n) (d := d.data.toList) (e := e) (by rw [← strL_of]; exact hr))
    rw [hr] at hR
    by_cases c1 : n = true
    · have hO := Lib.hid (show wholeO n d e = none by rw [wholeO, if_neg (by rw [c1]; simp)])
      subst c1
      clear hr HP
      go_enter Tryd.func21, Tryd.ntmps21
      go_wp2_with fail
      refine (hR _).mono ?_
      rintro _ w1 ⟨rfl, hb⟩
      have hx1 := hx0.below hb hx0.lt
      have hb1 := hb0.trans (hb.mono hb0.size)
      have hlt1 := hx1.lt
      clear hb hx0c0 hx0c1 hx0c2 hx0f0 hx0f1 hx0f2
      have hx1c0 := hx1.cell 0 _ rfl
      have hx1f0 := hx1.frozen 0
      have hx1c1 := hx1.cell 1 _ rfl
      have hx1f1 := hx1.frozen 1
      have hx1c2 := hx1.cell 2 _ rfl
      have hx1f2 := hx1.frozen 2
      go_wp2
      go_ret2
      exact ⟨by rw [hO.out]; rfl, hb1⟩
    obtain rfl : n = false := by simpa using c1
    clear c1
    by_cases c2 : e < 0
    · have hO := Lib.hid (show wholeO false d e = none by rw [wholeO, if_neg (by omega)])
      clear hr HP
      go_enter Tryd.func21, Tryd.ntmps21
      go_wp2_with fail
      refine (hR _).mono ?_
      rintro _ w1 ⟨rfl, hb⟩
      have hx1 := hx0.below hb hx0.lt
      have hb1 := hb0.trans (hb.mono hb0.size)
      have hlt1 := hx1.lt
      clear hb hx0c0 hx0c1 hx0c2 hx0f0 hx0f1 hx0f2
      have hx1c0 := hx1.cell 0 _ rfl
      have hx1f0 := hx1.frozen 0
      have hx1c1 := hx1.cell 1 _ rfl
      have hx1f1 := hx1.frozen 1
      have hx1c2 := hx1.cell 2 _ rfl
      have hx1f2 := hx1.frozen 2
      go_wp2
      go_ret2
      exact ⟨by rw [hO.out]; rfl, hb1⟩
    by_cases c3 : 20 < (d.size : Int) + e
    · have hO := Lib.hid (show wholeO false d e = none by rw [wholeO, if_neg (by omega)])
      clear hr HP
      go_enter Tryd.func21, Tryd.ntmps21
      go_wp2_with fail
      refine (hR _).mono ?_
      rintro _ w1 ⟨rfl, hb⟩
      have hx1 := hx0.below hb hx0.lt
      have hb1 := hb0.trans (hb.mono hb0.size)
      have hlt1 := hx1.lt
      clear hb hx0c0 hx0c1 hx0c2 hx0f0 hx0f1 hx0f2
      have hx1c0 := hx1.cell 0 _ rfl
      have hx1f0 := hx1.frozen 0
      have hx1c1 := hx1.cell 1 _ rfl
      have hx1f1 := hx1.frozen 1
      have hx1c2 := hx1.cell 2 _ rfl
      have hx1f2 := hx1.frozen 2
      go_wp2
      go_ret2
      exact ⟨by rw [hO.out]; rfl, hb1⟩
    obtain ⟨m, rfl⟩ : ∃ m : Nat, e = m := ⟨e.toNat, by omega⟩
    have hO1 : wholeO false d m = w64 0 (d.data.toList ++ zeros m) := by rw [wholeO, if_pos ⟨hr, rfl, by omega, by omega⟩, Int.toNat_natCast]
    clear hr
    by_cases h0 : d.size = 0
    · have hl : d.data.toList = [] := List.eq_nil_of_length_eq_zero (by rw [← size_list]; exact h0)
      have hm0 : m = 0 := by
        rcases HP.out with h | h
        · omega
        · exact absurd hl h.ne
      subst hm0
      have hO := Lib.hid (show wholeO false d ((0 : Nat) : Int) = some 0 by rw [hO1, hl]; rfl)
      have hde := emp_of h0
      subst hde
      clear HP hO1 hl h0
      go_enter Tryd.func21, Tryd.ntmps21
      go_wp2_with fail
      refine (hR _).mono ?_
      rintro _ w1 ⟨rfl, hb⟩
      have hx1 := hx0.below hb hx0.lt
      have hb1 := hb0.trans (hb.mono hb0.size)
      have hlt1 := hx1.lt
      clear hb hx0c0 hx0c1 hx0c2 hx0f0 hx0f1 hx0f2
      have hx1c0 := hx1.cell 0 _ rfl
      have hx1f0 := hx1.frozen 0
      have hx1c1 := hx1.cell 1 _ rfl
      have hx1f1 := hx1.frozen 1
      have hx1c2 := hx1.cell 2 _ rfl
      have hx1f2 := hx1.frozen 2
      go_wp2
      go_ret2
      exact ⟨by rw [hO.out]; rfl, hb1⟩
    · have hRD : RightD d.data.toList m := by
        rcases HP.out with h | h
        · exact absurd (by rw [size_list, h.1]; rfl) h0
        · exact h
      have hne := ne_emp h0
      obtain ⟨Z, hZ⟩ : ∃ Z, strL (zeros m) = Z := ⟨_, rfl⟩
      have hZl : Z.data.toList = zeros m := by rw [← hZ]; rfl
      have hZs : Z.size ≤ 20 := by rw [size_list, hZl, zeros, List.length_replicate]; omega
      have hds : d.size ≤ 20 := by omega
      have hL : (d ++ Z).data.toList = d.data.toList ++ zeros m := by rw [app_list, hZl]
      have hpu : Lib.parseUintB 64 (d ++ Z).data.toList = endOf (w64 0 (d.data.toList ++ zeros m)) := by
        rw [hL]
        exact parseB_w64 (by rw [List.all_append, hRD.all, zeros_all]; rfl) (by simp [hRD.ne])
      have hsz : (d ++ Z).size ≤ 1048576 := by rw [ByteArray.size_append]; omega
      cases hw : w64 0 (d.data.toList ++ zeros m) with
      | some u =>
        have hO := Lib.hid (show wholeO false d m = some u by rw [hO1, hw])
        rw [hw] at hpu
        have hpk := fun W => parse_ok (d ++ Z) u hsz hpu W
        clear HP hO1 hw hpu hRD hL
        go_enter Tryd.func21, Tryd.ntmps21
        go_wp2_with fail
        refine (hR _).mono ?_
        rintro _ w1 ⟨rfl, hb⟩
        have hx1 := hx0.below hb hx0.lt
        have hb1 := hb0.trans (hb.mono hb0.size)
        have hlt1 := hx1.lt
        clear hb hx0c0 hx0c1 hx0c2 hx0f0 hx0f1 hx0f2
        have hx1c0 := hx1.cell 0 _ rfl
        have hx1f0 := hx1.frozen 0
        have hx1c1 := hx1.cell 1 _ rfl
        have hx1f1 := hx1.frozen 1
        have hx1c2 := hx1.cell 2 _ rfl
        have hx1f2 := hx1.frozen 2
        have hc1 : ∀ x : Under w1, Calls Tryd.prog 36 #[.string ⟨#[48]⟩, .int .i64 m] x.w fun e w' => e = .returned (.string Z) ∧ ∃ y : Under w1, w' = y.w := fun x => x.call (by rw [← hZ]; exact repeat_any m x.w (by omega))
        have hc2 : ∀ x : Under w1, Calls Tryd.prog 43 #[.string (d ++ Z), .int .i64 10, .int .i64 64] x.w fun e w' => e = .returned (.tuple #[.int .u64 u, .nilIface]) ∧ ∃ y : Under w1, w' = y.w := fun x => x.call (hpk x.w)
        have X0 := fun x : Under w1 => (x.below.cell (by exact hx1.lt)).trans hx1c0
        have X1 := fun x : Under w1 => (x.below.cell (by exact hx1.lt)).trans hx1c1
        have X2 := fun x : Under w1 => (x.below.cell (by exact hx1.lt)).trans hx1c2
        have HZ := Lib.hid hZ
        clear hZ hpk hZl hsz
        go_wp2_with fail
        refine wp_region_under w1 (by kernel_rfl) (by kernel_rfl) (Below.refl _ _) ?_
        repeat (go_big_quiet_step ((first | (with_reducible exact hc1 _) | (with_reducible exact hc2 _))))
        refine wpQuiet_nil ?_
        rintro _ ⟨x, rfl⟩
        go_wp2
        go_ret2
        exact ⟨by rw [hO.out]; rfl, hb1.trans (x.below.mono hb1.size)⟩
      | none =>
        have hO := Lib.hid (show wholeO false d m = none by rw [hO1, hw])
        rw [hw] at hpu
        have hpk : ∀ W, ErrAt W → Calls Tryd.prog 43 #[.string (d ++ Z), .int .i64 10, .int .i64 64] W fun e w' => ∃ N, e = .returned (.tuple #[.int .u64 18446744073709551615, .iface 102 (.pointer (some ⟨N, 0, none⟩))]) ∧ Below W.heap.size W w' := fun W h => by
          obtain ⟨tp, p, h⟩ := h
          refine (Go.Proofs.Tryd.strconv_ParseUint_10_at64_range_var (d ++ Z) (by omega) hpu tp p W h).mono ?_
          rintro e w' ⟨N, h1, _, _, h4⟩
          exact ⟨N, h1, h4⟩
        clear HP hO1 hw hpu hRD hL
        go_enter Tryd.func21, Tryd.ntmps21
        go_wp2_with fail
        refine (hR _).mono ?_
        rintro _ w1 ⟨rfl, hb⟩
        have hx1 := hx0.below hb hx0.lt
        have hb1 := hb0.trans (hb.mono hb0.size)
        have hlt1 := hx1.lt
        clear hb hx0c0 hx0c1 hx0c2 hx0f0 hx0f1 hx0f2
        have hx1c0 := hx1.cell 0 _ rfl
        have hx1f0 := hx1.frozen 0
        have hx1c1 := hx1.cell 1 _ rfl
        have hx1f1 := hx1.frozen 1
        have hx1c2 := hx1.cell 2 _ rfl
        have hx1f2 := hx1.frozen 2
        have hrp : ∀ W, Calls Tryd.prog 36 #[.string ⟨#[48]⟩, .int .i64 m] W fun e w' => e = .returned (.string Z) ∧ Below W.heap.size W w' := fun W => by rw [← hZ]; exact repeat_any m W (by omega)
        have HX1 := Lib.hid hx1
        have HB1 := Lib.hid hb1
        clear hZ hZl hsz hx1 hb1
        have q1 : ¬ 9223372036854775807 < d.size + Z.size := by omega
        go_wp2_with fail
        go_region_law (first
          | (go_simp; go_at_call 43; (with_reducible refine (hpk _ (hE.below hb2)).mono ?_); rintro _ w3 ⟨N, rfl, hb3'⟩; have hb3 := hb2.trans (hb3'.mono hb2.size))
          | (go_simp; go_at_call 36; (with_reducible refine (hrp _).mono ?_); rintro _ w2 ⟨rfl, hb2'⟩; have hb2 := (Below.drew HB1.out).trans (hb2'.mono HB1.out.size); have hx2 := HX1.out.drew.below hb2' HX1.out.lt; have hx2c0 := hx2.cell 0 _ rfl; have hx2c1 := hx2.cell 1 _ rfl; have hx2c2 := hx2.cell 2 _ rfl))
        all_goals
          clear q1
          go_wp2
          go_ret2
          exact ⟨by rw [hO.out]; rfl, hb3⟩
end Go.Proofs.YthiggalnjjcejaaDoor
