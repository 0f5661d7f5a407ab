/- The walks of at, size and Compare (layer 6), the reference's; NumCompares: the walk. -/
import Derived.Test.YthiggalnjjcejaaDoorNuF
import Derived.Test.YthiggalnjjcejaaDoorNumB
import Derived.Test.YthiggalnjjcejaaDoorNuN
namespace Go.Proofs.YthiggalnjjcejaaDoor
set_option linter.unusedSimpArgs false
set_option linter.unusedVariables false
open Go.RowKit Go.Tab

set_option maxHeartbeats 4000000 in
set_option maxRecDepth 100000 in
theorem at_any (n : Bool) (d : ByteArray) (e p : Int) (w : World) (hd : d.size ≤ 1048576) (he : -1000000 ≤ e ∧ e ≤ 1000000) (hp : -1000000 ≤ p ∧ p ≤ 1000000) :
    Calls Tryd.prog 44 #[.agg #[.bool n, .string d, .int .i64 e], .int .i64 p] w fun r w' => r = .returned (.int .u8 (atN d.data.toList e p).toNat) ∧ Below w.heap.size w w' := by
  have hx := Cells.new w #[.bool n, .string d, .int .i64 e] 24
  have hb : Below w.heap.size w (w.alloc (.cells #[.bool n, .string d, .int .i64 e] 24)) := (Below.refl _ w).alloc (Nat.le_refl _) _
  obtain ⟨i, hi⟩ : ∃ i : Int, (d.size : Int) - 1 - (p - e) = i := ⟨_, rfl⟩
  have hiN : (d.data.toList.length : Int) - 1 - (p - e) = i := by rw [← size_list]; exact hi
  by_cases h1 : i < 0
  · have hO := Lib.hid (show atN d.data.toList e p = 48 by rw [atN, hiN, if_pos h1])
    clear hiN
    have hxc0 := hx.cell 0 _ rfl
    have hxf0 := hx.frozen 0
    have hxc1 := hx.cell 1 _ rfl
    have hxf1 := hx.frozen 1
    have hxc2 := hx.cell 2 _ rfl
    have hxf2 := hx.frozen 2
    go_enter Tryd.func44, Tryd.ntmps44
    go_wp2
    go_ret
    exact ⟨by rw [hO.out]; rfl, hb⟩
  · obtain ⟨k, rfl⟩ : ∃ k : Nat, i = k := ⟨i.toNat, by omega⟩
    by_cases h2 : k < d.size
    · have hO := Lib.hid (show atN d.data.toList e p = d[k]'h2 by
        rw [atN, hiN, if_neg h1, Int.toNat_natCast, List.getD_eq_getElem?_getD, List.getElem?_eq_getElem (by rw [← size_list]; exact h2)]; rfl)
      clear hiN
      have hxc0 := hx.cell 0 _ rfl
      have hxf0 := hx.frozen 0
      have hxc1 := hx.cell 1 _ rfl
      have hxf1 := hx.frozen 1
      have hxc2 := hx.cell 2 _ rfl
      have hxf2 := hx.frozen 2
      go_enter Tryd.func44, Tryd.ntmps44
      go_wp2
      go_ret
      exact ⟨by rw [hO.out]; rfl, hb⟩
    · have hO := Lib.hid (show atN d.data.toList e p = 48 by
        rw [atN, hiN, if_neg h1, Int.toNat_natCast, List.getD_eq_getElem?_getD, List.getElem?_eq_none (by rw [← size_list]; omega)]; rfl)
      clear hiN
      have hxc0 := hx.cell 0 _ rfl
      have hxf0 := hx.frozen 0
      have hxc1 := hx.cell 1 _ rfl
      have hxf1 := hx.frozen 1
      have hxc2 := hx.cell 2 _ rfl
      have hxf2 := hx.frozen 2
      go_enter Tryd.func44, Tryd.ntmps44
      go_wp2
      go_ret
      exact ⟨by rw [hO.out]; rfl, hb⟩

theorem int_lt_u8 {a b : UInt8} (h : a < b) : (a.toNat : Int) < (b.toNat : Int) := by rw [UInt8.lt_iff_toNat_lt] at h; omega
theorem int_nlt_u8 {a b : UInt8} (h : ¬ a < b) : ¬ (a.toNat : Int) < (b.toNat : Int) := by rw [UInt8.lt_iff_toNat_lt] at h; omega
set_option maxHeartbeats 4000000 in
set_option maxRecDepth 100000 in
theorem size_any (n1 : Bool) (d1 : ByteArray) (e1 : Int) (n2 : Bool) (d2 : ByteArray) (e2 : Int) (w : World) (hd1 : d1.size ≤ 1048576) (hd2 : d2.size ≤ 1048576) (he1 : -1000000 ≤ e1 ∧ e1 ≤ 1000000) (he2 : -1000000 ≤ e2 ∧ e2 ≤ 1000000) :
    Calls Tryd.prog 42 #[.agg #[.bool n1, .string d1, .int .i64 e1], .agg #[.bool n2, .string d2, .int .i64 e2]] w fun r w' => r = .returned (.int .i64 (sizeN d1.data.toList e1 d2.data.toList e2 21002)) ∧ Below w.heap.size w w' := by
  have hx := (Cells.new w #[.bool n1, .string d1, .int .i64 e1] 24).alloc (.cells #[.bool n2, .string d2, .int .i64 e2] 24)
  have hy := Cells.new (w.alloc (.cells #[.bool n1, .string d1, .int .i64 e1] 24)) #[.bool n2, .string d2, .int .i64 e2] 24
  rw [World.size_alloc] at hy
  have hb : Below w.heap.size w ((w.alloc (.cells #[.bool n1, .string d1, .int .i64 e1] 24)).alloc (.cells #[.bool n2, .string d2, .int .i64 e2] 24)) := ((Below.refl _ w).alloc (Nat.le_refl _) _).alloc (by simp) _
  obtain ⟨z, hz⟩ : ∃ z, sizeN d1.data.toList e1 d2.data.toList e2 21002 = z := ⟨_, rfl⟩
  have HZ := Lib.hid hz
  rw [hz]
  clear hz
  have HA1 := fun W p (hp : -1000000 ≤ p ∧ p ≤ 1000000) => at_any n1 d1 e1 p W hd1 he1 hp
  have HA2 := fun W p (hp : -1000000 ≤ p ∧ p ≤ 1000000) => at_any n2 d2 e2 p W hd2 he2 hp
  clear hd1 hd2 he1 he2
  go_enter Tryd.func42, Tryd.ntmps42
  go_wp2_with fail
  go_loopw [5] (fun p wr => ∃ m : Nat, m ≤ 21002 ∧ p = .int .i64 ((m : Int) - 10001) ∧ sizeN d1.data.toList e1 d2.data.toList e2 m = z ∧ Cells wr w.heap.size #[.bool n1, .string d1, .int .i64 e1] 24 ∧ Cells wr (w.heap.size + 1) #[.bool n2, .string d2, .int .i64 e2] 24 ∧ Below w.heap.size w wr) (fun p _ => (intOf p + 10001).toNat)
  case atStart => exact ⟨21002, Nat.le_refl _, rfl, HZ.out, hx, hy, hb⟩
  case round =>
    clear hx hy hb
    obtain ⟨m, hm, rfl, hs, hx, hy, hb⟩ := hrel
    cases m with
    | zero =>
      have hz := Lib.hid (show z = 0 from hs.symm)
      clear hs
      go_wp2
      go_ret
      exact ⟨by rw [hz.out]; rfl, hb⟩
    | succ m =>
      obtain ⟨p, hp⟩ : ∃ p : Int, ((m + 1 : Nat) : Int) - 10001 = p := ⟨_, rfl⟩
      have hpm : p = (m : Int) - 10000 := by omega
      have hs2 := hs
      unfold sizeN at hs2
      rw [sF] at hs2
      obtain ⟨a, ha⟩ : ∃ a, atN d1.data.toList e1 ((m : Int) - 10000) = a := ⟨_, rfl⟩
      obtain ⟨b, hbb⟩ : ∃ b, atN d2.data.toList e2 ((m : Int) - 10000) = b := ⟨_, rfl⟩
      rw [ha, hbb] at hs2
      have hc1 : ∀ x : Under wr, Calls Tryd.prog 44 #[.agg #[.bool n1, .string d1, .int .i64 e1], .int .i64 p] x.w fun e w' => e = .returned (.int .u8 a.toNat) ∧ ∃ y : Under wr, w' = y.w := fun x => x.call (by rw [← ha, ← hpm]; exact HA1 x.w p (by omega))
      have hc2 : ∀ x : Under wr, Calls Tryd.prog 44 #[.agg #[.bool n2, .string d2, .int .i64 e2], .int .i64 p] x.w fun e w' => e = .returned (.int .u8 b.toNat) ∧ ∃ y : Under wr, w' = y.w := fun x => x.call (by rw [← hbb, ← hpm]; exact HA2 x.w p (by omega))
      have HS := Lib.hid hs2
      have hpb : -10000 ≤ p ∧ p ≤ 11001 := by omega
      have HPM := Lib.hid hpm
      have HP := Lib.hid hp
      rw [hp]
      clear hs hs2 ha hbb hp hpm hm HA1 HA2
      have hxc0 := hx.cell 0 _ rfl
      have hxf0 := hx.frozen 0
      have hxc1 := hx.cell 1 _ rfl
      have hxf1 := hx.frozen 1
      have hxc2 := hx.cell 2 _ rfl
      have hxf2 := hx.frozen 2
      have hyc0 := hy.cell 0 _ rfl
      have hyf0 := hy.frozen 0
      have hyc1 := hy.cell 1 _ rfl
      have hyf1 := hy.frozen 1
      have hyc2 := hy.cell 2 _ rfl
      have hyf2 := hy.frozen 2
      have X0 := fun x : Under wr => (x.below.cell (by exact hx.lt)).trans hxc0
      have X1 := fun x : Under wr => (x.below.cell (by exact hx.lt)).trans hxc1
      have X2 := fun x : Under wr => (x.below.cell (by exact hx.lt)).trans hxc2
      have Y0 := fun x : Under wr => (x.below.cell (by exact hy.lt)).trans hyc0
      have Y1 := fun x : Under wr => (x.below.cell (by exact hy.lt)).trans hyc1
      have Y2 := fun x : Under wr => (x.below.cell (by exact hy.lt)).trans hyc2
      go_wp2_with fail
      refine wp_region_under wr (by kernel_rfl) (by kernel_rfl) (Below.refl _ _) ?_
      repeat (go_big_quiet_step ((first | (with_reducible exact hc1 _) | (with_reducible exact hc2 _))))
      refine wpQuiet_nil ?_
      rintro _ ⟨x, rfl⟩
      have hx3 := hx.below x.below hx.lt
      have hy3 := hy.below x.below hy.lt
      have hb4 := hb.trans (x.below.mono hb.size)
      clear hxc0 hxc1 hxc2 hxf0 hxf1 hxf2 hx hyc0 hyc1 hyc2 hyf0 hyf1 hyf2 hy hb X0 X1 X2 Y0 Y1 Y2 hc1 hc2
      by_cases h1 : a < b
      · have hz := Lib.hid (show z = -1 by rw [← HS.out, if_pos h1])
        have hi := int_lt_u8 h1
        clear h1
        go_wp2
        go_ret
        exact ⟨by rw [hz.out]; rfl, hb4⟩
      · have hi := int_nlt_u8 h1
        by_cases h2 : b < a
        · have hz := Lib.hid (show z = 1 by rw [← HS.out, if_neg h1, if_pos h2])
          have hi2 := int_lt_u8 h2
          clear h1 h2
          go_wp2
          go_ret
          exact ⟨by rw [hz.out]; rfl, hb4⟩
        · have hN := Lib.hid (show sizeN d1.data.toList e1 d2.data.toList e2 m = z by rw [← HS.out, if_neg h1, if_neg h2]; rfl)
          have hi2 := int_nlt_u8 h2
          have hm2 : m ≤ 21001 := by have := HPM.out; omega
          clear h1 h2
          go_wp2
          go_roundw
          case rel => exact ⟨m, by omega, by have := HPM.out; congr 1; omega, hN.out, hx3, hy3, hb4⟩
          case measure => simp [intOf]; have := HPM.out; omega

theorem cmpO_ref {n1 : Bool} {d1 : ByteArray} {e1 : Int} {n2 : Bool} {d2 : ByteArray} {e2 : Int} (h1 : numR n1 d1 e1 = true) (h2 : numR n2 d2 e2 = true) : cmpO n1 d1 e1 n2 d2 e2 = cmpR n1 d1.data.toList e1 n2 d2.data.toList e2 := by
  have := cmpR_eq (n1 := n1) (d1 := d1.data.toList) (e1 := e1) (n2 := n2) (d2 := d2.data.toList) (e2 := e2) (by rw [← strL_of]; exact h1) (by rw [← strL_of]; exact h2)
  rw [← strL_of, ← strL_of] at this
  rw [cmpO, h1, h2, this, if_pos (by decide)]

set_option maxHeartbeats 4000000 in
set_option maxRecDepth 100000 in
theorem rCompare_any (n1 : Bool) (d1 : ByteArray) (e1 : Int) (n2 : Bool) (d2 : ByteArray) (e2 : Int) (w : World) (hd1 : d1.size ≤ 1048576) (hd2 : d2.size ≤ 1048576) :
    Calls Tryd.prog 20 #[.agg #[.bool n1, .string d1, .int .i64 e1], .agg #[.bool n2, .string d2, .int .i64 e2]] w fun r w' => r = .returned (.int .i64 (cmpO n1 d1 e1 n2 d2 e2)) ∧ Below w.heap.size w w' := by
  have hR1 := fun W => rNumRight_any n1 d1 e1 W hd1
  have hR2 := fun W => rNumRight_any n2 d2 e2 W hd2
  have hx := (Cells.new w #[.bool n1, .string d1, .int .i64 e1] 24).alloc (.cells #[.bool n2, .string d2, .int .i64 e2] 24)
  have hy := Cells.new (w.alloc (.cells #[.bool n1, .string d1, .int .i64 e1] 24)) #[.bool n2, .string d2, .int .i64 e2] 24
  rw [World.size_alloc] at hy
  have hb : Below w.heap.size w ((w.alloc (.cells #[.bool n1, .string d1, .int .i64 e1] 24)).alloc (.cells #[.bool n2, .string d2, .int .i64 e2] 24)) := ((Below.refl _ w).alloc (Nat.le_refl _) _).alloc (by simp) _
  have hxc0 := hx.cell 0 _ rfl
  have hxf0 := hx.frozen 0
  have hxc1 := hx.cell 1 _ rfl
  have hxf1 := hx.frozen 1
  have hxc2 := hx.cell 2 _ rfl
  have hxf2 := hx.frozen 2
  have hyc0 := hy.cell 0 _ rfl
  have hyf0 := hy.frozen 0
  have hyc1 := hy.cell 1 _ rfl
  have hyf1 := hy.frozen 1
  have hyc2 := hy.cell 2 _ rfl
  have hyf2 := hy.frozen 2
  cases hr1 : numR n1 d1 e1 with
  | false =>
    have hO := Lib.hid (show cmpO n1 d1 e1 n2 d2 e2 = 0 by rw [cmpO, hr1]; rfl)
    rw [hr1] at hR1
    clear hr1
    go_enter Tryd.func20, Tryd.ntmps20
    go_wp2_with fail
    refine (hR1 _).mono ?_
    rintro _ w1 ⟨rfl, hb1⟩
    go_wp2
    go_ret
    exact ⟨by rw [hO.out]; rfl, hb.trans (hb1.mono hb.size)⟩
  | true =>
    cases hr2 : numR n2 d2 e2 with
    | false =>
      have hO := Lib.hid (show cmpO n1 d1 e1 n2 d2 e2 = 0 by rw [cmpO, hr1, hr2]; rfl)
      rw [hr1] at hR1
      rw [hr2] at hR2
      clear hr1 hr2
      go_enter Tryd.func20, Tryd.ntmps20
      go_wp2_with fail
      refine (hR1 _).mono ?_
      rintro _ w1 ⟨rfl, hb1⟩
      have h1 := hx.below hb1 hx.lt
      have h2 := hy.below hb1 hy.lt
      have h3 := hb.trans (hb1.mono hb.size)
      have hl1 := h1.lt
      have hl2 := h2.lt
      clear hb1 hx hy hb hxc0 hxc1 hxc2 hxf0 hxf1 hxf2 hyc0 hyc1 hyc2 hyf0 hyf1 hyf2
      have hx := h1
      have hy := h2
      have hb := h3
      clear h1 h2 h3
      have hxc0 := hx.cell 0 _ rfl
      have hxf0 := hx.frozen 0
      have hxc1 := hx.cell 1 _ rfl
      have hxf1 := hx.frozen 1
      have hxc2 := hx.cell 2 _ rfl
      have hxf2 := hx.frozen 2
      have hyc0 := hy.cell 0 _ rfl
      have hyf0 := hy.frozen 0
      have hyc1 := hy.cell 1 _ rfl
      have hyf1 := hy.frozen 1
      have hyc2 := hy.cell 2 _ rfl
      have hyf2 := hy.frozen 2
      go_wp2_with fail
      refine (hR2 _).mono ?_
      rintro _ w2 ⟨rfl, hb1⟩
      go_wp2
      go_ret
      exact ⟨by rw [hO.out]; rfl, hb.trans (hb1.mono hb.size)⟩
    | true =>
      have hO := cmpO_ref hr1 hr2
      have hB1 := right_b hr1
      have hB2 := right_b hr2
      have hS1 := fun W => size_any n1 d1 e1 n2 d2 e2 W hd1 hd2 (by omega) (by omega)
      have hS2 := fun W => size_any n2 d2 e2 n1 d1 e1 W hd2 hd1 (by omega) (by omega)
      rw [cmpR] at hO
      rw [hr1] at hR1
      rw [hr2] at hR2
      generalize sizeN d1.data.toList e1 d2.data.toList e2 21002 = z1 at hS1 hO
      generalize sizeN d2.data.toList e2 d1.data.toList e1 21002 = z2 at hS2 hO
      clear hr1 hr2 hB1 hB2
      cases n1 with
      | true =>
        cases n2 with
        | true =>
          have HO : Hid (cmpO true d1 e1 true d2 e2 = z2) := Lib.hid (by rw [hO]; simp)
          clear hO
          go_enter Tryd.func20, Tryd.ntmps20
          go_wp2_with fail
          refine (hR1 _).mono ?_
          clear hR1
          rintro _ w1 ⟨rfl, hb1⟩
          have h1 := hx.below hb1 hx.lt
          have h2 := hy.below hb1 hy.lt
          have h3 := hb.trans (hb1.mono hb.size)
          have hl1 := h1.lt
          have hl2 := h2.lt
          clear hb1 hx hy hb hxc0 hxc1 hxc2 hxf0 hxf1 hxf2 hyc0 hyc1 hyc2 hyf0 hyf1 hyf2
          have hx := h1
          have hy := h2
          have hb := h3
          clear h1 h2 h3
          have hxc0 := hx.cell 0 _ rfl
          have hxf0 := hx.frozen 0
          have hxc1 := hx.cell 1 _ rfl
          have hxf1 := hx.frozen 1
          have hxc2 := hx.cell 2 _ rfl
          have hxf2 := hx.frozen 2
          have hyc0 := hy.cell 0 _ rfl
          have hyf0 := hy.frozen 0
          have hyc1 := hy.cell 1 _ rfl
          have hyf1 := hy.frozen 1
          have hyc2 := hy.cell 2 _ rfl
          have hyf2 := hy.frozen 2
          go_wp2_with fail
          refine (hR2 _).mono ?_
          clear hR2
          rintro _ w2 ⟨rfl, hb1⟩
          have h1 := hx.below hb1 hx.lt
          have h2 := hy.below hb1 hy.lt
          have h3 := hb.trans (hb1.mono hb.size)
          have hl1 := h1.lt
          have hl2 := h2.lt
          clear hb1 hx hy hb hxc0 hxc1 hxc2 hxf0 hxf1 hxf2 hyc0 hyc1 hyc2 hyf0 hyf1 hyf2
          have hx := h1
          have hy := h2
          have hb := h3
          clear h1 h2 h3
          have hxc0 := hx.cell 0 _ rfl
          have hxf0 := hx.frozen 0
          have hxc1 := hx.cell 1 _ rfl
          have hxf1 := hx.frozen 1
          have hxc2 := hx.cell 2 _ rfl
          have hxf2 := hx.frozen 2
          have hyc0 := hy.cell 0 _ rfl
          have hyf0 := hy.frozen 0
          have hyc1 := hy.cell 1 _ rfl
          have hyf1 := hy.frozen 1
          have hyc2 := hy.cell 2 _ rfl
          have hyf2 := hy.frozen 2
          go_wp2_with fail
          refine (hS2 _).mono ?_
          rintro _ w3 ⟨rfl, hb1⟩
          go_wp2
          go_ret
          exact ⟨by rw [HO.out]; rfl, hb.trans (hb1.mono hb.size)⟩
        | false =>
          have HO : Hid (cmpO true d1 e1 false d2 e2 = -1) := Lib.hid (by rw [hO]; simp)
          clear hO
          go_enter Tryd.func20, Tryd.ntmps20
          go_wp2_with fail
          refine (hR1 _).mono ?_
          clear hR1
          rintro _ w1 ⟨rfl, hb1⟩
          have h1 := hx.below hb1 hx.lt
          have h2 := hy.below hb1 hy.lt
          have h3 := hb.trans (hb1.mono hb.size)
          have hl1 := h1.lt
          have hl2 := h2.lt
          clear hb1 hx hy hb hxc0 hxc1 hxc2 hxf0 hxf1 hxf2 hyc0 hyc1 hyc2 hyf0 hyf1 hyf2
          have hx := h1
          have hy := h2
          have hb := h3
          clear h1 h2 h3
          have hxc0 := hx.cell 0 _ rfl
          have hxf0 := hx.frozen 0
          have hxc1 := hx.cell 1 _ rfl
          have hxf1 := hx.frozen 1
          have hxc2 := hx.cell 2 _ rfl
          have hxf2 := hx.frozen 2
          have hyc0 := hy.cell 0 _ rfl
          have hyf0 := hy.frozen 0
          have hyc1 := hy.cell 1 _ rfl
          have hyf1 := hy.frozen 1
          have hyc2 := hy.cell 2 _ rfl
          have hyf2 := hy.frozen 2
          go_wp2_with fail
          refine (hR2 _).mono ?_
          clear hR2
          rintro _ w2 ⟨rfl, hb1⟩
          have h1 := hx.below hb1 hx.lt
          have h2 := hy.below hb1 hy.lt
          have h3 := hb.trans (hb1.mono hb.size)
          have hl1 := h1.lt
          have hl2 := h2.lt
          clear hb1 hx hy hb hxc0 hxc1 hxc2 hxf0 hxf1 hxf2 hyc0 hyc1 hyc2 hyf0 hyf1 hyf2
          have hx := h1
          have hy := h2
          have hb := h3
          clear h1 h2 h3
          have hxc0 := hx.cell 0 _ rfl
          have hxf0 := hx.frozen 0
          have hxc1 := hx.cell 1 _ rfl
          have hxf1 := hx.frozen 1
          have hxc2 := hx.cell 2 _ rfl
          have hxf2 := hx.frozen 2
          have hyc0 := hy.cell 0 _ rfl
          have hyf0 := hy.frozen 0
          have hyc1 := hy.cell 1 _ rfl
          have hyf1 := hy.frozen 1
          have hyc2 := hy.cell 2 _ rfl
          have hyf2 := hy.frozen 2
          go_wp2
          go_ret
          exact ⟨by rw [HO.out]; rfl, hb⟩
      | false =>
        cases n2 with
        | true =>
          have HO : Hid (cmpO false d1 e1 true d2 e2 = 1) := Lib.hid (by rw [hO]; simp)
          clear hO
          go_enter Tryd.func20, Tryd.ntmps20
          go_wp2_with fail
          refine (hR1 _).mono ?_
          clear hR1
          rintro _ w1 ⟨rfl, hb1⟩
          have h1 := hx.below hb1 hx.lt
          have h2 := hy.below hb1 hy.lt
          have h3 := hb.trans (hb1.mono hb.size)
          have hl1 := h1.lt
          have hl2 := h2.lt
          clear hb1 hx hy hb hxc0 hxc1 hxc2 hxf0 hxf1 hxf2 hyc0 hyc1 hyc2 hyf0 hyf1 hyf2
          have hx := h1
          have hy := h2
          have hb := h3
          clear h1 h2 h3
          have hxc0 := hx.cell 0 _ rfl
          have hxf0 := hx.frozen 0
          have hxc1 := hx.cell 1 _ rfl
          have hxf1 := hx.frozen 1
          have hxc2 := hx.cell 2 _ rfl
          have hxf2 := hx.frozen 2
          have hyc0 := hy.cell 0 _ rfl
          have hyf0 := hy.frozen 0
          have hyc1 := hy.cell 1 _ rfl
          have hyf1 := hy.frozen 1
          have hyc2 := hy.cell 2 _ rfl
          have hyf2 := hy.frozen 2
          go_wp2_with fail
          refine (hR2 _).mono ?_
          clear hR2
          rintro _ w2 ⟨rfl, hb1⟩
          have h1 := hx.below hb1 hx.lt
          have h2 := hy.below hb1 hy.lt
          have h3 := hb.trans (hb1.mono hb.size)
          have hl1 := h1.lt
          have hl2 := h2.lt
          clear hb1 hx hy hb hxc0 hxc1 hxc2 hxf0 hxf1 hxf2 hyc0 hyc1 hyc2 hyf0 hyf1 hyf2
          have hx := h1
          have hy := h2
          have hb := h3
          clear h1 h2 h3
          have hxc0 := hx.cell 0 _ rfl
          have hxf0 := hx.frozen 0
          have hxc1 := hx.cell 1 _ rfl
          have hxf1 := hx.frozen 1
          have hxc2 := hx.cell 2 _ rfl
          have hxf2 := hx.frozen 2
          have hyc0 := hy.cell 0 _ rfl
          have hyf0 := hy.frozen 0
          have hyc1 := hy.cell 1 _ rfl
          have hyf1 := hy.frozen 1
          have hyc2 := hy.cell 2 _ rfl
          have hyf2 := hy.frozen 2
          go_wp2
          go_ret
          exact ⟨by rw [HO.out]; rfl, hb⟩
        | false =>
          have HO : Hid (cmpO false d1 e1 false d2 e2 = z1) := Lib.hid (by rw [hO]; simp)
          clear hO
          go_enter Tryd.func20, Tryd.ntmps20
          go_wp2_with fail
          refine (hR1 _).mono ?_
          clear hR1
          rintro _ w1 ⟨rfl, hb1⟩
          have h1 := hx.below hb1 hx.lt
          have h2 := hy.below hb1 hy.lt
          have h3 := hb.trans (hb1.mono hb.size)
          have hl1 := h1.lt
          have hl2 := h2.lt
          clear hb1 hx hy hb hxc0 hxc1 hxc2 hxf0 hxf1 hxf2 hyc0 hyc1 hyc2 hyf0 hyf1 hyf2
          have hx := h1
          have hy := h2
          have hb := h3
          clear h1 h2 h3
          have hxc0 := hx.cell 0 _ rfl
          have hxf0 := hx.frozen 0
          have hxc1 := hx.cell 1 _ rfl
          have hxf1 := hx.frozen 1
          have hxc2 := hx.cell 2 _ rfl
          have hxf2 := hx.frozen 2
          have hyc0 := hy.cell 0 _ rfl
          have hyf0 := hy.frozen 0
          have hyc1 := hy.cell 1 _ rfl
          have hyf1 := hy.frozen 1
          have hyc2 := hy.cell 2 _ rfl
          have hyf2 := hy.frozen 2
          go_wp2_with fail
          refine (hR2 _).mono ?_
          clear hR2
          rintro _ w2 ⟨rfl, hb1⟩
          have h1 := hx.below hb1 hx.lt
          have h2 := hy.below hb1 hy.lt
          have h3 := hb.trans (hb1.mono hb.size)
          have hl1 := h1.lt
          have hl2 := h2.lt
          clear hb1 hx hy hb hxc0 hxc1 hxc2 hxf0 hxf1 hxf2 hyc0 hyc1 hyc2 hyf0 hyf1 hyf2
          have hx := h1
          have hy := h2
          have hb := h3
          clear h1 h2 h3
          have hxc0 := hx.cell 0 _ rfl
          have hxf0 := hx.frozen 0
          have hxc1 := hx.cell 1 _ rfl
          have hxf1 := hx.frozen 1
          have hxc2 := hx.cell 2 _ rfl
          have hxf2 := hx.frozen 2
          have hyc0 := hy.cell 0 _ rfl
          have hyf0 := hy.frozen 0
          have hyc1 := hy.cell 1 _ rfl
          have hyf1 := hy.frozen 1
          have hyc2 := hy.cell 2 _ rfl
          have hyf2 := hy.frozen 2
          go_wp2_with fail
          refine (hS1 _).mono ?_
          rintro _ w3 ⟨rfl, hb1⟩
          go_wp2
          go_ret
          exact ⟨by rw [HO.out]; rfl, hb.trans (hb1.mono hb.size)⟩
end Go.Proofs.YthiggalnjjcejaaDoor
