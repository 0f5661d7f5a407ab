/- The walk of CrcOrder: it returns true. -/
import Derived.Test.YtfkpkchnjacfjaaCrcC
namespace Go.Proofs.Ytfkpkchnjacfjaa
open Go.RowKit Go.Tab

theorem run_makeB (n : Nat) (hn : n ≤ 281474976710656) (w : World) : (Instr.makeSlice 22 (.int .i64 n) (.int .i64 n)).run Try.prog w =
    .ok (.slice (some ⟨w.heap.size, 0, none⟩) n n) (w.alloc (.cells (Array.replicate n (.int .u8 0)) 5)) := by
  obtain ⟨i, hi1, hi2, hi3, hi4⟩ := info_parts Try.infoB
  have h := run_make (P := Try.prog) w 22 5 i _ Try.underlying22 hi1 hi2 .i64 .i64 n n (by omega) (by omega) (by rw [hi4]; omega) (by omega)
  rw [h, hi3]
  simp only [Int.toNat_natCast, Nat.mul_one]
  congr 2
  have h2 := toList_madeCells_one (.int .u8 0) n
  have h3 : (madeCells #[Value.int .u8 0] n) = Array.replicate n (Value.int .u8 0) := by
    apply Array.toList_inj.1
    rw [h2]; simp
  exact congrArg (fun x => Obj.cells x 5) h3

/-- A new row of noughts. -/
theorem own_zeros (w : World) (n : Nat) (hn : n ≤ maxLen) (base : Nat) (hb : base ≤ w.heap.size) :
    OwnB base (w.alloc (.cells (Array.replicate n (.int .u8 0)) 5)) (.slice (some ⟨w.heap.size, 0, none⟩) n n) (List.replicate n 0) := by
  unfold OwnB OwnOf
  have h := World.ownsRow_lit (base := base) (e := 5) (size := 1) w (Array.replicate n (.int .u8 0)) n hb hn (by simp)
  simpa [byteV] using h

theorem own_three (w : World) (n : Nat) (hn : n ≤ maxLen) (base : Nat) (hb : base ≤ w.heap.size) (o : Obj) (ho : o = .cells (Array.replicate n (.int .u8 0)) 5) :
    OwnB base (((w.alloc o).alloc o).alloc o).drew (.slice (some ⟨w.heap.size, 0, none⟩) n n) (List.replicate n 0) ∧
    OwnB base (((w.alloc o).alloc o).alloc o).drew (.slice (some ⟨w.heap.size + 1, 0, none⟩) n n) (List.replicate n 0) ∧
    OwnB base (((w.alloc o).alloc o).alloc o).drew (.slice (some ⟨w.heap.size + 1 + 1, 0, none⟩) n n) (List.replicate n 0) := by
  subst ho
  refine ⟨?_, ?_, ?_⟩
  · exact (((own_zeros w n hn base hb).alloc _).alloc _).drew
  · have h := ((own_zeros (w.alloc (.cells (Array.replicate n (.int .u8 0)) 5)) n hn base (by simp; omega)).alloc (.cells (Array.replicate n (.int .u8 0)) 5)).drew
    simpa using h
  · have h := (own_zeros ((w.alloc (.cells (Array.replicate n (.int .u8 0)) 5)).alloc (.cells (Array.replicate n (.int .u8 0)) 5)) n hn base (by simp; omega)).drew
    simpa using h

set_option maxHeartbeats 800000 in
theorem CrcOrder_walk (a0 : Value) (l0 : List UInt8) (a1 : Value) (l1 : List UInt8) (w : World) (w0 : BytesAt w a0 l0) (w1 : BytesAt w a1 l1) :
    Calls Try.prog 3 #[a0, a1] w fun e w' => e = .returned (.bool true) ∧ Below w.heap.size w w' := by
  have wk0 := w0
  have wk1 := w1
  obtain ⟨a, cap, rfl, hl, hm, hn⟩ := w0.len
  obtain ⟨b, cap1, rfl, hl1, hm1, hn1⟩ := w1.len
  unfold maxLen at hm hm1
  obtain ⟨n, hif, hn0, hn1⟩ : ∃ n : Nat, (if l1.length < l0.length then (l1.length : Int) else (l0.length : Int)) = (n : Int) ∧ n ≤ l0.length ∧ n ≤ l1.length := by
    by_cases h : l1.length < l0.length
    · exact ⟨l1.length, by simp [h], by omega, by omega⟩
    · exact ⟨l0.length, by simp [h], by omega, by omega⟩
  by_cases h : 1000 < n
  · go_enter Try.func3, Try.ntmps3
    go_wp2_with fail
    refine (wakes_any w).mono ?_
    rintro e w1 ⟨rfl, hb1⟩
    go_wp2
    go_ret
    exact ⟨rfl, hb1⟩
  · have hmk := run_makeB n (by omega)
    go_enter Try.func3, Try.ntmps3
    go_wp2_with fail
    refine (wakes_any w).mono ?_
    rintro e w1 ⟨rfl, hb1⟩
    have hz1 := hb1.size
    obtain ⟨h0, h1, h2⟩ := own_three w1 n (by unfold maxLen; omega) w.heap.size hz1 _ rfl
    have hb3 : Below w.heap.size w (((w1.alloc (.cells (Array.replicate n (.int .u8 0)) 5)).alloc (.cells (Array.replicate n (.int .u8 0)) 5)).alloc (.cells (Array.replicate n (.int .u8 0)) 5)).drew :=
      ((((hb1.alloc hz1 _).alloc (by simp; omega) _).alloc (by simp; omega) _)).drew
    go_upto_region 6 with fail
    go_cut [6, 7, 8] (fun x y z wc => ∃ bx bz bw : Nat, bx ≠ bz ∧ x = .slice (some ⟨bx, 0, none⟩) n n ∧ y = .slice (some ⟨bz, 0, none⟩) n n ∧ z = .slice (some ⟨bw, 0, none⟩) n n ∧ bw ≠ bx ∧ bw ≠ bz ∧
      OwnB w.heap.size wc x (List.replicate n 0) ∧ OwnB w.heap.size wc y (List.replicate n 0) ∧ OwnB w.heap.size wc z (List.replicate n 0) ∧ Below w.heap.size w wc)
    case first =>
      go_region
      all_goals go_wp2_with fail
      all_goals go_meet
      all_goals exact ⟨_, _, _, by omega, rfl, rfl, rfl, by omega, by omega, by assumption, by assumption, by assumption, hb3⟩
    case rest =>
      obtain ⟨bx, bz, bw, hxz, rfl, rfl, rfl, hwx, hwz, hx, hy, hz, hb2⟩ := hcut
      clear h0 h1 h2 hb3 hmk
      go_wp2_with fail
      go_loopw [26] (fun i wr => ∃ k : Nat, k ≤ n ∧ i = .int .i64 k ∧
        OwnB w.heap.size wr (.slice (some ⟨bx, 0, none⟩) n n) (over n (xors (l0.take k) (l1.take k))) ∧ OwnB w.heap.size wr (.slice (some ⟨bz, 0, none⟩) n n) (over n (l0.take k)) ∧
        OwnB w.heap.size wr (.slice (some ⟨bw, 0, none⟩) n n) (List.replicate n 0) ∧ Below w.heap.size w wr) (fun i _ => n - (intOf i).toNat)
      case atStart => exact ⟨0, by omega, rfl, by simpa [xors, over_nil] using hx, by simpa [over_nil] using hy, hz, hb2⟩
      case round =>
        obtain ⟨k, hk, rfl, hxk, hyk, hzk, hbk⟩ := hrel
        by_cases hlt : k < n
        · have hk0 : k < l0.length := by omega
          have hk1 : k < l1.length := by omega
          obtain ⟨ba, oa, rfl, hba, hca⟩ := wk0.at (j := k) (by omega)
          obtain ⟨bb, ob, rfl, hbb, hcb⟩ := wk1.at (j := k) (by omega)
          have ca : wr.cell? ⟨ba, oa + k, none⟩ = some (byteV l0[k]) := (hbk.cell hba).trans (hca k (by omega))
          have cb : wr.cell? ⟨bb, ob + k, none⟩ = some (byteV l1[k]) := (hbk.cell hbb).trans (hcb k (by omega))
          have gx := hxk.own_ge bx rfl
          have gz := hyk.own_ge bz rfl
          have n1 : ¬ ba = bx := by omega
          have n3 : ¬ ba = bz := by omega
          have n4 : ¬ bb = bx := by omega
          have n2 : ¬ bx = bz := hxz
          have n5 : ¬ bz = bx := by omega
          clear hca hcb
          have lx := xors_length l0 l1 k (by omega) (by omega)
          have lx2 := over_length n (xors (l0.take k) (l1.take k)) (by omega)
          have ly := over_length n (l0.take k) (by simp; omega)
          obtain ⟨vx, cx⟩ : ∃ c, wr.cell? ⟨bx, k, none⟩ = some (byteV c) := ⟨_, hxk.cellAt k (by omega)⟩
          obtain ⟨vy, cy⟩ : ∃ c, wr.cell? ⟨bz, k, none⟩ = some (byteV c) := ⟨_, hyk.cellAt k (by omega)⟩
          have fx := hxk.frozenAt k
          have fy := hyk.frozenAt k
          have HX : Hid ((xors (l0.take k) (l1.take k)).length = k) := lx
          have e1 := Lib.hid (over_set n (xors (l0.take k) (l1.take k)) (l0[k] ^^^ l1[k]) (by omega))
          have e2 := Lib.hid (over_set n (l0.take k) l0[k] (by simp; omega))
          have e3 := Lib.hid (xors_take l0 l1 k (by omega) (by omega))
          have e4 := Lib.hid (take_snoc l0 k (by omega))
          clear lx lx2 ly
          have hxo : bits .xor .u8 (l0[k].toNat : Int) (l1[k].toNat : Int) = ((l0[k] ^^^ l1[k]).toNat : Int) := by
            rw [u8_xor_nat _ _ l0[k].toNat_lt l1[k].toNat_lt, UInt8.toNat_xor]
          have hzx := hbk.size
          go_wp2_with fail
          go_region
          all_goals go_wp2_with fail
          all_goals go_roundw
          case rel =>
            refine ⟨k + 1, by omega, by go_num, ?_, ?_, ?_, ?_⟩
            · have h1 := ((hxk.stored k (l0[k] ^^^ l1[k])).setOther ⟨bz, k, none⟩ (byteV l0[k]) (by simp only [Value.ownBlock, ne_eq, Option.some.injEq]; exact n2)).drew
              have h2 := e1.out
              rw [HX.out] at h2
              rw [h2, ← e3.out] at h1
              rw [← UInt8.toNat_xor]; exact h1
            · have h1 := ((hyk.setOther ⟨bx, k, none⟩ (byteV (l0[k] ^^^ l1[k])) (by simp only [Value.ownBlock, ne_eq, Option.some.injEq]; exact n5)).stored k l0[k]).drew
              have h2 := e2.out
              rw [show (l0.take k).length = k by simp; omega] at h2
              rw [h2, ← e4.out] at h1
              rw [← UInt8.toNat_xor]; exact h1
            · exact ((hzk.setOther _ _ (by simp only [Value.ownBlock, ne_eq, Option.some.injEq]; exact hwx)).setOther _ _ (by simp only [Value.ownBlock, ne_eq, Option.some.injEq]; exact hwz)).drew
            · exact ((hbk.setCell (by exact gx) _).setCell (by exact gz) _).drew
          case measure => simp [intOf]; omega
        · obtain rfl : k = n := by omega
          have hs := Lib.hid (sum_xors (l0.take k) (l1.take k) (by simp; omega))
          have r1 := hxk.row
          have r2 := hyk.row
          have r3 := hzk.row
          have r4 := wk1.below hbk (Nat.le_refl _)
          rw [over_full _ _ (xors_length l0 l1 k hn0 hn1)] at r1
          rw [over_full _ _ (by simp; omega)] at r2
          have hbB : w.heap.size ≤ wr.heap.size := hbk.size
          go_wp2_with fail
          refine wp_region_under wr (by kernel_rfl) (by kernel_rfl) (Below.refl _ _) ?_
          have r5 := r4.head hn1
          have hsz : (l0.take k).length = k := by simp; omega
          have hx1 : bits .xor .u32 (sum (xors (l0.take k) (l1.take k)) : Int) (sum (List.replicate k 0) : Int) = bits .xor .u32 (sum (l0.take k) : Int) (sum (l1.take k) : Int) := by
            rw [u32_xor_nat _ _ (sum_lt _) (sum_lt _), u32_xor_nat _ _ (sum_lt _) (sum_lt _)]
            have := hs.out
            rw [hsz] at this
            rw [this]
          have HX1 := Lib.hid hx1
          clear hx1 hsz
          repeat (go_big_quiet_step ((go_at_call 9; first | exact Under.call _ (Of_any _ _ _ (r1.under_of _)) | exact Under.call _ (Of_any _ _ _ (r2.under_of _)) | exact Under.call _ (Of_any _ _ _ (r3.under_of _)) | exact Under.call _ (Of_any _ _ _ (r5.under_of _)))))
          refine wpQuiet_nil ?_
          rintro _ ⟨x, rfl⟩
          go_wp2
          go_ret
          refine ⟨ret_bool ?_, hbk.trans (x.below.mono hbB)⟩
          rw [HX1.out]; simp
end Go.Proofs.Ytfkpkchnjacfjaa
