/- The walk of CrcBursts: it returns true. -/
import Derived.Test.YtfkpkchnjacfjaaCrcC
namespace Go.Proofs.Ytfkpkchnjacfjaa
open Go.RowKit Go.Tab

set_option maxHeartbeats 1600000 in
theorem Burst_any (v : Value) (l : List UInt8) (at_ bits : Nat) (w : World) (hv : BytesAt w v l) (hne : l ≠ []) (hlen : l.length ≤ 1000000) (ha : at_ ≤ 10000000) (hbits : bits < 4294967296) :
    Calls Try.prog 20 #[v, .int .i64 at_, .int .u32 bits] w fun e w' => ∃ v', e = .returned v' ∧ OwnB w.heap.size w' v' (bst l at_ bits 32) ∧ Below w.heap.size w w' := by
  obtain ⟨a, cap, rfl, hl, hm, hn⟩ := hv.len
  unfold maxLen at hm
  go_enter Try.func20, Try.ntmps20
  go_wp2_with (with_reducible first | refine stop_append ?_ | refine stop_make ?_ | refine stop_slice ?_ | refine stop_copy ?_); refine Stop.out ?_
  refine wpList_append_row (f := byteV) rfl _ _ 22 rfl w.heap.size 5 1 _ Try.underlying22 Try.infoB rfl oneB [] l (by exact OwnOf.nil) (by exact hv) (by unfold maxLen; simp; omega) (by simp; omega) (by omega) w (Below.refl _ _) ?_
  intro v1 w1 ho1 hb1 _
  obtain ⟨g, cap1, rfl, hl1, hm1, hg1⟩ := ho1.shape (by simpa using hne)
  simp only [List.nil_append] at ho1 hl1 ⊢
  unfold maxLen at hm1
  go_wp2_with fail
  go_loopw [2, 8] (fun b i wr => ∃ k : Nat, k ≤ 32 ∧ i = .int .i64 k ∧ b = .int .u32 (bits / 2 ^ k : Nat) ∧ OwnB w.heap.size wr (.slice (some ⟨g, 0, none⟩) l.length cap1) (bst l at_ bits k) ∧ Below w.heap.size w wr) (fun _ i _ => 32 - (intOf i).toNat)
  case atStart => exact ⟨0, by omega, rfl, by simp, ho1, hb1⟩
  case round =>
    obtain ⟨k, hk, rfl, rfl, hok, hbk⟩ := hrel
    by_cases hlt : k < 32
    · have hq : bits / 2 ^ k < 4294967296 := Nat.lt_of_le_of_lt (Nat.div_le_self _ _) hbits
      have hq2 : bits / 2 ^ (k + 1) = bits / 2 ^ k / 2 := by rw [Nat.pow_succ, Nat.div_div_eq_div_mul]
      have HQ := Lib.hid hq2
      have HS : Hid (bst l at_ bits (k + 1) = if bits / 2 ^ k % 2 = 1 then flip (bst l at_ bits k) (at_ + k) else bst l at_ bits k) := Lib.hid rfl
      clear hq2
      generalize bits / 2 ^ k = q at *
      obtain ⟨i, hi⟩ : ∃ i : Nat, (at_ : Int) + (k : Int) = (i : Int) := ⟨at_ + k, by omega⟩
      have HI : Hid (at_ + k = i) := by show at_ + k = i; omega
      have hib : i ≤ 20000000 := by have := HI.out; omega
      by_cases hb : q % 2 = 1
      · have hd1 : ((q : Int) % 2 == 1) = true := by simp; omega
        have HB := Lib.hid hb
        clear hb
        by_cases hi8 : i / 8 < l.length
        · have hd3 : decide ((i : Int) / 8 < (l.length : Int)) = true := by simp; omega
          obtain ⟨c, hc⟩ : ∃ c, (bst l at_ bits k).getD (i / 8) 0 = c := ⟨_, rfl⟩
          have hlk : i / 8 < (bst l at_ bits k).length := by rw [bst_length]; exact hi8
          have hcell : wr.cell? ⟨g, i / 8, none⟩ = some (byteV c) := by
            rw [hok.cellAt _ hlk, ← hc, List.getD_eq_getElem?_getD, List.getElem?_eq_getElem hlk]; rfl
          have hfro := hok.frozenAt (i / 8)
          have HC := Lib.hid hc
          clear hc
          obtain ⟨m, hm8, hm7⟩ : ∃ m : Nat, (i : Int) % 8 = (m : Int) ∧ m < 8 := ⟨i % 8, by omega, by omega⟩
          have HM : Hid (i % 8 = m) := by show i % 8 = m; omega
          go_wp2_with fail
          go_loop [10, 11] (fun o j => ∃ x : Nat, x ≤ m ∧ j = .int .i64 x ∧ o = .int .u8 (2 ^ x : Nat)) (fun _ j => m - (intOf j).toNat)
          case atStart => exact ⟨0, by omega, rfl, rfl⟩
          case round =>
            obtain ⟨x, hx, rfl, rfl⟩ := hrel
            by_cases hxm : x < m
            · have hp : 2 ^ (x + 1) = 2 ^ x * 2 := Nat.pow_succ 2 x
              have hp2 : 2 ^ (x + 1) ≤ 2 ^ 7 := Nat.pow_le_pow_right (by decide) (by omega)
              have HP := Lib.hid hp
              have hp3 : 2 ^ x * 2 ≤ 128 := by rw [← hp]; exact hp2
              clear hp hp2
              generalize 2 ^ x = y at *
              go_wp2
              go_round
              case rel => exact ⟨x + 1, by omega, by go_num, by rw [HP.out]; go_num⟩
              case measure => simp [intOf]; omega
            · obtain rfl : x = m := by omega
              have hp3 : 2 ^ x ≤ 2 ^ 7 := Nat.pow_le_pow_right (by decide) (by omega)
              have hxo := u8_xor_nat c.toNat (2 ^ x) c.toNat_lt (Nat.lt_of_le_of_lt hp3 (by decide))
              have hof : (UInt8.ofNat (2 ^ x)).toNat = 2 ^ x := by rw [UInt8.toNat_ofNat']; exact Nat.mod_eq_of_lt (Nat.lt_of_le_of_lt hp3 (by decide))
              have hxo2 : ((c.toNat ^^^ 2 ^ x : Nat) : Int) = ((c ^^^ UInt8.ofNat (2 ^ x)).toNat : Int) := by rw [UInt8.toNat_xor, hof]
              have HX := Lib.hid hxo2
              have HXO := Lib.hid hxo
              have hp4 : 2 ^ x ≤ 128 := hp3
              clear hxo hxo2 hof hp3
              generalize hy : 2 ^ x = y at *
              have HY := Lib.hid hy
              clear hy
              go_wp2
              go_roundw
              case rel =>
                refine ⟨k + 1, by omega, by go_num, by rw [HQ.out]; simp, ?_, hbk.setCell (by exact hg1) _⟩
                rw [HXO.out, HX.out, HS.out, if_pos HB.out]
                unfold flip
                rw [HI.out, if_pos hlk, HC.out, HM.out, HY.out]
                exact hok.stored (i / 8) _
              case measure => simp [intOf]; omega
        · have hd3 : decide ((i : Int) / 8 < (l.length : Int)) = false := by simp; omega
          have hne2 : flip (bst l at_ bits k) (at_ + k) = bst l at_ bits k := by
            unfold flip; rw [if_neg (by rw [bst_length, HI.out]; exact hi8)]
          have HN := Lib.hid hne2
          clear hne2
          go_wp2
          go_roundw
          case rel => exact ⟨k + 1, by omega, by go_num, by rw [HQ.out]; simp, by rw [HS.out, if_pos HB.out, HN.out]; exact hok, hbk⟩
          case measure => simp [intOf]; omega
      · have hd1 : ((q : Int) % 2 == 1) = false := by simp; omega
        have HB := Lib.hid hb
        clear hb
        go_wp2
        go_roundw
        case rel => exact ⟨k + 1, by omega, by go_num, by rw [HQ.out]; simp, by rw [HS.out, if_neg HB.out]; exact hok, hbk⟩
        case measure => simp [intOf]; omega
    · obtain rfl : k = 32 := by omega
      go_wp2
      go_ret
      exact ⟨_, rfl, hok, hbk⟩

set_option maxHeartbeats 1600000 in
set_option maxRecDepth 100000 in
theorem CrcBursts_walk (a0 : Value) (l0 : List UInt8) (a1 : Int) (a2 : Int) (w : World) (w0 : BytesAt w a0 l0) (w1 : (Lit.int .u16 a1).wf = true) (w2 : (Lit.int .u32 a2).wf = true) :
    Calls Try.prog 7 #[a0, .int .u16 a1, .int .u32 a2] w fun e w' => e = .returned (.bool true) ∧ Below w.heap.size w w' := by
  have wk := w0
  obtain ⟨a, cap, rfl, hl, hm, hn⟩ := w0.len
  unfold maxLen at hm
  have b1 : 0 ≤ a1 ∧ a1 < 65536 := by
    rw [Lit.wf, Bool.and_eq_true, decide_eq_true_eq, decide_eq_true_eq] at w1
    have e1 : IntKind.u16.min = 0 := rfl
    have e2 : IntKind.u16.max = 65535 := rfl
    omega
  have b2 : 0 ≤ a2 ∧ a2 < 4294967296 := by
    rw [Lit.wf, Bool.and_eq_true, decide_eq_true_eq, decide_eq_true_eq] at w2
    have e1 : IntKind.u32.min = 0 := rfl
    have e2 : IntKind.u32.max = 4294967295 := rfl
    omega
  obtain ⟨b1, b1'⟩ := b1
  obtain ⟨b2, b2'⟩ := b2
  obtain ⟨i, rfl⟩ := Int.eq_ofNat_of_zero_le b2
  have hi : i < 4294967296 := by omega
  clear w1 w2 b2 b2'
  by_cases h : 2000 < l0.length
  · go_enter Try.func7, Try.ntmps7
    go_wp2_with fail
    refine (wakes_any w).mono ?_
    rintro e w1 ⟨rfl, hb1⟩
    go_wp2
    go_ret
    exact ⟨rfl, hb1⟩
  · have hlen : (l0 ++ four (sum l0)).length = l0.length + 4 := by simp [four]
    obtain ⟨m, hmod, hml⟩ : ∃ m : Nat, a1 % (8 * ((l0.length : Int) + 4) + 1) = (m : Int) ∧ m ≤ 8 * (l0.length + 4) := by
      have h1 := Int.emod_nonneg a1 (show (8 * ((l0.length : Int) + 4) + 1) ≠ 0 by omega)
      have h2 := Int.emod_lt_of_pos a1 (show 0 < (8 * ((l0.length : Int) + 4) + 1) by omega)
      exact ⟨(a1 % (8 * ((l0.length : Int) + 4) + 1)).toNat, by omega, by omega⟩
    go_enter Try.func7, Try.ntmps7
    go_wp2_with fail
    refine (wakes_any w).mono ?_
    rintro e w1 ⟨rfl, hb1⟩
    have hz1 := hb1.size
    go_wp2_with fail
    refine (Seal_any _ l0 w1 (wk.below hb1 (Nat.le_refl _)) (by omega)).mono ?_
    rintro e w2 ⟨v2, rfl, ho2, hb2'⟩
    obtain ⟨g, cap2, rfl, hl2, hm2, hg2⟩ := ho2.shape (by simp [four])
    have hr2 := ho2.row
    have hb2 := hb1.trans (hb2'.mono hz1)
    have hz2 := hb2.size
    clear hb2'
    rw [hlen] at hr2 hl2 ⊢
    unfold maxLen at hm2
    clear ho2
    go_wp2_with fail
    have hne : l0 ++ four (sum l0) ≠ [] := by simp [four]
    refine (Burst_any _ _ m i w2 hr2 hne (by rw [hlen]; omega) (by omega) (by omega)).mono ?_
    rintro e w3 ⟨v3, rfl, ho3, hb3'⟩
    have hr3 := ho3.row
    clear ho3
    have hb3 := hb2.trans (hb3'.mono hz2)
    have hz3 := hb3.size
    have hr2 := hr2.below hb3' (Nat.le_refl _)
    clear hb3'
    go_wp2_with fail
    by_cases hs : bst (l0 ++ four (sum l0)) m i 32 = l0 ++ four (sum l0)
    · refine (Same_yes _ _ _ _ w3 hr3 hr2 hs).mono ?_
      rintro e w4 ⟨rfl, hb4'⟩
      have hb4 := hb3.trans (hb4'.mono hz3)
      have hz4 := hb4.size
      clear hb4'
      go_wp2
      go_ret
      exact ⟨rfl, hb4⟩
    · refine (Same_no _ _ _ _ w3 hr3 hr2 hs).mono ?_
      rintro e w4 ⟨rfl, hb4'⟩
      have hb4 := hb3.trans (hb4'.mono hz3)
      have hz4 := hb4.size
      have hr3 := hr3.below hb4' (Nat.le_refl _)
      clear hb4'
      obtain ⟨b, x0, x1, x2, x3, he⟩ := last4 (bst (l0 ++ four (sum l0)) m i 32) (by rw [bst_length, hlen]; omega)
      have hnot : num4 x0 x1 x2 x3 ≠ sum b := burst_not_sealed l0 m i b x0 x1 x2 x3 (by omega) hs he
      rw [he] at hr3
      have hbl : b.length = l0.length := by
        have := congrArg List.length he
        rw [bst_length, hlen] at this
        simpa using this.symm
      go_wp2_with fail
      refine (Sealed_no _ b x0 x1 x2 x3 w4 hr3 (by omega) hnot).mono ?_
      rintro e w5 ⟨rfl, hb5'⟩
      have hb5 := hb4.trans (hb5'.mono hz4)
      have hz5 := hb5.size
      clear hb5'
      go_wp2
      go_ret
      exact ⟨rfl, hb5⟩
end Go.Proofs.Ytfkpkchnjacfjaa
