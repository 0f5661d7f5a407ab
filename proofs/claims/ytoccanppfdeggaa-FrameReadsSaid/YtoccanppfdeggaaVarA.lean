/- Contracts of the functions that the statements on numbers of any length reach. No condition but the bounds that each names. -/
import Derived.Test.YtoccanppfdeggaaSame
import Derived.Test.YtoccanppfdeggaaVarP
namespace Go.Proofs.Ytoccanppfdeggaa
open Go.RowKit Go.Tab

theorem u8or (n : Nat) : bits .or .u8 ((n : Int) % 256) 128 = ((n % 128 + 128 : Nat) : Int) := by
  have h := u8_or_nat (n % 256) 128 (by omega) (by omega)
  have h2 : n % 256 ||| 128 = n % 128 + 128 := by
    by_cases h7 : n % 256 < 128
    · have h7' := Nat.two_pow_add_eq_or_of_lt (i := 7) (b := n % 256) (by omega) 1
      rw [show 2 ^ 7 * 1 = 128 by decide] at h7'
      rw [Nat.or_comm, ← h7']; omega
    · have e : n % 256 = 128 + n % 128 := by omega
      have h7' := Nat.two_pow_add_eq_or_of_lt (i := 7) (b := n % 128) (by omega) 1
      rw [show 2 ^ 7 * 1 = 128 by decide] at h7'
      rw [e, h7', Nat.or_comm, ← Nat.or_assoc, Nat.or_self, ← h7']; omega
  rw [h2] at h
  simpa using h

theorem one_new (w : World) (c : UInt8) (x : Int) (hx : x = c.toNat) (E : TypeId) : BytesAt (w.alloc (.cells #[.int .u8 x] E)) (.slice (some ⟨w.heap.size, 0, none⟩) 1 1) [c] := by
  subst hx
  exact bytes_new w [c] E (0, 0) (by show 1 ≤ maxLen; decide)

set_option maxHeartbeats 800000 in
set_option maxRecDepth 100000 in
theorem add_any (v : Value) (l : List UInt8) (n : Nat) (base : Nat) (w0 w : World) (ho : OwnB base w v l) (hn : n < 18446744073709551616) (hbase : base ≤ w.heap.size) (hb : Below base w0 w) (hlen : l.length + 10 ≤ 140737488355328) :
    Calls Try.prog 40 #[v, .int .u64 n] w fun e w' => ∃ v', e = .returned v' ∧ OwnB base w' v' (l ++ put n) ∧ Below base w0 w' := by
  go_enter Try.func40, Try.ntmps40
  have h10 := put_length_ten hn
  clear hn
  go_wp2_with fail
  go_loopw [0, 1] (fun v' x wr => ∃ (m : Nat) (l' : List UInt8), x = .int .u64 m ∧ m ≤ n ∧ OwnB base wr v' l' ∧ l' ++ put m = l ++ put n ∧ Below base w0 wr ∧ base ≤ wr.heap.size) (fun _ x _ => (intOf x).toNat)
  case atStart => exact ⟨n, l, rfl, Nat.le_refl _, ho, rfl, hb, hbase⟩
  case round =>
    obtain ⟨m, l', rfl, hm, ho', he, hb', hz'⟩ := hrel
    have hle : l'.length + (put m).length = l.length + (put n).length := by
      have := congrArg List.length he
      simpa using this
    have hp1 : 1 ≤ (put m).length := List.length_pos_iff.2 (put_ne m)
    have HE := Lib.hid he
    have HLE := Lib.hid hle
    have HLN := Lib.hid hlen
    clear hlen
    have hl10 : l'.length ≤ l.length + 9 := by omega
    clear he hle hp1
    by_cases hbig : 128 ≤ m
    · have hor := u8or m
      have hpb := Lib.hid (put_big hbig)
      have hof : (UInt8.ofNat (m % 128 + 128)).toNat = m % 128 + 128 := by rw [UInt8.toNat_ofNat']; omega
      have HOF := Lib.hid hof
      clear hof
      go_wp2_with (with_reducible first | refine stop_append ?_ | refine stop_make ?_ | refine stop_slice ?_ | refine stop_copy ?_); refine Stop.out ?_
      have hone := one_new wr (UInt8.ofNat (m % 128 + 128)) ((m % 128 + 128 : Nat) : Int) (by rw [HOF.out]) 5
      refine wpList_append_row (f := byteV) rfl _ _ 22 rfl base 5 1 _ Try.underlying22 Try.infoB rfl oneB l' [UInt8.ofNat (m % 128 + 128)] (by exact ho'.alloc _) (by exact hone) (by have := HLN.out; unfold maxLen; simp; omega) (by have := HLN.out; simp; omega) (by simp; omega) w0 (by exact hb'.alloc hz' _) ?_
      intro v2 w2 ho2 hb2 hg2
      have hz2 := hg2.size
      simp only [World.size_alloc] at hz2
      clear hg2
      go_wp2
      go_roundw
      case rel =>
        refine ⟨m / 128, l' ++ [UInt8.ofNat (m % 128 + 128)], by simp, by omega, ho2, ?_, hb2, by omega⟩
        rw [← HE.out, hpb.out]; simp
      case measure => simp [intOf]; omega
    · have hps := Lib.hid (put_small (show m < 128 by omega))
      have hof : (UInt8.ofNat m).toNat = m := by rw [UInt8.toNat_ofNat']; omega
      have HOF := Lib.hid hof
      clear hof
      go_wp2_with (with_reducible first | refine stop_append ?_ | refine stop_make ?_ | refine stop_slice ?_ | refine stop_copy ?_); refine Stop.out ?_
      have hone := one_new wr (UInt8.ofNat m) (m : Int) (by rw [HOF.out]) 5
      refine wpList_append_row (f := byteV) rfl _ _ 22 rfl base 5 1 _ Try.underlying22 Try.infoB rfl oneB l' [UInt8.ofNat m] (by exact ho'.alloc _) (by exact hone) (by have := HLN.out; unfold maxLen; simp; omega) (by have := HLN.out; simp; omega) (by simp; omega) w0 (by exact hb'.alloc hz' _) ?_
      intro v2 w2 ho2 hb2 _
      go_wp2
      go_ret
      exact ⟨v2, rfl, by rw [← HE.out, hps.out]; exact ho2, hb2⟩

theorem Put_any (n : Nat) (w : World) (hn : n < 18446744073709551616) :
    Calls Try.prog 16 #[.int .u64 n] w fun e w' => ∃ v', e = .returned v' ∧ OwnB w.heap.size w' v' (put n) ∧ Below w.heap.size w w' := by
  have h := add_any (.slice none 0 0) [] n w.heap.size w w OwnOf.nil hn (Nat.le_refl _) (Below.refl _ _) (by simp)
  clear hn
  go_enter Try.func16, Try.ntmps16
  go_wp2_with fail
  refine h.mono ?_
  rintro e w' ⟨v', rfl, ho, hb⟩
  go_wp2
  go_ret
  exact ⟨v', rfl, ho, hb⟩

set_option maxHeartbeats 800000 in
set_option maxRecDepth 100000 in
theorem rPut_any (n : Nat) (w : World) (hn : n < 18446744073709551616) :
    Calls Try.prog 17 #[.int .u64 n] w fun e w' => ∃ v', e = .returned v' ∧ OwnB w.heap.size w' v' (put n) ∧ Below w.heap.size w w' := by
  go_enter Try.func17, Try.ntmps17
  have h10 := put_length_ten hn
  have HNN := Lib.hid hn
  clear hn
  go_wp2_with fail
  go_loopw [0, 3] (fun x v' wr => ∃ (m : Nat) (l' : List UInt8), x = .int .u64 m ∧ m ≤ n ∧ OwnB w.heap.size wr v' l' ∧ l' ++ put m = put n ∧ Below w.heap.size w wr) (fun x _ _ => (intOf x).toNat)
  case atStart => exact ⟨n, [], rfl, Nat.le_refl _, OwnOf.nil, rfl, Below.refl _ _⟩
  case round =>
    obtain ⟨m, l', rfl, hm, ho', he, hb'⟩ := hrel
    have hz' := hb'.size
    have hle : l'.length + (put m).length = (put n).length := by
      have := congrArg List.length he
      simpa using this
    have HE := Lib.hid he
    have hl10 : l'.length ≤ 10 := by omega
    clear he hle
    by_cases hbig : 128 ≤ m
    · have hpb := Lib.hid (put_big hbig)
      have hwr : IntKind.u64.wrap ((m : Int) / 128) = (m : Int) / 128 := by
        have := HNN.out
        rw [IntKind.wrap_u64]; omega
      have hof : (UInt8.ofNat (m % 128 + 128)).toNat = m % 128 + 128 := by rw [UInt8.toNat_ofNat']; omega
      have HOF := Lib.hid hof
      clear hof
      go_wp2_with (with_reducible first | refine stop_append ?_ | refine stop_make ?_ | refine stop_slice ?_ | refine stop_copy ?_); refine Stop.out ?_
      have hone := one_new wr (UInt8.ofNat (m % 128 + 128)) ((m : Int) % 128 + 128) (by rw [HOF.out]; omega) 5
      refine wpList_append_row (f := byteV) rfl _ _ 22 rfl w.heap.size 5 1 _ Try.underlying22 Try.infoB rfl oneB l' [UInt8.ofNat (m % 128 + 128)] (by exact ho'.alloc _) (by exact hone) (by unfold maxLen; simp; omega) (by simp; omega) (by simp; omega) w (by exact hb'.alloc hz' _) ?_
      intro v2 w2 ho2 hb2 _
      go_wp2
      go_roundw
      case rel =>
        refine ⟨m / 128, l' ++ [UInt8.ofNat (m % 128 + 128)], by simp, by omega, ho2, ?_, hb2⟩
        rw [← HE.out, hpb.out]; simp
      case measure => simp [intOf]; omega
    · have hps := Lib.hid (put_small (show m < 128 by omega))
      have hof : (UInt8.ofNat m).toNat = m := by rw [UInt8.toNat_ofNat']; omega
      have HOF := Lib.hid hof
      clear hof
      go_wp2_with (with_reducible first | refine stop_append ?_ | refine stop_make ?_ | refine stop_slice ?_ | refine stop_copy ?_); refine Stop.out ?_
      have hone := one_new wr (UInt8.ofNat m) (m : Int) (by rw [HOF.out]) 5
      refine wpList_append_row (f := byteV) rfl _ _ 22 rfl w.heap.size 5 1 _ Try.underlying22 Try.infoB rfl oneB l' [UInt8.ofNat m] (by exact ho'.alloc _) (by exact hone) (by unfold maxLen; simp; omega) (by simp; omega) (by simp; omega) w (by exact hb'.alloc hz' _) ?_
      intro v2 w2 ho2 hb2 _
      go_wp2
      go_ret
      exact ⟨v2, rfl, by rw [← HE.out, hps.out]; exact ho2, hb2⟩

set_option maxHeartbeats 800000 in
set_option maxRecDepth 100000 in
theorem Size_any (n : Nat) (w : World) (hn : n < 18446744073709551616) :
    Calls Try.prog 18 #[.int .u64 n] w fun e w' => e = .returned (.int .i64 ((put n).length : Nat)) ∧ w = w' := by
  have h10 := put_length_ten hn
  clear hn
  go_enter Try.func18, Try.ntmps18
  go_wp2_with fail
  go_loop [0, 3] (fun x s => ∃ (m k : Nat), x = .int .u64 m ∧ s = .int .i64 k ∧ 1 ≤ k ∧ k + (put m).length = 1 + (put n).length) (fun x _ => (intOf x).toNat)
  case atStart => exact ⟨n, 1, rfl, rfl, by omega, by omega⟩
  case round =>
    obtain ⟨m, k, rfl, rfl, hk1, hk⟩ := hrel
    have hk10 : k ≤ 11 := by omega
    by_cases hbig : 128 ≤ m
    · have hpb := put_big hbig
      have hk2 : (k + 1) + (put (m / 128)).length = 1 + (put n).length := by rw [hpb] at hk; simp at hk; omega
      have HK := Lib.hid hk2
      clear hk hk2 hpb
      go_wp2
      go_round
      case rel => exact ⟨m / 128, k + 1, by simp, by go_num, by omega, HK.out⟩
      case measure => simp [intOf]; omega
    · have hps := put_small (show m < 128 by omega)
      have hk2 : k = (put n).length := by rw [hps] at hk; simp at hk; omega
      have HK := Lib.hid hk2
      clear hk hk2 hps
      go_wp2
      go_ret
      exact ⟨ret_num (by rw [HK.out]), rfl⟩

theorem u8and (c : Nat) (h : c < 256) : bits .and .u8 (c : Int) 127 = ((c % 128 : Nat) : Int) := by
  have := u8_and_nat c 127 h (by omega)
  rw [nat_mask7] at this; exact this

/-- One group more. -/
theorem group_or (n g i : Nat) (hn : n < 128 ^ i) (hi : i ≤ 9) (hg : g < 128) (h9 : i = 9 → g ≤ 1) :
    bits .or .u64 (n : Int) (IntKind.u64.wrap ((g : Int) * 2 ^ (7 * i))) = ((n + g * 128 ^ i : Nat) : Int) := by
  have e2 : 2 ^ (7 * i) = 128 ^ i := by rw [Nat.pow_mul]
  have e3 : ((g : Int) * 2 ^ (7 * i)) = ((g * 128 ^ i : Nat) : Int) := by rw [← e2]; simp
  have hlt : g * 128 ^ i < 18446744073709551616 := by
    by_cases h : i = 9
    · subst h
      have := h9 rfl
      have : g * 128 ^ 9 ≤ 1 * 128 ^ 9 := Nat.mul_le_mul_right _ this
      exact Nat.lt_of_le_of_lt this (by decide)
    · have h1 : 128 ^ i ≤ 128 ^ 8 := Nat.pow_le_pow_right (by decide) (by omega)
      have h2 : g * 128 ^ i ≤ 127 * 128 ^ 8 := Nat.mul_le_mul (by omega) h1
      exact Nat.lt_of_le_of_lt h2 (by decide)
  have hlt2 : n < 18446744073709551616 := Nat.lt_of_lt_of_le hn (Nat.le_trans (Nat.pow_le_pow_right (by decide) hi) (by decide))
  have hw : IntKind.u64.wrap ((g * 128 ^ i : Nat) : Int) = ((g * 128 ^ i : Nat) : Int) := by rw [IntKind.wrap_u64]; omega
  rw [e3, hw, u64_or_nat _ _ hlt2 hlt]
  congr 1
  have h7 := Nat.two_pow_add_eq_or_of_lt (i := 7 * i) (b := n) (by rw [e2]; exact hn) g
  rw [e2, Nat.mul_comm (128 ^ i) g] at h7
  rw [Nat.or_comm, ← h7, Nat.add_comm]

def getV (r : Nat × Nat × Nat) : Value := .tuple #[.int .u64 r.1, .int .i64 r.2.1, .int .i64 r.2.2]
theorem ret_get {n s e : Int} {r : Nat × Nat × Nat} (h1 : n = r.1) (h2 : s = r.2.1) (h3 : e = r.2.2) : Ending.returned (.tuple #[.int .u64 n, .int .i64 s, .int .i64 e]) = .returned (getV r) := by
  rw [h1, h2, h3]; rfl

set_option maxHeartbeats 800000 in
set_option maxRecDepth 100000 in
theorem Get_any (v : Value) (l : List UInt8) (w : World) (hv : BytesAt w v l) :
    Calls Try.prog 13 #[v] w fun e w' => e = .returned (getV (get l)) ∧ w = w' := by
  obtain ⟨a, cap, rfl, hl, hm, hn⟩ := hv.len
  unfold maxLen at hm
  go_enter Try.func13, Try.ntmps13
  go_wp2_with fail
  go_loop [2, 7] (fun x i => ∃ k n : Nat, k ≤ 9 ∧ k ≤ l.length ∧ i = .int .i64 k ∧ x = .int .u64 n ∧ n < 128 ^ k ∧ get l = getF (l.drop k) k n) (fun _ i => 10 - (intOf i).toNat)
  case atStart => exact ⟨0, 0, by omega, by omega, rfl, rfl, by simp, by simp [get]⟩
  case round =>
    obtain ⟨k, n, hk, hkl, rfl, rfl, hnk, hg⟩ := hrel
    by_cases h : k < l.length
    · obtain ⟨b, off, rfl, hb, hc⟩ := hv.at h
      have hck := hc k h
      have hdr : l.drop k = l[k] :: l.drop (k + 1) := List.drop_eq_getElem_cons h
      rw [hdr] at hg
      generalize l[k] = c at *
      have hc256 := c.toNat_lt
      simp only [getF] at hg
      clear hc hdr hv
      by_cases h9 : k = 9 ∧ 1 < c.toNat
      · rw [if_pos h9] at hg
        obtain ⟨rfl, h1⟩ := h9
        have HG := Lib.hid hg
        clear hg hnk
        go_wp2
        go_ret3
        exact ⟨by rw [HG.out]; rfl, rfl⟩
      · rw [if_neg h9] at hg
        have hgo := group_or n (c.toNat % 128) k hnk hk (by omega) (by omega)
        have hand := u8and c.toNat hc256
        rw [show ((c.toNat % 128 : Nat) : Int) = (c.toNat : Int) % 128 by simp] at hgo
        by_cases hb : 128 ≤ c.toNat
        · rw [if_pos hb] at hg
          have hk9 : k < 9 := by omega
          have hnk2 : n + c.toNat % 128 * 128 ^ k < 128 ^ (k + 1) := by
            have : c.toNat % 128 * 128 ^ k ≤ 127 * 128 ^ k := Nat.mul_le_mul_right _ (by omega)
            rw [Nat.pow_succ]; omega
          have HG := Lib.hid hg
          have HGO := Lib.hid hgo
          have HNK := Lib.hid hnk2
          clear hg hgo hnk hnk2 h9
          go_wp2
          all_goals go_round
          case rel => exact ⟨k + 1, n + c.toNat % 128 * 128 ^ k, by omega, by omega, by go_num, by rw [HGO.out], HNK.out, HG.out⟩
          case measure => simp [intOf]; omega
        · rw [if_neg hb] at hg
          have hgo2 : (n + c.toNat % 128 * 128 ^ k : Nat) = n + c.toNat * 128 ^ k := by rw [Nat.mod_eq_of_lt (by omega)]
          rw [hgo2] at hgo
          have HGO := Lib.hid hgo
          clear hgo hgo2
          by_cases hc0 : c.toNat = 0
          · by_cases hk0 : 0 < k
            · rw [if_pos ⟨hc0, hk0⟩] at hg
              have HG := Lib.hid hg
              have H9 := Lib.hid h9
              have hb0 : ((c.toNat : Int) == 0) = true := by simp; omega
              have hk1 : decide (0 < (k : Int)) = true := by simp; omega
              have hc1 : ¬ 1 < c.toNat := by omega
              clear hg hnk h9 hc0
              go_wp2
              all_goals go_ret3
              all_goals exact ⟨by rw [HG.out]; rfl, rfl⟩
            · rw [if_neg (by omega)] at hg
              have HG := Lib.hid hg
              have hk1 : decide (0 < (k : Int)) = false := by simp; omega
              have hb0 : ((c.toNat : Int) == 0) = true := by simp; omega
              have hc1 : ¬ 1 < c.toNat := by omega
              clear hg hnk h9 hc0
              go_wp2
              all_goals go_ret3
              all_goals exact ⟨by rw [HG.out]; exact ret_get HGO.out (by simp) rfl, rfl⟩
          · rw [if_neg (by omega)] at hg
            have HG := Lib.hid hg
            have hb0 : ((c.toNat : Int) == 0) = false := by simp; omega
            clear hg hnk hc0
            by_cases hk9 : k = 9
            · have hc1 : ¬ 1 < c.toNat := by omega
              have hke : ((k : Int) == 9) = true := by simp; omega
              clear h9 hk9
              go_wp2
              all_goals go_ret3
              all_goals exact ⟨by rw [HG.out]; exact ret_get HGO.out (by simp) rfl, rfl⟩
            · have hke : ((k : Int) == 9) = false := by simp; omega
              clear h9 hk9
              go_wp2
              all_goals go_ret3
              all_goals exact ⟨by rw [HG.out]; exact ret_get HGO.out (by simp) rfl, rfl⟩
    · obtain rfl : k = l.length := by omega
      have hd : l.drop l.length = [] := by simp
      rw [hd] at hg
      simp only [getF] at hg
      have HG := Lib.hid hg
      clear hg hnk
      go_wp2
      go_ret3
      exact ⟨by rw [HG.out]; rfl, rfl⟩
end Go.Proofs.Ytoccanppfdeggaa
