/- Contracts of functions that the statements on sums reach. No condition but the bounds that each names. -/
import Derived.Test.YtfkpkchnjacfjaaRows
import Derived.Test.YtfkpkchnjacfjaaCrcP
import Derived.Test.YtfkpkchnjacfjaaKit
namespace Go.Proofs.Ytfkpkchnjacfjaa
open Go.RowKit Go.Tab

theorem ret_num {k : IntKind} {a b : Int} (h : a = b) : Ending.returned (.int k a) = .returned (.int k b) := by rw [h]

theorem u32_and1 (n : Nat) (h : n < 4294967296) : bits .and .u32 (n : Int) 1 = ((n % 2 : Nat) : Int) := by
  have := u32_and_nat n 1 h (by decide)
  rw [nat_mask1] at this; exact this
theorem u32_xorP (n : Nat) (h : n < 4294967296) : bits .xor .u32 (n : Int) 3988292384 = ((n ^^^ 3988292384 : Nat) : Int) :=
  u32_xor_nat n 3988292384 h (by decide)

set_option maxHeartbeats 400000 in
theorem number_any (c : Nat) (hc : c < 256) (w : World) :
    Calls Try.prog 21 #[.int .u8 c] w fun e w' => e = .returned (.int .u32 (stps 8 c : Nat)) ∧ w = w' := by
  go_enter Try.func21, Try.ntmps21
  go_wp2
  go_loop [3, 6] (fun n i => ∃ k : Nat, k ≤ 8 ∧ i = .int .i64 k ∧ n = .int .u32 (stps k c : Nat)) (fun _ i => 8 - (intOf i).toNat)
  case atStart => exact ⟨0, by omega, rfl, rfl⟩
  case round =>
    obtain ⟨k, hk, rfl, rfl⟩ := hrel
    have hlt := stps_lt k c (by omega)
    have H1 := Lib.hid (u32_and1 _ hlt)
    have H2 := Lib.hid (u32_xorP (stps k c / 2) (by omega))
    have H3 : Hid (stps (k + 1) c = if stps k c % 2 = 1 then (stps k c / 2) ^^^ 3988292384 else stps k c / 2) := Lib.hid rfl
    go_wp2
    · rename_i h1
      rw [H1.out] at h1
      go_round
      case rel => exact ⟨k + 1, by omega, by go_num, by rw [H3.out, if_pos (by simp only [beq_iff_eq] at h1; omega)]; rw [show ((stps k c : Nat) : Int) / 2 = ((stps k c / 2 : Nat) : Int) by simp, H2.out]⟩
      case measure => simp [intOf]; omega
    · rename_i h1
      rw [H1.out] at h1
      go_round
      case rel => exact ⟨k + 1, by omega, by go_num, by rw [H3.out, if_neg (by simp only [beq_eq_false_iff_ne] at h1; omega)]; simp⟩
      case measure => simp [intOf]; omega
    · obtain rfl : k = 8 := by omega
      go_ret
      exact ⟨rfl, rfl⟩

theorem number_at (x : Int) (c : Nat) (w : World) (hx : x = c) (hc : c < 256) :
    Calls Try.prog 21 #[.int .u8 x] w fun e w' => e = .returned (.int .u32 (stps 8 c : Nat)) ∧ w = w' := by
  subst hx; exact number_any c hc w

theorem New_any (w : World) : Calls Try.prog 11 #[] w fun e w' => e = .returned (.pointer (some ⟨w.heap.size, 0, none⟩)) ∧ w.alloc (.cells #[.int .u32 4294967295] 44) = w' := by
  go_enter Try.func11, Try.ntmps11
  go_wp2
  go_ret
  exact ⟨rfl, rfl⟩


theorem u32_not (n : Nat) (h : n < 4294967296) : bits .xor .u32 IntKind.u32.max (n : Int) = ((4294967295 - n : Nat) : Int) := by
  have h1 : IntKind.u32.max = 4294967295 := rfl
  have := u32_xor_nat 4294967295 n (by decide) h
  rw [h1]
  refine this.trans ?_
  congr 1
  have h2 := u32_andNot_nat 4294967295 n (by decide) h
  apply Nat.eq_of_testBit_eq
  intro i
  have h3 := @Nat.testBit_two_pow_sub_succ n 32 (by simpa using h) i
  rw [show 2 ^ 32 - (n + 1) = 4294967295 - n by omega] at h3
  rw [h3, Nat.testBit_xor]
  have h4 := Nat.testBit_two_pow_sub_one 32 i
  rw [show 2 ^ 32 - 1 = 4294967295 by decide] at h4
  rw [h4]
  by_cases hi : i < 32
  · simp [hi]
  · simp [hi]
    exact Nat.testBit_lt_two_pow (Nat.lt_of_lt_of_le (by simpa using h : n < 2 ^ 32) (Nat.pow_le_pow_right (by decide) (by omega)))

theorem Value_any (b : Nat) (n : Nat) (hb : n < 4294967296) (w : World) (hn : w.cell? ⟨b, 0, none⟩ = some (.int .u32 n)) : Calls Try.prog 13 #[.pointer (some ⟨b, 0, none⟩)] w fun e w' => e = .returned (.int .u32 (4294967295 - n : Nat)) ∧ w = w' := by
  have H := Lib.hid (u32_not n hb)
  go_enter Try.func13, Try.ntmps13
  go_wp2
  go_ret
  all_goals exact ⟨ret_num H.out, rfl⟩

theorem byte_in (n : Nat) : IntKind.u8.wrap (n : Int) = ((n % 256 : Nat) : Int) := by rw [IntKind.wrap_u8']; simp
theorem u8x (n : Nat) (c : UInt8) : bits .xor .u8 ((n : Int) % 256) (c.toNat : Int) = (((n % 256) ^^^ c.toNat : Nat) : Int) := by
  have := u8_xor_nat (n % 256) c.toNat (by omega) c.toNat_lt
  simpa using this

set_option maxHeartbeats 400000 in
theorem Add_any (b n : Nat) (v : Value) (l : List UInt8) (hb : n < 4294967296) (w : World) (hn : w.cell? ⟨b, 0, none⟩ = some (.int .u32 n)) (hf : w.frozen? ⟨b, 0, none⟩ = false)
    (hv : BytesAt w v l) : Calls Try.prog 12 #[.pointer (some ⟨b, 0, none⟩), v] w fun e w' => e = .returned (.pointer (some ⟨b, 0, none⟩)) ∧ w.setCell ⟨b, 0, none⟩ (.int .u32 (reg n l : Nat)) = w' := by
  rcases hv.cases with ⟨rfl, ax, capx, rfl, hmx, -⟩ | ⟨b2, off, cap, rfl, hl, hm, hz, hc⟩
  · go_enter Try.func12, Try.ntmps12
    go_wp2
    refine wp_loop_rounds 1 ?_
    rw [rounds_succ]
    go_wp2
    go_ret
    exact ⟨rfl, rfl⟩
  · unfold maxLen at hm
    go_enter Try.func12, Try.ntmps12
    go_wp2
    go_loop [5, 14] (fun n' i => ∃ k : Nat, k ≤ l.length ∧ i = .int .i64 k ∧ n' = .int .u32 (reg n (l.take k) : Nat)) (fun _ i => l.length - (intOf i).toNat)
    case atStart => exact ⟨0, by omega, rfl, rfl⟩
    case round =>
      obtain ⟨k, hk, rfl, rfl⟩ := hrel
      have hlt := reg_lt n (l.take k) hb
      by_cases h : k < l.length
      · have hck := hc k h
        have H2 := Lib.hid (u8x (reg n (l.take k)) l[k])
        have H3 := Lib.hid (reg_take n l k h)
        have H4 := Lib.hid (upd_table (reg n (l.take k)) l[k])
        go_wp2_with fail
        refine (number_at _ _ _ H2.out (Nat.xor_lt_two_pow (n := 8) (by omega) l[k].toNat_lt)).mono ?_
        rintro e w' ⟨rfl, rfl⟩
        have H5 := Lib.hid (u32_xor_nat (reg n (l.take k) / 256) _ (by omega) (stps_lt 8 ((reg n (l.take k) % 256) ^^^ l[k].toNat) (by have := Nat.xor_lt_two_pow (n := 8) (show reg n (l.take k) % 256 < 2 ^ 8 by omega) l[k].toNat_lt; omega)))
        go_wp2
        go_round
        case rel => exact ⟨k + 1, by omega, by go_num, by rw [H3.out, ← H4.out, ← H5.out]; simp⟩
        case measure => simp [intOf]; omega
      · obtain rfl : k = l.length := by omega
        go_wp2
        go_ret
        exact ⟨rfl, by simp⟩
end Go.Proofs.Ytfkpkchnjacfjaa
