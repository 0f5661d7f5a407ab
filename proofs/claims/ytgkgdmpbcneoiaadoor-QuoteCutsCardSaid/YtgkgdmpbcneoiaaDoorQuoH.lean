/- The walks of the reference's smallest functions of layer 7. -/
import Derived.Test.YtgkgdmpbcneoiaaDoorQuoB
import Derived.Test.YtgkgdmpbcneoiaaDoorUtfI
namespace Go.Proofs.YtgkgdmpbcneoiaaDoor
open Go.RowKit Go.Tab

theorem rhex_some (c d : Nat) (w : World) (hc : c < 256) (h : hexV c = some d) : Calls Tryd.prog 47 #[.int .u8 (c : Int)] w fun e w' => e = .returned (.int .i64 (d : Int)) ∧ w = w' := by
  unfold hexV at h
  by_cases h1 : 48 ≤ c ∧ c ≤ 57
  · rw [if_pos h1] at h
    obtain rfl : d = c - 48 := by cases h; rfl
    clear h
    go_enter Tryd.func47, Tryd.ntmps47
    go_wp2
    go_ret
    exact ⟨ret_num (by omega), rfl⟩
  rw [if_neg h1] at h
  by_cases h2 : 97 ≤ c ∧ c ≤ 102
  · rw [if_pos h2] at h
    obtain rfl : d = c - 87 := by cases h; rfl
    clear h h1
    go_enter Tryd.func47, Tryd.ntmps47
    go_wp2
    go_ret
    exact ⟨ret_num (by omega), rfl⟩
  rw [if_neg h2] at h
  by_cases h3 : 65 ≤ c ∧ c ≤ 70
  · rw [if_pos h3] at h
    obtain rfl : d = c - 55 := by cases h; rfl
    clear h h1 h2
    go_enter Tryd.func47, Tryd.ntmps47
    go_wp2
    go_ret
    exact ⟨ret_num (by omega), rfl⟩
  · rw [if_neg h3] at h; cases h
theorem rhex_none (c : Nat) (w : World) (hc : c < 256) (h : hexV c = none) : Calls Tryd.prog 47 #[.int .u8 (c : Int)] w fun e w' => e = .returned (.int .i64 (-1)) ∧ w = w' := by
  have h4 : c < 48 ∨ (58 ≤ c ∧ c ≤ 64) ∨ (71 ≤ c ∧ c ≤ 96) ∨ 103 ≤ c := by
    unfold hexV at h
    by_cases h1 : 48 ≤ c ∧ c ≤ 57
    · rw [if_pos h1] at h; cases h
    rw [if_neg h1] at h
    by_cases h2 : 97 ≤ c ∧ c ≤ 102
    · rw [if_pos h2] at h; cases h
    rw [if_neg h2] at h
    by_cases h3 : 65 ≤ c ∧ c ≤ 70
    · rw [if_pos h3] at h; cases h
    omega
  clear h
  rcases h4 with h4 | h4 | h4 | h4
  all_goals
    go_enter Tryd.func47, Tryd.ntmps47
    go_wp2
    go_ret
    exact ⟨rfl, rfl⟩

theorem ret_two {a b : Int} {q : Nat × Nat} (h1 : a = q.1) (h2 : b = q.2) : Ending.returned (.tuple #[.int .i64 a, .int .i64 b]) = .returned (.tuple #[.int .i64 (q.1 : Int), .int .i64 (q.2 : Int)]) := by rw [h1, h2]

theorem bs_fact {s : ByteArray} {k c : Nat} {r : List Nat} (h : (bs s).drop k = c :: r) : ∃ h' : k < s.size, (s[k]'h').toNat = c := by
  obtain ⟨h1, h2⟩ := bs_at h (j := 0) (by simp)
  exact ⟨h1, h2⟩

set_option maxHeartbeats 2000000 in
set_option maxRecDepth 100000 in
theorem runit_any (s : ByteArray) (k : Nat) (w : World) (hk : k ≤ s.size) (hs : s.size ≤ 1000000) :
    Calls Tryd.prog 39 #[.string s, .int .i64 (k : Int)] w fun e w' => e = .returned (.tuple #[.int .i64 ((unitQ ((bs s).drop k)).1 : Int), .int .i64 ((unitQ ((bs s).drop k)).2 : Int)]) ∧ w = w' := by
  go_enter Tryd.func39, Tryd.ntmps39
  go_wp2_with fail
  go_loop [6, 7] (fun n i => ∃ (j m : Nat), j ≤ 4 ∧ n = .int .i64 m ∧ i = .int .i64 j ∧ m < 16 ^ j ∧ k + j ≤ s.size ∧ unitF (4 - j) m ((bs s).drop (k + j)) = unitQ ((bs s).drop k)) (fun _ i => 4 - (intOf i).toNat)
  case atStart => exact ⟨0, 0, by omega, rfl, rfl, by simp, hk, rfl⟩
  case round =>
    obtain ⟨j, m, hj, rfl, rfl, hm, hkj, hu⟩ := hrel
    by_cases hj4 : j < 4
    · obtain ⟨hm1, hm2⟩ := lim4 hj4 hm
      obtain ⟨i, hi⟩ : ∃ i, 4 - j = i + 1 := ⟨3 - j, by omega⟩
      rw [hi] at hu
      cases hr : (bs s).drop (k + j) with
      | nil =>
        rw [hr, unitF] at hu
        have HU := Lib.hid hu
        have hz := drop_nil_iff hkj hr
        have hz' : s.size ≤ k + j := by omega
        clear hu hr hi hm2 hm hz
        go_wp2
        go_ret2
        exact ⟨ret_two (by rw [← HU.out]; rfl) (by rw [← HU.out]; rfl), rfl⟩
      | cons c r =>
        obtain ⟨hd1, hd2⟩ := drop_cons hr
        rw [bs_length] at hd2
        have HR := Lib.hid (show (bs s).drop (k + (j + 1)) = r from hd1)
        have hc : c < 256 := bs_lt c (List.mem_of_mem_drop (by rw [hr]; simp))
        obtain ⟨hlt, hbv⟩ := bs_fact hr
        have hbd : (0 : Int) ≤ (k : Int) + (j : Int) ∧ (k : Int) + (j : Int) < (s.size : Int) := by omega
        rw [hr] at hu
        simp only [unitF] at hu
        clear hd1
        cases hx : hexV c with
        | none =>
          rw [hx] at hu
          have HU := Lib.hid hu
          have hH := fun W => rhex_none c W hc hx
          clear hu hr hm2 hm hi hx
          go_wp2_with fail
          refine (hH _).mono ?_
          rintro e w1 ⟨rfl, rfl⟩
          go_wp2
          go_ret2
          exact ⟨ret_two (by rw [← HU.out]; rfl) (by rw [← HU.out]; rfl), rfl⟩
        | some d =>
          rw [hx] at hu
          have HU := Lib.hid hu
          have hH := fun W => rhex_some c d W hc hx
          have hd16 : d < 16 := by
            unfold hexV at hx
            repeat' (split at hx)
            all_goals first | (cases hx; omega) | cases hx
          have hx2 := Lib.hid (hm2 d hd16)
          have HI := Lib.hid hi
          clear hu hr hm2 hm hi hx
          go_wp2_with fail
          refine (hH _).mono ?_
          rintro e w1 ⟨rfl, rfl⟩
          go_wp2
          go_round
          case rel => exact ⟨j + 1, m * 16 + d, by omega, by go_num, by go_num, hx2.out, by omega, by rw [show 4 - (j + 1) = i by have := HI.out; omega, HR.out]; exact HU.out⟩
          case measure => simp [intOf]; omega
    · obtain rfl : j = 4 := by omega
      simp only [Nat.sub_self, unitF] at hu
      have HU := Lib.hid hu
      clear hu hm
      go_wp2
      go_ret2
      exact ⟨ret_two (by rw [← HU.out]) (by rw [← HU.out]; rfl), rfl⟩
end Go.Proofs.YtgkgdmpbcneoiaaDoor
