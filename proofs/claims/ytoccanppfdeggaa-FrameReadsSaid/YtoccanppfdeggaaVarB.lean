/- Contracts of tabulariumref04.Get and of the examples. No condition. -/
import Derived.Test.YtoccanppfdeggaaVarA
namespace Go.Proofs.Ytoccanppfdeggaa
open Go.RowKit Go.Tab

def getA (r : Nat × Nat × Nat) : Value := .agg #[.int .u64 r.1, .int .i64 r.2.1, .int .i64 r.2.2]

theorem wraps (n g q : Nat) (h : n + g * q < 18446744073709551616) : IntKind.u64.wrap ((g : Int) * (q : Int)) = (g : Int) * (q : Int) ∧ IntKind.u64.wrap ((n : Int) + (g : Int) * (q : Int)) = (n : Int) + (g : Int) * (q : Int) := by
  have e : ((g : Int) * (q : Int)) = ((g * q : Nat) : Int) := by simp
  rw [e, IntKind.wrap_u64, IntKind.wrap_u64]
  omega
theorem fits (n g k : Nat) (hn : n < 128 ^ k) (hk : k ≤ 9) (hg : g < 128) (h9 : k = 9 → g ≤ 1) : n + g * 128 ^ k < 18446744073709551616 := by
  by_cases h : k = 9
  · subst h
    have := h9 rfl
    have : g * 128 ^ 9 ≤ 1 * 128 ^ 9 := Nat.mul_le_mul_right _ this
    have e : 128 ^ 9 = 9223372036854775808 := by decide
    omega
  · have h1 : 128 ^ (k + 1) ≤ 128 ^ 9 := Nat.pow_le_pow_right (by decide) (by omega)
    have e : 128 ^ 9 = 9223372036854775808 := by decide
    have h2 : g * 128 ^ k ≤ 127 * 128 ^ k := Nat.mul_le_mul_right _ (by omega)
    rw [Nat.pow_succ] at h1
    omega
theorem ret_getA {n s e : Int} {r : Nat × Nat × Nat} (h1 : n = r.1) (h2 : s = r.2.1) (h3 : e = r.2.2) : Ending.returned (.agg #[.int .u64 n, .int .i64 s, .int .i64 e]) = .returned (getA r) := by
  rw [h1, h2, h3]; rfl

set_option maxHeartbeats 800000 in
set_option maxRecDepth 100000 in
theorem rGet_any (v : Value) (l : List UInt8) (w : World) (hv : BytesAt w v l) :
    Calls Try.prog 14 #[v] w fun e w' => e = .returned (getA (get l)) ∧ Below w.heap.size w w' := by
  have hvk := hv
  obtain ⟨a, cap, rfl, hl, hm, hn⟩ := hv.len
  unfold maxLen at hm
  go_enter Try.func14, Try.ntmps14
  go_wp2_with fail
  go_loop [3, 4, 5] (fun x p i => ∃ k n : Nat, k ≤ 9 ∧ k ≤ l.length ∧ i = .int .i64 k ∧ x = .int .u64 n ∧ p = .int .u64 (128 ^ k : Nat) ∧ n < 128 ^ k ∧ get l = getF (l.drop k) k n) (fun _ _ i => 10 - (intOf i).toNat)
  case atStart => exact ⟨0, 0, by omega, by omega, rfl, rfl, rfl, by simp, by simp [get]⟩
  case round =>
    obtain ⟨k, n, hk, hkl, rfl, rfl, rfl, hnk, hg⟩ := hrel
    by_cases h : k < l.length
    · obtain ⟨b, off, rfl, hb, hc⟩ := (hvk.alloc (.cells #[.int .u64 0, .int .i64 0, .int .i64 0] 29)).at h
      have hck := hc k h
      have hdr : l.drop k = l[k] :: l.drop (k + 1) := List.drop_eq_getElem_cons h
      rw [hdr] at hg
      generalize l[k] = c at *
      have hc256 := c.toNat_lt
      simp only [getF] at hg
      clear hc hdr hv hvk
      by_cases h9 : k = 9 ∧ 1 < c.toNat
      · rw [if_pos h9] at hg
        obtain ⟨rfl, h1⟩ := h9
        have HG := Lib.hid hg
        clear hg hnk
        clear hm hk hkl
        generalize 128 ^ 9 = q at *
        by_cases hcb : 128 ≤ c.toNat
        · go_wp2
          all_goals refine bodyPost_ret (v := .agg #[.int .u64 0, .int .i64 0, .int .i64 4]) (by simp [results, Try.results14, go_sem]) rfl ⟨by rw [HG.out]; exact ret_getA rfl rfl rfl, ?_⟩
          all_goals exact (Below.refl _ _).alloc (Nat.le_refl _) _
        · have hg1 : ((c.toNat : Int) % 128) = (c.toNat : Int) := by omega
          go_wp2
          all_goals refine bodyPost_ret (v := .agg #[.int .u64 0, .int .i64 0, .int .i64 4]) (by simp [results, Try.results14, go_sem]) rfl ⟨by rw [HG.out]; exact ret_getA rfl rfl rfl, ?_⟩
          all_goals exact (Below.refl _ _).alloc (Nat.le_refl _) _
      · rw [if_neg h9] at hg
        have hfit := fits n (c.toNat % 128) k hnk hk (by omega) (by omega)
        obtain ⟨hw1, hw2⟩ := wraps n (c.toNat % 128) (128 ^ k) hfit
        rw [show ((c.toNat % 128 : Nat) : Int) = (c.toNat : Int) % 128 by simp] at hw1 hw2
        clear hfit
        by_cases hcb : 128 ≤ c.toNat
        · rw [if_pos hcb] at hg
          have hk9 : k < 9 := by omega
          have hnk2 : n + c.toNat % 128 * 128 ^ k < 128 ^ (k + 1) := by
            have : c.toNat % 128 * 128 ^ k ≤ 127 * 128 ^ k := Nat.mul_le_mul_right _ (by omega)
            rw [Nat.pow_succ]; omega
          have hw3 : IntKind.u64.wrap (((128 ^ k : Nat) : Int) * 128) = ((128 ^ k : Nat) : Int) * 128 := by
            have h1 : 128 ^ k ≤ 128 ^ 8 := Nat.pow_le_pow_right (by decide) (by omega)
            have e : 128 ^ 8 = 72057594037927936 := by decide
            rw [IntKind.wrap_u64]; omega
          have hps : 128 ^ (k + 1) = 128 ^ k * 128 := Nat.pow_succ 128 k
          have HP := Lib.hid hps
          have HNK := Lib.hid hnk2
          have hke : ((k : Int) == 9) = false := by simp; omega
          have HG := Lib.hid hg
          have hb0 : ((c.toNat : Int) == 0) = false := by simp; omega
          clear hg hnk hnk2 hps h9
          generalize 128 ^ k = q at *
          go_wp2
          all_goals go_round
          case rel => exact ⟨k + 1, n + c.toNat % 128 * q, by omega, by omega, by go_num, by go_num, by rw [HP.out]; go_num, HNK.out, HG.out⟩
          case measure => simp [intOf]; omega
        · rw [if_neg hcb] at hg
          have hmod : c.toNat % 128 = c.toNat := Nat.mod_eq_of_lt (by omega)
          by_cases hc0 : c.toNat = 0 ∧ 0 < k
          · rw [if_pos hc0] at hg
            obtain ⟨hc0, hk0⟩ := hc0
            have HG := Lib.hid hg
            have hb0 : ((c.toNat : Int) == 0) = true := by simp; omega
            have hz0 : ¬ 1 < c.toNat % 128 := by omega
            clear hg hnk h9 hw1 hw2 hc0 hmod
            generalize 128 ^ k = q at *
            by_cases hk9 : k = 9
            · have hke : ((k : Int) == 9) = true := by simp; omega
              clear hk9
              go_wp2
              all_goals refine bodyPost_ret (v := .agg #[.int .u64 0, .int .i64 0, .int .i64 3]) (by simp [results, Try.results14, go_sem]) rfl ⟨by rw [HG.out]; exact ret_getA rfl rfl rfl, ?_⟩
              all_goals exact (Below.refl _ _).alloc (Nat.le_refl _) _
            · have hke : ((k : Int) == 9) = false := by simp; omega
              clear hk9
              go_wp2
              all_goals refine bodyPost_ret (v := .agg #[.int .u64 0, .int .i64 0, .int .i64 3]) (by simp [results, Try.results14, go_sem]) rfl ⟨by rw [HG.out]; exact ret_getA rfl rfl rfl, ?_⟩
              all_goals exact (Below.refl _ _).alloc (Nat.le_refl _) _
          · rw [if_neg hc0] at hg
            have HG := Lib.hid hg
            have HV : Hid (((n : Int) + (c.toNat : Int) % 128 * ((128 ^ k : Nat) : Int)) = ((n + c.toNat * 128 ^ k : Nat) : Int)) := by
              show _ = _
              rw [show (c.toNat : Int) % 128 = (c.toNat : Int) by omega]; simp
            have hz9 : k = 9 → c.toNat ≤ 1 := by omega
            by_cases hk9 : k = 9
            · have hc1 := hz9 hk9
              have hc2 : ¬ 1 < c.toNat % 128 := by omega
              have hb0 : ((c.toNat : Int) == 0) = false := by simp; omega
              have hke : ((k : Int) == 9) = true := by simp; omega
              clear hg hnk h9 hc0 hmod hz9 hk9
              generalize 128 ^ k = q at *
              go_wp2
              all_goals refine bodyPost_ret (v := .agg #[.int .u64 ((n : Int) + (c.toNat : Int) % 128 * (q : Int)), .int .i64 ((k : Int) + 1), .int .i64 0]) (by simp [results, Try.results14, go_sem]) rfl ⟨by rw [HG.out]; exact ret_getA HV.out (by simp) rfl, ?_⟩
              all_goals exact (Below.refl _ _).alloc (Nat.le_refl _) _
            · have hke : ((k : Int) == 9) = false := by simp; omega
              by_cases hcz : c.toNat = 0
              · have hb0 : ((c.toNat : Int) == 0) = true := by simp; omega
                have hkz : ¬ 0 < k := by omega
                clear hg hnk h9 hc0 hmod hz9 hk9 hcz
                generalize 128 ^ k = q at *
                go_wp2
                all_goals refine bodyPost_ret (v := .agg #[.int .u64 ((n : Int) + (c.toNat : Int) % 128 * (q : Int)), .int .i64 ((k : Int) + 1), .int .i64 0]) (by simp [results, Try.results14, go_sem]) rfl ⟨by rw [HG.out]; exact ret_getA HV.out (by simp) rfl, ?_⟩
                all_goals exact (Below.refl _ _).alloc (Nat.le_refl _) _
              · have hb0 : ((c.toNat : Int) == 0) = false := by simp; omega
                clear hg hnk h9 hc0 hmod hz9 hk9 hcz
                generalize 128 ^ k = q at *
                go_wp2
                all_goals refine bodyPost_ret (v := .agg #[.int .u64 ((n : Int) + (c.toNat : Int) % 128 * (q : Int)), .int .i64 ((k : Int) + 1), .int .i64 0]) (by simp [results, Try.results14, go_sem]) rfl ⟨by rw [HG.out]; exact ret_getA HV.out (by simp) rfl, ?_⟩
                all_goals exact (Below.refl _ _).alloc (Nat.le_refl _) _
    · obtain rfl : k = l.length := by omega
      have hd : l.drop l.length = [] := by simp
      rw [hd] at hg
      simp only [getF] at hg
      have HG := Lib.hid hg
      clear hg hnk
      generalize 128 ^ l.length = q at *
      go_wp2
      refine bodyPost_ret (v := .agg #[.int .u64 0, .int .i64 0, .int .i64 2]) (by simp [results, Try.results14, go_sem]) rfl ⟨by rw [HG.out]; rfl, ?_⟩
      exact (Below.refl _ _).alloc (Nat.le_refl _) _
end Go.Proofs.Ytoccanppfdeggaa
