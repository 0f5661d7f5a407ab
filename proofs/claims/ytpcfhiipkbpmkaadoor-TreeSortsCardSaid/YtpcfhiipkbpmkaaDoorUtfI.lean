/- The walks of the reference's Bad, Valid and All (layer 2). -/
import Derived.Test.YtpcfhiipkbpmkaaDoorUtfH
namespace Go.Proofs.YtpcfhiipkbpmkaaDoor
open Go.RowKit Go.Tab

set_option maxHeartbeats 800000 in
set_option maxRecDepth 100000 in
theorem rBad_any (s : ByteArray) (w : World) (hs : s.size ≤ 1000000) :
    Calls Tryd.prog 140 #[.string s] w fun e w' => e = .returned (.int .i64 (badV (scan (bs s) 0).2)) ∧ Below w.heap.size w w' := by
  go_enter Tryd.func140, Tryd.ntmps140
  go_wp2_with fail
  go_loopw [3] (fun i wr => ∃ (k : Nat) (pre : List (Nat × Nat)), i = .int .i64 k ∧ k ≤ s.size ∧ Rest (bs s) k pre ∧ Below w.heap.size w wr) (fun i _ => s.size - (intOf i).toNat)
  case atStart => exact ⟨0, [], rfl, Nat.zero_le _, Rest.zero _, Below.refl _ _⟩
  case round =>
    obtain ⟨k, pre, rfl, hk, hr, hb⟩ := hrel
    have HR := Lib.hid hr
    have hz := hb.size
    clear hr
    by_cases h : k < s.size
    · obtain ⟨c, n, h1⟩ : ∃ c n, oneN ((bs s).drop k) = (c, n) := ⟨_, _, rfl⟩
      have hle := (oneN_le ((bs s).drop k) (fun x hx => bs_lt x (List.mem_of_mem_drop hx))).1
      have hF := One_any s k wr hs hk
      rw [h1] at hF hle
      simp only [List.length_drop, bs_length] at hle
      have H1 := Lib.hid h1
      clear h1
      by_cases hn : n = 0
      · subst hn
        have h2 := Lib.hid (HR.out.bad (by rw [bs_length]; exact h) (by rw [H1.out]))
        go_wp2_with fail
        refine hF.mono ?_
        clear hF
        rintro e w1 ⟨rfl, hb1⟩
        have hb2 := hb.trans (hb1.mono hz)
        go_wp2
        go_ret
        rw [h2.out]
        exact ⟨rfl, hb2⟩
      · have h2 := Lib.hid (HR.out.good (by rw [bs_length]; exact h) H1.out hn)
        have hbn : ((n : Int) == 0) = false := by rw [beq_eq_false_iff_ne]; omega
        have hn1 : 1 ≤ n := by omega
        clear hn
        go_wp2_with fail
        refine hF.mono ?_
        clear hF
        rintro e w1 ⟨rfl, hb1⟩
        have hb2 := hb.trans (hb1.mono hz)
        go_wp2
        go_roundw
        case rel => exact ⟨k + n, _, by go_num, by omega, h2.out, hb2⟩
        case measure => simp [intOf]; omega
    · have h2 := Lib.hid (HR.out.done (by rw [bs_length]; omega))
      go_wp2
      go_ret
      rw [h2.out]
      exact ⟨rfl, hb⟩

set_option maxHeartbeats 800000 in
set_option maxRecDepth 100000 in
theorem rValid_any (s : ByteArray) (w : World) (hs : s.size ≤ 1000000) :
    Calls Tryd.prog 111 #[.string s] w fun e w' => e = .returned (.bool (scan (bs s) 0).2.isNone) ∧ Below w.heap.size w w' := by
  go_enter Tryd.func111, Tryd.ntmps111
  go_wp2_with fail
  refine (rBad_any s w hs).mono ?_
  rintro e w1 ⟨rfl, hb⟩
  have h := badV_neg (scan (bs s) 0).2
  generalize badV (scan (bs s) 0).2 = b at *
  go_wp2
  go_ret
  exact ⟨rfl, hb⟩

end Go.Proofs.YtpcfhiipkbpmkaaDoor
