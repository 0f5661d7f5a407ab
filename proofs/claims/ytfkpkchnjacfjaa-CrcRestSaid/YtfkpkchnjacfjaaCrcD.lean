/- The walk of CrcRest: it returns true. -/
import Derived.Test.YtfkpkchnjacfjaaCrcC
namespace Go.Proofs.Ytfkpkchnjacfjaa
open Go.RowKit Go.Tab

set_option maxHeartbeats 400000 in
theorem CrcRest_walk (a0 : Value) (l0 : List UInt8) (w : World) (w0 : BytesAt w a0 l0) :
    Calls Try.prog 4 #[a0] w fun e w' => e = .returned (.bool true) ∧ Below w.heap.size w w' := by
  obtain ⟨a, cap, rfl, hl, hm, hn⟩ := w0.len
  have hrest := Lib.hid (sum_rest l0)
  unfold maxLen at hm
  by_cases h : 2000 < l0.length
  · have hd : decide (2000 < (l0.length : Int)) = true := by simp; omega
    go_enter Try.func4, Try.ntmps4
    go_wp2_with fail
    refine (wakes_any w).mono ?_
    rintro e w1 ⟨rfl, hb1⟩
    go_wp2
    go_ret
    exact ⟨rfl, hb1⟩
  · have hd : decide (2000 < (l0.length : Int)) = false := by simp; omega
    go_enter Try.func4, Try.ntmps4
    go_wp2_with fail
    refine (wakes_any w).mono ?_
    rintro e w1 ⟨rfl, hb1⟩
    have hz1 := hb1.size
    go_wp2_with fail
    refine (Seal_any _ l0 w1 (w0.below hb1 (Nat.le_refl _)) (by omega)).mono ?_
    rintro e w2 ⟨v2, rfl, ho2, hb2⟩
    have hz2 := hb2.size
    go_wp2_with fail
    refine (Of_any _ _ w2 ho2.row).mono ?_
    rintro e w3 ⟨rfl, hb3⟩
    rw [hrest.out]
    go_wp2
    go_ret
    exact ⟨rfl, (hb1.trans (hb2.mono hz1)).trans (hb3.mono (by omega))⟩
end Go.Proofs.Ytfkpkchnjacfjaa
