/- The walk of side (layer 6): on which side of nought a number is. -/
import Derived.Test.YthiggalnjjcejaaDoorNuP
namespace Go.Proofs.YthiggalnjjcejaaDoor
set_option linter.unusedSimpArgs false
set_option linter.unusedVariables false
open Go.RowKit Go.Tab

set_option maxHeartbeats 2000000 in
set_option maxRecDepth 100000 in
theorem side_any (neg : Bool) (d : ByteArray) (e : Int) (w : World) :
    Calls Tryd.prog 40 #[.agg #[.bool neg, .string d, .int .i64 e]] w fun r w' => r = .returned (.int .i64 (sideN neg d)) ∧ Below w.heap.size w w' := by
  have hb0 : Below w.heap.size w (w.alloc (.cells #[.bool neg, .string d, .int .i64 e] 24)) := (Below.refl _ w).alloc (Nat.le_refl _) _
  by_cases h0 : d.size = 0
  · have hR := Lib.hid (show sideN neg d = 0 by rw [sideN, if_pos h0])
    have hd : d = ⟨#[]⟩ := emp_of h0
    subst hd
    clear h0
    go_enter Tryd.func40, Tryd.ntmps40
    go_wp2
    go_ret
    exact ⟨by rw [hR.out]; rfl, hb0⟩
  · have hd : d.toList.isEmpty = false := ne_emp h0
    cases neg
    · have hR := Lib.hid (show sideN false d = 1 by rw [sideN, if_neg h0]; rfl)
      clear h0
      go_enter Tryd.func40, Tryd.ntmps40
      go_wp2
      go_ret
      exact ⟨by rw [hR.out]; rfl, hb0⟩
    · have hR := Lib.hid (show sideN true d = -1 by rw [sideN, if_neg h0]; rfl)
      clear h0
      go_enter Tryd.func40, Tryd.ntmps40
      go_wp2
      go_ret
      exact ⟨by rw [hR.out]; rfl, hb0⟩
end Go.Proofs.YthiggalnjjcejaaDoor
