/- What the row's list gives: the cells of the table of sizes. -/
import Derived.Test.YtpcfhiipkbpmkaaDoorRows
import Derived.Test.YtpcfhiipkbpmkaaDoorUtfA
import Derived.Lib.LaidTab
namespace Go.Proofs.YtpcfhiipkbpmkaaDoor
open Go.RowKit Go.Tab

theorem gTab : Tryd.prog.globalNamed "tabularium/utf.sizes" = some 7 := by kernel_rfl
theorem gTabType : (Tryd.prog.globals[7]?).map (·.type) = some 182 := by kernel_rfl
theorem cellsTab : Tryd.prog.cellsOf 182 = 32 := by kernel_rfl
theorem cellsInt : Tryd.prog.cellsOf 3 = 1 := by kernel_rfl
def sizesZ : List Int := [1, 1, 1, 1, 1, 1, 1, 1, 1, 1, 1, 1, 1, 1, 1, 1, 0, 0, 0, 0, 0, 0, 0, 0, 2, 2, 2, 2, 3, 3, 4, 0]
theorem sizes_are : ∀ j : Fin 32, sizesZ.getD j.val 0 = ((sizeOf8 (8 * j.val) : Nat) : Int) := by decide +kernel
theorem tab_of {W : World} (h : laidMet Tryd.prog [("tabularium/utf.sizes", Rows.laid_tabularium_utf_sizes)] W) : Tab W := by
  intro j hj
  have t : Lib.TabIs Tryd.prog W "tabularium/utf.sizes" .i64 sizesZ := Lib.tabIs_of_head (rest := []) gTab gTabType Tryd.underlying182 Tryd.underlying3 cellsInt cellsTab h
  have hc := t.cell gTab j (by simpa [sizesZ] using hj)
  rw [hc, show sizesZ.getD j 0 = _ from sizes_are ⟨j, hj⟩]
end Go.Proofs.YtpcfhiipkbpmkaaDoor
