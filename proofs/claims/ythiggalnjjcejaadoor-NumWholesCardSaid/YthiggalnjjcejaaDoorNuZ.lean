/- What the rows' lists give: the tables that the walks of numbers read (layer 6). -/
import Derived.Test.YthiggalnjjcejaaDoorRows
import Derived.Test.YthiggalnjjcejaaDoorNuK
namespace Go.Proofs.YthiggalnjjcejaaDoor
set_option linter.unusedSimpArgs false
set_option linter.unusedVariables false
open Go.RowKit Go.Tab

def stepsZ : List (List Int) := [[1, 9, 2, 3, 9, 9, 9], [9, 9, 2, 3, 9, 9, 9], [9, 9, 9, 9, 4, 6, 9], [9, 9, 3, 3, 4, 6, 9], [9, 9, 5, 5, 9, 9, 9], [9, 9, 5, 5, 9, 6, 9], [7, 7, 8, 8, 9, 9, 9], [9, 9, 8, 8, 9, 9, 9], [9, 9, 8, 8, 9, 9, 9]]
theorem steps_are : ∀ j : Fin 63, ((stepsZ.getD (j.val / 7) []).getD (j.val % 7) 0) = ((stepsN.getD j.val 9 : Nat) : Int) := by decide +kernel
theorem gSteps : Tryd.prog.globalNamed "tabularium/num.steps" = some 0 := by kernel_rfl
theorem tSteps : (Tryd.prog.globals[0]?).map (·.type) = some 53 := by kernel_rfl
theorem tPow : (Tryd.prog.globals[4]?).map (·.type) = some 117 := by kernel_rfl
theorem c1 : Tryd.prog.cellsOf 3 = 1 := by kernel_rfl
theorem c7 : Tryd.prog.cellsOf 52 = 7 := by kernel_rfl
theorem c63 : Tryd.prog.cellsOf 53 = 9 * 7 := by kernel_rfl
theorem cu1 : Tryd.prog.cellsOf 40 = 1 := by kernel_rfl
theorem c20 : Tryd.prog.cellsOf 117 = 20 := by kernel_rfl
theorem dPow : (Rows.laid_internal_strconv_uint64pow10 : DataW Unit) = Lib.tabData .u64 Lib.pow10Tab := by kernel_rfl
theorem dSteps : (Rows.laid_tabularium_num_steps : DataW Unit) = .agg (stepsZ.map fun zs => Lib.tabData .i64 zs) := by kernel_rfl
theorem rows7 : ∀ a : Fin 9, (stepsZ.getD a.val []).length = 7 := by decide +kernel
theorem numTab_of {L : List (String × DataW Unit)} {W : World} (hL : laidMetH Tryd.prog L W) (hf : (L.filter fun x => x.2.handleName?.isSome) = [])
    (h1 : ("internal/strconv.uint64pow10", Rows.laid_internal_strconv_uint64pow10) ∈ L) (h2 : ("tabularium/num.steps", Rows.laid_tabularium_num_steps) ∈ L) : NumTab W := by
  have met := met_of hL hf
  have l1 := laid_of_met met h1
  have l2 := laid_of_met met h2
  rw [dPow] at l1
  rw [dSteps] at l2
  refine ⟨fun j hj => ?_, l1.tab gPow tPow Tryd.underlying117 Tryd.underlying40 cu1 c20⟩
  have ha : j / 7 < stepsZ.length := by show j / 7 < 9; omega
  have hg : stepsZ.getD (j / 7) [] = stepsZ[j / 7] := by rw [List.getD_eq_getElem?_getD, List.getElem?_eq_getElem ha]; rfl
  have hr := rows7 ⟨j / 7, ha⟩
  simp only [hg] at hr
  have hb : j % 7 < (stepsZ[j / 7]).length := by rw [hr]; omega
  have h3 := l2.tabs gSteps tSteps Tryd.underlying53 Tryd.underlying52 Tryd.underlying3 c1 c7 c63 (j / 7) (j % 7) ha hb (by omega)
  rw [show j / 7 * 7 + j % 7 = j by omega] at h3
  rw [h3]
  have h4 := steps_are ⟨j, hj⟩
  simp only [hg] at h4
  rw [List.getD_eq_getElem?_getD, List.getElem?_eq_getElem hb] at h4
  rw [← h4]
  rfl
theorem tab_of_NumParses {W : World} (hL : laidMetH Tryd.prog Rows.numParsesRow.laid W) : NumTab W := numTab_of hL (by kernel_rfl) (.tail _ (.tail _ (.head _))) (.tail _ (.tail _ (.tail _ (.tail _ (.head _)))))
theorem tab_of_NumPrints {W : World} (hL : laidMetH Tryd.prog Rows.numPrintsRow.laid W) : NumTab W := numTab_of hL (by kernel_rfl) (.tail _ (.tail _ (.head _))) (.tail _ (.tail _ (.tail _ (.tail _ (.head _)))))
theorem tab_of_NumWays {W : World} (hL : laidMetH Tryd.prog Rows.numWaysRow.laid W) : NumTab W := numTab_of hL (by kernel_rfl) (.tail _ (.tail _ (.head _))) (.tail _ (.tail _ (.tail _ (.tail _ (.head _)))))
theorem tab_of_NumCompares {W : World} (hL : laidMetH Tryd.prog Rows.numComparesRow.laid W) : NumTab W := numTab_of hL (by kernel_rfl) (.tail _ (.tail _ (.head _))) (.tail _ (.tail _ (.tail _ (.tail _ (.head _)))))
theorem tab_of_NumOrder {W : World} (hL : laidMetH Tryd.prog Rows.numOrderRow.laid W) : NumTab W := numTab_of hL (by kernel_rfl) (.tail _ (.tail _ (.head _))) (.tail _ (.tail _ (.tail _ (.tail _ (.head _)))))
end Go.Proofs.YthiggalnjjcejaaDoor
