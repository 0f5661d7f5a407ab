/- What NumWholes' list gives: the tables and the errors' places; a heap in which an error is laid (layer 6). -/
import Derived.Test.YthiggalnjjcejaaDoorNuZ
import Derived.Test.YthiggalnjjcejaaDoorNuWh
namespace Go.Proofs.YthiggalnjjcejaaDoor
set_option linter.unusedSimpArgs false
set_option linter.unusedVariables false
open Go.RowKit Go.Tab

theorem tErr : (Tryd.prog.globals[3]?).map (·.type) = some 62 := by kernel_rfl
theorem tab_of_NumWholes {W : World} (hL : laidMetH Tryd.prog Rows.numWholesRow.laid W) : NumTab W ∧ ErrAt W := by
  refine ⟨numTab_of hL (by kernel_rfl) (.tail _ (.tail _ (.head _))) (.tail _ (.tail _ (.tail _ (.tail _ (.tail _ (.tail _ (.head _))))))), ?_⟩
  have met := met_of hL (by kernel_rfl)
  have l1 := laid_of_met met (.tail _ (.tail _ (.tail _ (.tail _ (.head _)))))
  exact LaidAt.iface gErr tErr Tryd.underlying62 l1
end Go.Proofs.YthiggalnjjcejaaDoor
namespace Go.Tab
/-- A heap in which an error variable is laid: a pointer to a block of its own that holds the text. -/
def layErr (g : Nat) (tp te : TypeId) (s : ByteArray) (h : Array Obj) : Array Obj :=
  (h.modify g fun o => match o with
    | .cells _ t f => .cells #[.iface tp (.pointer (some ⟨h.size, 0, none⟩))] t f
    | o => o).push (.cells #[.string s] te)
end Go.Tab
