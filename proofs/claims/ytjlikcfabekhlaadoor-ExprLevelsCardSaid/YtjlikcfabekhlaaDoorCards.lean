/-
  DERIVED. GIVEN WITH THE SEED: THE CARDS: each row of YtjlikcfabekhlaaDoorRows.lean that lists a variable, with what it lists TIED to the program's text (the seventh form; the later family's looks); each row that meets fmt, with fmt's text TOLD by the authors' own Lean function (tested against real Go, not proved from fmt's source: count such statements apart). THE CARD IS WHAT COUNTS. Prove the row's statement (the work); the ties are given (YtjlikcfabekhlaaDoorTie.lean); close each card by the builder's one call (the guide's Derived/Test/ToyasCard.lean, 'card_holds'). Laid BY PROGRAM, IN A SANDBOX (cutbox-door.mjs). By AI agents, Wed Nov 11 2026. No macro, syntax, notation, axiom, sorry.
-/
import Derived.Test.YtjlikcfabekhlaaDoorRows
import GoSem.ClaimSeven
namespace Go.Proofs.YtjlikcfabekhlaaDoor
namespace Rows

/-- THE TIED CARD OF 'tabulariumlaw12.ExprLevels'. -/
def exprLevelsCard : Claim7 := { stood := { row := exprLevelsRow, standIns := [], harness := (true, "541597196c8f5da2ccd16936ab65134b28017f7ee5eb163dbec97f23e5a76621"), looks := true }, kinds := [], alts := [], laidByText := true, laidKinds := [.data, .data, .data, .data, .pinned], laidTests := true, laidLooks := .later }
def ExprLevelsCardSaid : Prop := Claim7.holds Tryd.pinned (.plain (OpenSpec.ofChange exprLevelsSpec)) exprLevelsCard

/-- THE TIED CARD OF 'tabulariumlaw12.ExprSame'. -/
def exprSameCard : Claim7 := { stood := { row := exprSameRow, standIns := [], harness := (true, "541597196c8f5da2ccd16936ab65134b28017f7ee5eb163dbec97f23e5a76621"), looks := true }, kinds := [], alts := [], laidByText := true, laidKinds := [.data, .data, .data, .data, .pinned], laidTests := true, laidLooks := .later }
def ExprSameCardSaid : Prop := Claim7.holds Tryd.pinned (.plain (OpenSpec.ofChange exprSameSpec)) exprSameCard

/-- THE SECOND FORM's CARD OF 'tabulariumlaw12.ExprLevels'. -/
def exprLevelsUptoCard : Claim7 := { stood := { row := exprLevelsUptoRow, standIns := [], harness := (true, "541597196c8f5da2ccd16936ab65134b28017f7ee5eb163dbec97f23e5a76621"), looks := true }, kinds := [], alts := [], laidByText := true, laidKinds := [.data, .data, .data, .data, .pinned], laidTests := true, laidLooks := .later }
def ExprLevelsUptoCardSaid : Prop := Claim7.holds Tryd.pinned (.plain (OpenSpec.upto exprLevelsSpec)) exprLevelsUptoCard

/-- THE SECOND FORM's CARD OF 'tabulariumlaw12.ExprSame'. -/
def exprSameUptoCard : Claim7 := { stood := { row := exprSameUptoRow, standIns := [], harness := (true, "541597196c8f5da2ccd16936ab65134b28017f7ee5eb163dbec97f23e5a76621"), looks := true }, kinds := [], alts := [], laidByText := true, laidKinds := [.data, .data, .data, .data, .pinned], laidTests := true, laidLooks := .later }
def ExprSameUptoCardSaid : Prop := Claim7.holds Tryd.pinned (.plain (OpenSpec.upto exprSameSpec)) exprSameUptoCard
end Rows
end Go.Proofs.YtjlikcfabekhlaaDoor
