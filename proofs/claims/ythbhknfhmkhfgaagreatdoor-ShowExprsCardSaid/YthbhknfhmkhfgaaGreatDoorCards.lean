/-
  DERIVED. GIVEN WITH THE SEED: THE CARDS: each row of YthbhknfhmkhfgaaGreatDoorRows.lean that lists a variable, with what it lists TIED to the program's text (the seventh form; the later family's looks); each row that meets fmt, with fmt's text TOLD by the authors' own Lean function (tested against real Go, not proved from fmt's source: count such statements apart). THE CARD IS WHAT COUNTS. Prove the row's statement (the work); the ties are given (YthbhknfhmkhfgaaGreatDoorTie.lean); close each card by the builder's one call (the guide's Derived/Test/ToyasCard.lean, 'card_holds'). Laid BY PROGRAM, IN A SANDBOX (cutbox-door.mjs). By AI agents, Wed Nov 11 2026. No macro, syntax, notation, axiom, sorry.
-/
import Derived.Test.YthbhknfhmkhfgaaGreatDoorRows
import GoSem.ClaimSeven
namespace Go.Proofs.YthbhknfhmkhfgaaGreatDoor
namespace Rows

/-- THE TIED CARD OF 'tabulariumlaw14.ShowLeast'. -/
def showLeastCard : Claim7 := { stood := { row := showLeastRow, standIns := [], harness := (true, "cc7aec549edbf50fa75f30c02eba829e74e02f11b93c38ef9d3714a8fbb0c0b0"), looks := true }, kinds := [], alts := [], laidByText := true, laidKinds := [.data, .data, .data, .data, .pinned], laidTests := true, laidLooks := .later }
def ShowLeastCardSaid : Prop := Claim7.holds Tryz.pinned (.plain (OpenSpec.ofChange showLeastSpec)) showLeastCard

/-- THE TIED CARD OF 'tabulariumlaw14.ShowParsed'. -/
def showParsedCard : Claim7 := { stood := { row := showParsedRow, standIns := [], harness := (true, "cc7aec549edbf50fa75f30c02eba829e74e02f11b93c38ef9d3714a8fbb0c0b0"), looks := true }, kinds := [], alts := [], laidByText := true, laidKinds := [.data, .data, .data, .data, .pinned], laidTests := true, laidLooks := .later }
def ShowParsedCardSaid : Prop := Claim7.holds Tryz.pinned (.plain (OpenSpec.ofChange showParsedSpec)) showParsedCard

/-- THE TIED CARD OF 'tabulariumlaw14.ShowTokens'. -/
def showTokensCard : Claim7 := { stood := { row := showTokensRow, standIns := [], harness := (true, "cc7aec549edbf50fa75f30c02eba829e74e02f11b93c38ef9d3714a8fbb0c0b0"), looks := true }, kinds := [], alts := [], laidByText := true, laidKinds := [.data, .data, .data, .data, .pinned], laidTests := true, laidLooks := .later }
def ShowTokensCardSaid : Prop := Claim7.holds Tryz.pinned (.plain (OpenSpec.ofChange showTokensSpec)) showTokensCard

/-- THE TIED CARD OF 'tabulariumlaw14.ShowExprs'. -/
def showExprsCard : Claim7 := { stood := { row := showExprsRow, standIns := [], harness := (true, "cc7aec549edbf50fa75f30c02eba829e74e02f11b93c38ef9d3714a8fbb0c0b0"), looks := true }, kinds := [], alts := [], laidByText := true, laidKinds := [.data, .data, .data, .data, .pinned], laidTests := true, laidLooks := .later }
def ShowExprsCardSaid : Prop := Claim7.holds Tryz.pinned (.plain (OpenSpec.ofChange showExprsSpec)) showExprsCard

/-- THE SECOND FORM's CARD OF 'tabulariumlaw14.ShowLeast'. -/
def showLeastUptoCard : Claim7 := { stood := { row := showLeastUptoRow, standIns := [], harness := (true, "cc7aec549edbf50fa75f30c02eba829e74e02f11b93c38ef9d3714a8fbb0c0b0"), looks := true }, kinds := [], alts := [], laidByText := true, laidKinds := [.data, .data, .data, .data, .pinned], laidTests := true, laidLooks := .later }
def ShowLeastUptoCardSaid : Prop := Claim7.holds Tryz.pinned (.plain (OpenSpec.upto showLeastSpec)) showLeastUptoCard

/-- THE SECOND FORM's CARD OF 'tabulariumlaw14.ShowParsed'. -/
def showParsedUptoCard : Claim7 := { stood := { row := showParsedUptoRow, standIns := [], harness := (true, "cc7aec549edbf50fa75f30c02eba829e74e02f11b93c38ef9d3714a8fbb0c0b0"), looks := true }, kinds := [], alts := [], laidByText := true, laidKinds := [.data, .data, .data, .data, .pinned], laidTests := true, laidLooks := .later }
def ShowParsedUptoCardSaid : Prop := Claim7.holds Tryz.pinned (.plain (OpenSpec.upto showParsedSpec)) showParsedUptoCard

/-- THE SECOND FORM's CARD OF 'tabulariumlaw14.ShowTokens'. -/
def showTokensUptoCard : Claim7 := { stood := { row := showTokensUptoRow, standIns := [], harness := (true, "cc7aec549edbf50fa75f30c02eba829e74e02f11b93c38ef9d3714a8fbb0c0b0"), looks := true }, kinds := [], alts := [], laidByText := true, laidKinds := [.data, .data, .data, .data, .pinned], laidTests := true, laidLooks := .later }
def ShowTokensUptoCardSaid : Prop := Claim7.holds Tryz.pinned (.plain (OpenSpec.upto showTokensSpec)) showTokensUptoCard

/-- THE SECOND FORM's CARD OF 'tabulariumlaw14.ShowExprs'. -/
def showExprsUptoCard : Claim7 := { stood := { row := showExprsUptoRow, standIns := [], harness := (true, "cc7aec549edbf50fa75f30c02eba829e74e02f11b93c38ef9d3714a8fbb0c0b0"), looks := true }, kinds := [], alts := [], laidByText := true, laidKinds := [.data, .data, .data, .data, .pinned], laidTests := true, laidLooks := .later }
def ShowExprsUptoCardSaid : Prop := Claim7.holds Tryz.pinned (.plain (OpenSpec.upto showExprsSpec)) showExprsUptoCard
end Rows
end Go.Proofs.YthbhknfhmkhfgaaGreatDoor
