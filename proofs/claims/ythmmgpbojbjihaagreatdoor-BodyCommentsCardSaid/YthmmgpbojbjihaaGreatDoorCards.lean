/-
  DERIVED. GIVEN WITH THE SEED: THE CARDS: each row of YthmmgpbojbjihaaGreatDoorRows.lean that lists a variable, with what it lists TIED to the program's text (the seventh form; the later family's looks); each row that meets fmt, with fmt's text TOLD by the authors' own Lean function (tested against real Go, not proved from fmt's source: count such statements apart). THE CARD IS WHAT COUNTS. Prove the row's statement (the work); the ties are given (YthmmgpbojbjihaaGreatDoorTie.lean); close each card by the builder's one call (the guide's Derived/Test/ToyasCard.lean, 'card_holds'). Laid BY PROGRAM, IN A SANDBOX (cutbox-door.mjs). By AI agents, Wed Nov 11 2026. No macro, syntax, notation, axiom, sorry.
-/
import Derived.Test.YthmmgpbojbjihaaGreatDoorRows
import GoSem.ClaimSeven
namespace Go.Proofs.YthmmgpbojbjihaaGreatDoor
namespace Rows

/-- THE TIED CARD OF 'tabulariumlaw13.BodyJoins'. -/
def bodyJoinsCard : Claim7 := { stood := { row := bodyJoinsRow, standIns := [], harness := (true, "567a9d3776f40f1c813454227717152566e5a11dffd1aded49bcd7f6e6599cd4"), looks := true }, kinds := [], alts := [], laidByText := true, laidKinds := [.data, .data, .data, .data, .pinned], laidTests := true, laidLooks := .later }
def BodyJoinsCardSaid : Prop := Claim7.holds Tryz.pinned (.plain (OpenSpec.ofChange bodyJoinsSpec)) bodyJoinsCard

/-- THE TIED CARD OF 'tabulariumlaw13.BodyComments'. -/
def bodyCommentsCard : Claim7 := { stood := { row := bodyCommentsRow, standIns := [], harness := (true, "567a9d3776f40f1c813454227717152566e5a11dffd1aded49bcd7f6e6599cd4"), looks := true }, kinds := [], alts := [], laidByText := true, laidKinds := [.data, .data, .data, .data, .pinned], laidTests := true, laidLooks := .later }
def BodyCommentsCardSaid : Prop := Claim7.holds Tryz.pinned (.plain (OpenSpec.ofChange bodyCommentsSpec)) bodyCommentsCard

/-- THE TIED CARD OF 'tabulariumlaw13.BodySame'. -/
def bodySameCard : Claim7 := { stood := { row := bodySameRow, standIns := [], harness := (true, "567a9d3776f40f1c813454227717152566e5a11dffd1aded49bcd7f6e6599cd4"), looks := true }, kinds := [], alts := [], laidByText := true, laidKinds := [.data, .data, .data, .data, .pinned], laidTests := true, laidLooks := .later }
def BodySameCardSaid : Prop := Claim7.holds Tryz.pinned (.plain (OpenSpec.ofChange bodySameSpec)) bodySameCard

/-- THE SECOND FORM's CARD OF 'tabulariumlaw13.BodyJoins'. -/
def bodyJoinsUptoCard : Claim7 := { stood := { row := bodyJoinsUptoRow, standIns := [], harness := (true, "567a9d3776f40f1c813454227717152566e5a11dffd1aded49bcd7f6e6599cd4"), looks := true }, kinds := [], alts := [], laidByText := true, laidKinds := [.data, .data, .data, .data, .pinned], laidTests := true, laidLooks := .later }
def BodyJoinsUptoCardSaid : Prop := Claim7.holds Tryz.pinned (.plain (OpenSpec.upto bodyJoinsSpec)) bodyJoinsUptoCard

/-- THE SECOND FORM's CARD OF 'tabulariumlaw13.BodyComments'. -/
def bodyCommentsUptoCard : Claim7 := { stood := { row := bodyCommentsUptoRow, standIns := [], harness := (true, "567a9d3776f40f1c813454227717152566e5a11dffd1aded49bcd7f6e6599cd4"), looks := true }, kinds := [], alts := [], laidByText := true, laidKinds := [.data, .data, .data, .data, .pinned], laidTests := true, laidLooks := .later }
def BodyCommentsUptoCardSaid : Prop := Claim7.holds Tryz.pinned (.plain (OpenSpec.upto bodyCommentsSpec)) bodyCommentsUptoCard

/-- THE SECOND FORM's CARD OF 'tabulariumlaw13.BodySame'. -/
def bodySameUptoCard : Claim7 := { stood := { row := bodySameUptoRow, standIns := [], harness := (true, "567a9d3776f40f1c813454227717152566e5a11dffd1aded49bcd7f6e6599cd4"), looks := true }, kinds := [], alts := [], laidByText := true, laidKinds := [.data, .data, .data, .data, .pinned], laidTests := true, laidLooks := .later }
def BodySameUptoCardSaid : Prop := Claim7.holds Tryz.pinned (.plain (OpenSpec.upto bodySameSpec)) bodySameUptoCard
end Rows
end Go.Proofs.YthmmgpbojbjihaaGreatDoor
