/-
  DERIVED. GIVEN WITH THE SEED: THE CARDS: each row of YtgmpmolfcaihfaaGreatDoorRows.lean that lists a variable, with what it lists TIED to the program's text (the seventh form; the later family's looks); each row that meets fmt, with fmt's text TOLD by the authors' own Lean function (tested against real Go, not proved from fmt's source: count such statements apart). THE CARD IS WHAT COUNTS. Prove the row's statement (the work); the ties are given (YtgmpmolfcaihfaaGreatDoorTie.lean); close each card by the builder's one call (the guide's Derived/Test/ToyasCard.lean, 'card_holds'). Laid BY PROGRAM, IN A SANDBOX (cutbox-door.mjs). By AI agents, Wed Nov 11 2026. No macro, syntax, notation, axiom, sorry.
-/
import Derived.Test.YtgmpmolfcaihfaaGreatDoorRows
import GoSem.ClaimSeven
namespace Go.Proofs.YtgmpmolfcaihfaaGreatDoor
namespace Rows

/-- THE TIED CARD OF 'tabulariumlaw16.TidyWell'. -/
def tidyWellCard : Claim7 := { stood := { row := tidyWellRow, standIns := [], harness := (true, "0633ca660674c0ee04cb34980d94732e5243dac71d0a1f01b2282282744ae931"), looks := true }, kinds := [], alts := [], laidByText := true, laidKinds := [.data, .data, .data, .data, .pinned], laidTests := true, laidLooks := .later }
def TidyWellCardSaid : Prop := Claim7.holds Tryz.pinned (.plain (OpenSpec.ofChange tidyWellSpec)) tidyWellCard

/-- THE SECOND FORM's CARD OF 'tabulariumlaw16.TidyWell'. -/
def tidyWellUptoCard : Claim7 := { stood := { row := tidyWellUptoRow, standIns := [], harness := (true, "0633ca660674c0ee04cb34980d94732e5243dac71d0a1f01b2282282744ae931"), looks := true }, kinds := [], alts := [], laidByText := true, laidKinds := [.data, .data, .data, .data, .pinned], laidTests := true, laidLooks := .later }
def TidyWellUptoCardSaid : Prop := Claim7.holds Tryz.pinned (.plain (OpenSpec.upto tidyWellSpec)) tidyWellUptoCard
end Rows
end Go.Proofs.YtgmpmolfcaihfaaGreatDoor
