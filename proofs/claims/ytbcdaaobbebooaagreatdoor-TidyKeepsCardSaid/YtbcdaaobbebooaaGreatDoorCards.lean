/-
  DERIVED. GIVEN WITH THE SEED: THE CARDS: each row of YtbcdaaobbebooaaGreatDoorRows.lean that lists a variable, with what it lists TIED to the program's text (the seventh form; the later family's looks); each row that meets fmt, with fmt's text TOLD by the authors' own Lean function (tested against real Go, not proved from fmt's source: count such statements apart). THE CARD IS WHAT COUNTS. Prove the row's statement (the work); the ties are given (YtbcdaaobbebooaaGreatDoorTie.lean); close each card by the builder's one call (the guide's Derived/Test/ToyasCard.lean, 'card_holds'). Laid BY PROGRAM, IN A SANDBOX (cutbox-door.mjs). By AI agents, Wed Nov 11 2026. No macro, syntax, notation, axiom, sorry.
-/
import Derived.Test.YtbcdaaobbebooaaGreatDoorRows
import GoSem.ClaimSeven
namespace Go.Proofs.YtbcdaaobbebooaaGreatDoor
namespace Rows

/-- THE TIED CARD OF 'tabulariumlaw15.LookGaps'. -/
def lookGapsCard : Claim7 := { stood := { row := lookGapsRow, standIns := [], harness := (true, "aa8f02ce803d8a23edb8388f9cd220ab31e15a4f6419a8d4f59858770ce72130"), looks := true }, kinds := [], alts := [], laidByText := true, laidKinds := [.data, .data, .data, .data, .pinned], laidTests := true, laidLooks := .later }
def LookGapsCardSaid : Prop := Claim7.holds Tryz.pinned (.plain (OpenSpec.ofChange lookGapsSpec)) lookGapsCard

/-- THE TIED CARD OF 'tabulariumlaw16.TidyForms'. -/
def tidyFormsCard : Claim7 := { stood := { row := tidyFormsRow, standIns := [], harness := (true, "aa8f02ce803d8a23edb8388f9cd220ab31e15a4f6419a8d4f59858770ce72130"), looks := true }, kinds := [], alts := [], laidByText := true, laidKinds := [.data, .data, .data, .data, .pinned], laidTests := true, laidLooks := .later }
def TidyFormsCardSaid : Prop := Claim7.holds Tryz.pinned (.plain (OpenSpec.ofChange tidyFormsSpec)) tidyFormsCard

/-- THE TIED CARD OF 'tabulariumlaw16.TidyBlanks'. -/
def tidyBlanksCard : Claim7 := { stood := { row := tidyBlanksRow, standIns := [], harness := (true, "aa8f02ce803d8a23edb8388f9cd220ab31e15a4f6419a8d4f59858770ce72130"), looks := true }, kinds := [], alts := [], laidByText := true, laidKinds := [.data, .data, .data, .data, .pinned], laidTests := true, laidLooks := .later }
def TidyBlanksCardSaid : Prop := Claim7.holds Tryz.pinned (.plain (OpenSpec.ofChange tidyBlanksSpec)) tidyBlanksCard

/-- THE TIED CARD OF 'tabulariumlaw16.TidyMany'. -/
def tidyManyCard : Claim7 := { stood := { row := tidyManyRow, standIns := [], harness := (true, "aa8f02ce803d8a23edb8388f9cd220ab31e15a4f6419a8d4f59858770ce72130"), looks := true }, kinds := [], alts := [], laidByText := true, laidKinds := [.data, .data, .data, .data, .pinned], laidTests := true, laidLooks := .later }
def TidyManyCardSaid : Prop := Claim7.holds Tryz.pinned (.plain (OpenSpec.ofChange tidyManySpec)) tidyManyCard

/-- THE TIED CARD OF 'tabulariumlaw16.TidyKeeps'. -/
def tidyKeepsCard : Claim7 := { stood := { row := tidyKeepsRow, standIns := [], harness := (true, "aa8f02ce803d8a23edb8388f9cd220ab31e15a4f6419a8d4f59858770ce72130"), looks := true }, kinds := [], alts := [], laidByText := true, laidKinds := [.data, .data, .data, .data, .pinned], laidTests := true, laidLooks := .later }
def TidyKeepsCardSaid : Prop := Claim7.holds Tryz.pinned (.plain (OpenSpec.ofChange tidyKeepsSpec)) tidyKeepsCard

/-- THE TIED CARD OF 'tabulariumlaw16.TidyWell'. -/
def tidyWellCard : Claim7 := { stood := { row := tidyWellRow, standIns := [], harness := (true, "aa8f02ce803d8a23edb8388f9cd220ab31e15a4f6419a8d4f59858770ce72130"), looks := true }, kinds := [], alts := [], laidByText := true, laidKinds := [.data, .data, .data, .data, .pinned], laidTests := true, laidLooks := .later }
def TidyWellCardSaid : Prop := Claim7.holds Tryz.pinned (.plain (OpenSpec.ofChange tidyWellSpec)) tidyWellCard

/-- THE SECOND FORM's CARD OF 'tabulariumlaw15.LookGaps'. -/
def lookGapsUptoCard : Claim7 := { stood := { row := lookGapsUptoRow, standIns := [], harness := (true, "aa8f02ce803d8a23edb8388f9cd220ab31e15a4f6419a8d4f59858770ce72130"), looks := true }, kinds := [], alts := [], laidByText := true, laidKinds := [.data, .data, .data, .data, .pinned], laidTests := true, laidLooks := .later }
def LookGapsUptoCardSaid : Prop := Claim7.holds Tryz.pinned (.plain (OpenSpec.upto lookGapsSpec)) lookGapsUptoCard

/-- THE SECOND FORM's CARD OF 'tabulariumlaw16.TidyForms'. -/
def tidyFormsUptoCard : Claim7 := { stood := { row := tidyFormsUptoRow, standIns := [], harness := (true, "aa8f02ce803d8a23edb8388f9cd220ab31e15a4f6419a8d4f59858770ce72130"), looks := true }, kinds := [], alts := [], laidByText := true, laidKinds := [.data, .data, .data, .data, .pinned], laidTests := true, laidLooks := .later }
def TidyFormsUptoCardSaid : Prop := Claim7.holds Tryz.pinned (.plain (OpenSpec.upto tidyFormsSpec)) tidyFormsUptoCard

/-- THE SECOND FORM's CARD OF 'tabulariumlaw16.TidyBlanks'. -/
def tidyBlanksUptoCard : Claim7 := { stood := { row := tidyBlanksUptoRow, standIns := [], harness := (true, "aa8f02ce803d8a23edb8388f9cd220ab31e15a4f6419a8d4f59858770ce72130"), looks := true }, kinds := [], alts := [], laidByText := true, laidKinds := [.data, .data, .data, .data, .pinned], laidTests := true, laidLooks := .later }
def TidyBlanksUptoCardSaid : Prop := Claim7.holds Tryz.pinned (.plain (OpenSpec.upto tidyBlanksSpec)) tidyBlanksUptoCard

/-- THE SECOND FORM's CARD OF 'tabulariumlaw16.TidyMany'. -/
def tidyManyUptoCard : Claim7 := { stood := { row := tidyManyUptoRow, standIns := [], harness := (true, "aa8f02ce803d8a23edb8388f9cd220ab31e15a4f6419a8d4f59858770ce72130"), looks := true }, kinds := [], alts := [], laidByText := true, laidKinds := [.data, .data, .data, .data, .pinned], laidTests := true, laidLooks := .later }
def TidyManyUptoCardSaid : Prop := Claim7.holds Tryz.pinned (.plain (OpenSpec.upto tidyManySpec)) tidyManyUptoCard

/-- THE SECOND FORM's CARD OF 'tabulariumlaw16.TidyKeeps'. -/
def tidyKeepsUptoCard : Claim7 := { stood := { row := tidyKeepsUptoRow, standIns := [], harness := (true, "aa8f02ce803d8a23edb8388f9cd220ab31e15a4f6419a8d4f59858770ce72130"), looks := true }, kinds := [], alts := [], laidByText := true, laidKinds := [.data, .data, .data, .data, .pinned], laidTests := true, laidLooks := .later }
def TidyKeepsUptoCardSaid : Prop := Claim7.holds Tryz.pinned (.plain (OpenSpec.upto tidyKeepsSpec)) tidyKeepsUptoCard

/-- THE SECOND FORM's CARD OF 'tabulariumlaw16.TidyWell'. -/
def tidyWellUptoCard : Claim7 := { stood := { row := tidyWellUptoRow, standIns := [], harness := (true, "aa8f02ce803d8a23edb8388f9cd220ab31e15a4f6419a8d4f59858770ce72130"), looks := true }, kinds := [], alts := [], laidByText := true, laidKinds := [.data, .data, .data, .data, .pinned], laidTests := true, laidLooks := .later }
def TidyWellUptoCardSaid : Prop := Claim7.holds Tryz.pinned (.plain (OpenSpec.upto tidyWellSpec)) tidyWellUptoCard
end Rows
end Go.Proofs.YtbcdaaobbebooaaGreatDoor
