/-
  DERIVED. GIVEN WITH THE SEED: THE CARDS: each row of YtgkgdmpbcneoiaaDoorRows.lean that lists a variable, with what it lists TIED to the program's text (the seventh form; the later family's looks); each row that meets fmt, with fmt's text TOLD by the authors' own Lean function (tested against real Go, not proved from fmt's source: count such statements apart). THE CARD IS WHAT COUNTS. Prove the row's statement (the work); the ties are given (YtgkgdmpbcneoiaaDoorTie.lean); close each card by the builder's one call (the guide's Derived/Test/ToyasCard.lean, 'card_holds'). Laid BY PROGRAM, IN A SANDBOX (cutbox-door.mjs). By AI agents, Wed Nov 11 2026. No macro, syntax, notation, axiom, sorry.
-/
import Derived.Test.YtgkgdmpbcneoiaaDoorRows
import GoSem.ClaimSeven
namespace Go.Proofs.YtgkgdmpbcneoiaaDoor
namespace Rows

/-- THE TIED CARD OF 'tabulariumlaw07.QuoteScans'. -/
def quoteScansCard : Claim7 := { stood := { row := quoteScansRow, standIns := [], harness := (true, "f4191b01f1f1fee4465236cac94d196eb61c5240fb242272ce8601490b09b06a"), looks := true }, kinds := [], alts := [], laidByText := true, laidKinds := [.data], laidTests := true, laidLooks := .later }
def QuoteScansCardSaid : Prop := Claim7.holds Tryd.pinned (.plain (OpenSpec.ofChange quoteScansSpec)) quoteScansCard

/-- THE TIED CARD OF 'tabulariumlaw07.QuoteTexts'. -/
def quoteTextsCard : Claim7 := { stood := { row := quoteTextsRow, standIns := [], harness := (true, "f4191b01f1f1fee4465236cac94d196eb61c5240fb242272ce8601490b09b06a"), looks := true }, kinds := [], alts := [], laidByText := true, laidKinds := [.data], laidTests := true, laidLooks := .later }
def QuoteTextsCardSaid : Prop := Claim7.holds Tryd.pinned (.plain (OpenSpec.ofChange quoteTextsSpec)) quoteTextsCard

/-- THE TIED CARD OF 'tabulariumlaw07.QuotePrints'. -/
def quotePrintsCard : Claim7 := { stood := { row := quotePrintsRow, standIns := [], harness := (true, "f4191b01f1f1fee4465236cac94d196eb61c5240fb242272ce8601490b09b06a"), looks := true }, kinds := [], alts := [], laidByText := true, laidKinds := [.data], laidTests := true, laidLooks := .later }
def QuotePrintsCardSaid : Prop := Claim7.holds Tryd.pinned (.plain (OpenSpec.ofChange quotePrintsSpec)) quotePrintsCard

/-- THE TIED CARD OF 'tabulariumlaw07.QuoteCuts'. -/
def quoteCutsCard : Claim7 := { stood := { row := quoteCutsRow, standIns := [], harness := (true, "f4191b01f1f1fee4465236cac94d196eb61c5240fb242272ce8601490b09b06a"), looks := true }, kinds := [], alts := [], laidByText := true, laidKinds := [.data], laidTests := true, laidLooks := .later }
def QuoteCutsCardSaid : Prop := Claim7.holds Tryd.pinned (.plain (OpenSpec.ofChange quoteCutsSpec)) quoteCutsCard

/-- THE TIED CARD OF 'tabulariumlaw07.QuoteApart'. -/
def quoteApartCard : Claim7 := { stood := { row := quoteApartRow, standIns := [], harness := (true, "f4191b01f1f1fee4465236cac94d196eb61c5240fb242272ce8601490b09b06a"), looks := true }, kinds := [], alts := [], laidByText := true, laidKinds := [.data], laidTests := true, laidLooks := .later }
def QuoteApartCardSaid : Prop := Claim7.holds Tryd.pinned (.plain (OpenSpec.ofChange quoteApartSpec)) quoteApartCard

/-- THE SECOND FORM's CARD OF 'tabulariumlaw07.QuoteScans'. -/
def quoteScansUptoCard : Claim7 := { stood := { row := quoteScansUptoRow, standIns := [], harness := (true, "f4191b01f1f1fee4465236cac94d196eb61c5240fb242272ce8601490b09b06a"), looks := true }, kinds := [], alts := [], laidByText := true, laidKinds := [.data], laidTests := true, laidLooks := .later }
def QuoteScansUptoCardSaid : Prop := Claim7.holds Tryd.pinned (.plain (OpenSpec.upto quoteScansSpec)) quoteScansUptoCard

/-- THE SECOND FORM's CARD OF 'tabulariumlaw07.QuoteTexts'. -/
def quoteTextsUptoCard : Claim7 := { stood := { row := quoteTextsUptoRow, standIns := [], harness := (true, "f4191b01f1f1fee4465236cac94d196eb61c5240fb242272ce8601490b09b06a"), looks := true }, kinds := [], alts := [], laidByText := true, laidKinds := [.data], laidTests := true, laidLooks := .later }
def QuoteTextsUptoCardSaid : Prop := Claim7.holds Tryd.pinned (.plain (OpenSpec.upto quoteTextsSpec)) quoteTextsUptoCard

/-- THE SECOND FORM's CARD OF 'tabulariumlaw07.QuotePrints'. -/
def quotePrintsUptoCard : Claim7 := { stood := { row := quotePrintsUptoRow, standIns := [], harness := (true, "f4191b01f1f1fee4465236cac94d196eb61c5240fb242272ce8601490b09b06a"), looks := true }, kinds := [], alts := [], laidByText := true, laidKinds := [.data], laidTests := true, laidLooks := .later }
def QuotePrintsUptoCardSaid : Prop := Claim7.holds Tryd.pinned (.plain (OpenSpec.upto quotePrintsSpec)) quotePrintsUptoCard

/-- THE SECOND FORM's CARD OF 'tabulariumlaw07.QuoteCuts'. -/
def quoteCutsUptoCard : Claim7 := { stood := { row := quoteCutsUptoRow, standIns := [], harness := (true, "f4191b01f1f1fee4465236cac94d196eb61c5240fb242272ce8601490b09b06a"), looks := true }, kinds := [], alts := [], laidByText := true, laidKinds := [.data], laidTests := true, laidLooks := .later }
def QuoteCutsUptoCardSaid : Prop := Claim7.holds Tryd.pinned (.plain (OpenSpec.upto quoteCutsSpec)) quoteCutsUptoCard

/-- THE SECOND FORM's CARD OF 'tabulariumlaw07.QuoteApart'. -/
def quoteApartUptoCard : Claim7 := { stood := { row := quoteApartUptoRow, standIns := [], harness := (true, "f4191b01f1f1fee4465236cac94d196eb61c5240fb242272ce8601490b09b06a"), looks := true }, kinds := [], alts := [], laidByText := true, laidKinds := [.data], laidTests := true, laidLooks := .later }
def QuoteApartUptoCardSaid : Prop := Claim7.holds Tryd.pinned (.plain (OpenSpec.upto quoteApartSpec)) quoteApartUptoCard
end Rows
end Go.Proofs.YtgkgdmpbcneoiaaDoor
