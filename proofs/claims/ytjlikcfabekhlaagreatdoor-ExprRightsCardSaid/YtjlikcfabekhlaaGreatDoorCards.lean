/-
  DERIVED. GIVEN WITH THE SEED: THE CARDS: each row of YtjlikcfabekhlaaGreatDoorRows.lean that lists a variable, with what it lists TIED to the program's text (the seventh form; the later family's looks); each row that meets fmt, with fmt's text TOLD by the authors' own Lean function (tested against real Go, not proved from fmt's source: count such statements apart). THE CARD IS WHAT COUNTS. Prove the row's statement (the work); the ties are given (YtjlikcfabekhlaaGreatDoorTie.lean); close each card by the builder's one call (the guide's Derived/Test/ToyasCard.lean, 'card_holds'). Laid BY PROGRAM, IN A SANDBOX (cutbox-door.mjs). By AI agents, Wed Nov 11 2026. No macro, syntax, notation, axiom, sorry.
-/
import Derived.Test.YtjlikcfabekhlaaGreatDoorRows
import GoSem.ClaimSeven
namespace Go.Proofs.YtjlikcfabekhlaaGreatDoor
namespace Rows

/-- THE TIED CARD OF 'tabulariumlaw12.ExprBraces'. -/
def exprBracesCard : Claim7 := { stood := { row := exprBracesRow, standIns := [], harness := (true, "923ab740612aad9089159ff2ecefb01ac026e760fcc809e44b6367ecc16d2cae"), looks := true }, kinds := [], alts := [], laidByText := true, laidKinds := [.data, .data, .data, .data, .pinned], laidTests := true, laidLooks := .later }
def ExprBracesCardSaid : Prop := Claim7.holds Tryz.pinned (.plain (OpenSpec.ofChange exprBracesSpec)) exprBracesCard

/-- THE TIED CARD OF 'tabulariumlaw12.ExprRights'. -/
def exprRightsCard : Claim7 := { stood := { row := exprRightsRow, standIns := [], harness := (true, "923ab740612aad9089159ff2ecefb01ac026e760fcc809e44b6367ecc16d2cae"), looks := true }, kinds := [], alts := [], laidByText := true, laidKinds := [.data, .data, .data, .data, .pinned], laidTests := true, laidLooks := .later }
def ExprRightsCardSaid : Prop := Claim7.holds Tryz.pinned (.plain (OpenSpec.ofChange exprRightsSpec)) exprRightsCard

/-- THE TIED CARD OF 'tabulariumlaw13.BodyJoins'. -/
def bodyJoinsCard : Claim7 := { stood := { row := bodyJoinsRow, standIns := [], harness := (true, "923ab740612aad9089159ff2ecefb01ac026e760fcc809e44b6367ecc16d2cae"), looks := true }, kinds := [], alts := [], laidByText := true, laidKinds := [.data, .data, .data, .data, .pinned], laidTests := true, laidLooks := .later }
def BodyJoinsCardSaid : Prop := Claim7.holds Tryz.pinned (.plain (OpenSpec.ofChange bodyJoinsSpec)) bodyJoinsCard

/-- THE TIED CARD OF 'tabulariumlaw13.BodyComments'. -/
def bodyCommentsCard : Claim7 := { stood := { row := bodyCommentsRow, standIns := [], harness := (true, "923ab740612aad9089159ff2ecefb01ac026e760fcc809e44b6367ecc16d2cae"), looks := true }, kinds := [], alts := [], laidByText := true, laidKinds := [.data, .data, .data, .data, .pinned], laidTests := true, laidLooks := .later }
def BodyCommentsCardSaid : Prop := Claim7.holds Tryz.pinned (.plain (OpenSpec.ofChange bodyCommentsSpec)) bodyCommentsCard

/-- THE TIED CARD OF 'tabulariumlaw13.BodySame'. -/
def bodySameCard : Claim7 := { stood := { row := bodySameRow, standIns := [], harness := (true, "923ab740612aad9089159ff2ecefb01ac026e760fcc809e44b6367ecc16d2cae"), looks := true }, kinds := [], alts := [], laidByText := true, laidKinds := [.data, .data, .data, .data, .pinned], laidTests := true, laidLooks := .later }
def BodySameCardSaid : Prop := Claim7.holds Tryz.pinned (.plain (OpenSpec.ofChange bodySameSpec)) bodySameCard

/-- THE TIED CARD OF 'tabulariumlaw14.ShowLeast'. -/
def showLeastCard : Claim7 := { stood := { row := showLeastRow, standIns := [], harness := (true, "923ab740612aad9089159ff2ecefb01ac026e760fcc809e44b6367ecc16d2cae"), looks := true }, kinds := [], alts := [], laidByText := true, laidKinds := [.data, .data, .data, .data, .pinned], laidTests := true, laidLooks := .later }
def ShowLeastCardSaid : Prop := Claim7.holds Tryz.pinned (.plain (OpenSpec.ofChange showLeastSpec)) showLeastCard

/-- THE TIED CARD OF 'tabulariumlaw14.ShowParsed'. -/
def showParsedCard : Claim7 := { stood := { row := showParsedRow, standIns := [], harness := (true, "923ab740612aad9089159ff2ecefb01ac026e760fcc809e44b6367ecc16d2cae"), looks := true }, kinds := [], alts := [], laidByText := true, laidKinds := [.data, .data, .data, .data, .pinned], laidTests := true, laidLooks := .later }
def ShowParsedCardSaid : Prop := Claim7.holds Tryz.pinned (.plain (OpenSpec.ofChange showParsedSpec)) showParsedCard

/-- THE TIED CARD OF 'tabulariumlaw14.ShowTokens'. -/
def showTokensCard : Claim7 := { stood := { row := showTokensRow, standIns := [], harness := (true, "923ab740612aad9089159ff2ecefb01ac026e760fcc809e44b6367ecc16d2cae"), looks := true }, kinds := [], alts := [], laidByText := true, laidKinds := [.data, .data, .data, .data, .pinned], laidTests := true, laidLooks := .later }
def ShowTokensCardSaid : Prop := Claim7.holds Tryz.pinned (.plain (OpenSpec.ofChange showTokensSpec)) showTokensCard

/-- THE TIED CARD OF 'tabulariumlaw14.ShowExprs'. -/
def showExprsCard : Claim7 := { stood := { row := showExprsRow, standIns := [], harness := (true, "923ab740612aad9089159ff2ecefb01ac026e760fcc809e44b6367ecc16d2cae"), looks := true }, kinds := [], alts := [], laidByText := true, laidKinds := [.data, .data, .data, .data, .pinned], laidTests := true, laidLooks := .later }
def ShowExprsCardSaid : Prop := Claim7.holds Tryz.pinned (.plain (OpenSpec.ofChange showExprsSpec)) showExprsCard

/-- THE SECOND FORM's CARD OF 'tabulariumlaw12.ExprBraces'. -/
def exprBracesUptoCard : Claim7 := { stood := { row := exprBracesUptoRow, standIns := [], harness := (true, "923ab740612aad9089159ff2ecefb01ac026e760fcc809e44b6367ecc16d2cae"), looks := true }, kinds := [], alts := [], laidByText := true, laidKinds := [.data, .data, .data, .data, .pinned], laidTests := true, laidLooks := .later }
def ExprBracesUptoCardSaid : Prop := Claim7.holds Tryz.pinned (.plain (OpenSpec.upto exprBracesSpec)) exprBracesUptoCard

/-- THE SECOND FORM's CARD OF 'tabulariumlaw12.ExprRights'. -/
def exprRightsUptoCard : Claim7 := { stood := { row := exprRightsUptoRow, standIns := [], harness := (true, "923ab740612aad9089159ff2ecefb01ac026e760fcc809e44b6367ecc16d2cae"), looks := true }, kinds := [], alts := [], laidByText := true, laidKinds := [.data, .data, .data, .data, .pinned], laidTests := true, laidLooks := .later }
def ExprRightsUptoCardSaid : Prop := Claim7.holds Tryz.pinned (.plain (OpenSpec.upto exprRightsSpec)) exprRightsUptoCard

/-- THE SECOND FORM's CARD OF 'tabulariumlaw13.BodyJoins'. -/
def bodyJoinsUptoCard : Claim7 := { stood := { row := bodyJoinsUptoRow, standIns := [], harness := (true, "923ab740612aad9089159ff2ecefb01ac026e760fcc809e44b6367ecc16d2cae"), looks := true }, kinds := [], alts := [], laidByText := true, laidKinds := [.data, .data, .data, .data, .pinned], laidTests := true, laidLooks := .later }
def BodyJoinsUptoCardSaid : Prop := Claim7.holds Tryz.pinned (.plain (OpenSpec.upto bodyJoinsSpec)) bodyJoinsUptoCard

/-- THE SECOND FORM's CARD OF 'tabulariumlaw13.BodyComments'. -/
def bodyCommentsUptoCard : Claim7 := { stood := { row := bodyCommentsUptoRow, standIns := [], harness := (true, "923ab740612aad9089159ff2ecefb01ac026e760fcc809e44b6367ecc16d2cae"), looks := true }, kinds := [], alts := [], laidByText := true, laidKinds := [.data, .data, .data, .data, .pinned], laidTests := true, laidLooks := .later }
def BodyCommentsUptoCardSaid : Prop := Claim7.holds Tryz.pinned (.plain (OpenSpec.upto bodyCommentsSpec)) bodyCommentsUptoCard

/-- THE SECOND FORM's CARD OF 'tabulariumlaw13.BodySame'. -/
def bodySameUptoCard : Claim7 := { stood := { row := bodySameUptoRow, standIns := [], harness := (true, "923ab740612aad9089159ff2ecefb01ac026e760fcc809e44b6367ecc16d2cae"), looks := true }, kinds := [], alts := [], laidByText := true, laidKinds := [.data, .data, .data, .data, .pinned], laidTests := true, laidLooks := .later }
def BodySameUptoCardSaid : Prop := Claim7.holds Tryz.pinned (.plain (OpenSpec.upto bodySameSpec)) bodySameUptoCard

/-- THE SECOND FORM's CARD OF 'tabulariumlaw14.ShowLeast'. -/
def showLeastUptoCard : Claim7 := { stood := { row := showLeastUptoRow, standIns := [], harness := (true, "923ab740612aad9089159ff2ecefb01ac026e760fcc809e44b6367ecc16d2cae"), looks := true }, kinds := [], alts := [], laidByText := true, laidKinds := [.data, .data, .data, .data, .pinned], laidTests := true, laidLooks := .later }
def ShowLeastUptoCardSaid : Prop := Claim7.holds Tryz.pinned (.plain (OpenSpec.upto showLeastSpec)) showLeastUptoCard

/-- THE SECOND FORM's CARD OF 'tabulariumlaw14.ShowParsed'. -/
def showParsedUptoCard : Claim7 := { stood := { row := showParsedUptoRow, standIns := [], harness := (true, "923ab740612aad9089159ff2ecefb01ac026e760fcc809e44b6367ecc16d2cae"), looks := true }, kinds := [], alts := [], laidByText := true, laidKinds := [.data, .data, .data, .data, .pinned], laidTests := true, laidLooks := .later }
def ShowParsedUptoCardSaid : Prop := Claim7.holds Tryz.pinned (.plain (OpenSpec.upto showParsedSpec)) showParsedUptoCard

/-- THE SECOND FORM's CARD OF 'tabulariumlaw14.ShowTokens'. -/
def showTokensUptoCard : Claim7 := { stood := { row := showTokensUptoRow, standIns := [], harness := (true, "923ab740612aad9089159ff2ecefb01ac026e760fcc809e44b6367ecc16d2cae"), looks := true }, kinds := [], alts := [], laidByText := true, laidKinds := [.data, .data, .data, .data, .pinned], laidTests := true, laidLooks := .later }
def ShowTokensUptoCardSaid : Prop := Claim7.holds Tryz.pinned (.plain (OpenSpec.upto showTokensSpec)) showTokensUptoCard

/-- THE SECOND FORM's CARD OF 'tabulariumlaw14.ShowExprs'. -/
def showExprsUptoCard : Claim7 := { stood := { row := showExprsUptoRow, standIns := [], harness := (true, "923ab740612aad9089159ff2ecefb01ac026e760fcc809e44b6367ecc16d2cae"), looks := true }, kinds := [], alts := [], laidByText := true, laidKinds := [.data, .data, .data, .data, .pinned], laidTests := true, laidLooks := .later }
def ShowExprsUptoCardSaid : Prop := Claim7.holds Tryz.pinned (.plain (OpenSpec.upto showExprsSpec)) showExprsUptoCard
end Rows
end Go.Proofs.YtjlikcfabekhlaaGreatDoor
