/-
  DERIVED. GIVEN WITH THE SEED: THE CARDS: each row of YthlmnbklhjcpnaaDoorRows.lean that lists a variable, with what it lists TIED to the program's text (the seventh form; the later family's looks); each row that meets fmt, with fmt's text TOLD by the authors' own Lean function (tested against real Go, not proved from fmt's source: count such statements apart). THE CARD IS WHAT COUNTS. Prove the row's statement (the work); the ties are given (YthlmnbklhjcpnaaDoorTie.lean); close each card by the builder's one call (the guide's Derived/Test/ToyasCard.lean, 'card_holds'). Laid BY PROGRAM, IN A SANDBOX (cutbox-door.mjs). By AI agents, Wed Nov 11 2026. No macro, syntax, notation, axiom, sorry.
-/
import Derived.Test.YthlmnbklhjcpnaaDoorRows
import GoSem.ClaimSeven
namespace Go.Proofs.YthlmnbklhjcpnaaDoor
namespace Rows

/-- THE TIED CARD OF 'tabulariumlaw02.UtfAll'. -/
def utfAllCard : Claim7 := { stood := { row := utfAllRow, standIns := [], harness := (true, "cd2adc3e658efe4af387be917ecbc142828fcb09f87249ea7edeea01afbede75"), looks := false }, kinds := [], alts := [], laidByText := true, laidKinds := [.data], laidTests := true, laidLooks := .later }
def UtfAllCardSaid : Prop := Claim7.holds Tryd.pinned (.plain (OpenSpec.ofChange utfAllSpec)) utfAllCard

/-- THE TIED CARD OF 'tabulariumlaw02.UtfOrder'. -/
def utfOrderCard : Claim7 := { stood := { row := utfOrderRow, standIns := [], harness := (true, "cd2adc3e658efe4af387be917ecbc142828fcb09f87249ea7edeea01afbede75"), looks := false }, kinds := [], alts := [], laidByText := true, laidKinds := [.data], laidTests := true, laidLooks := .later }
def UtfOrderCardSaid : Prop := Claim7.holds Tryd.pinned (.plain (OpenSpec.ofChange utfOrderSpec)) utfOrderCard

/-- THE TIED CARD OF 'tabulariumlaw02.UtfPuts'. -/
def utfPutsCard : Claim7 := { stood := { row := utfPutsRow, standIns := [], harness := (true, "cd2adc3e658efe4af387be917ecbc142828fcb09f87249ea7edeea01afbede75"), looks := false }, kinds := [], alts := [], laidByText := true, laidKinds := [.data], laidTests := true, laidLooks := .later }
def UtfPutsCardSaid : Prop := Claim7.holds Tryd.pinned (.plain (OpenSpec.ofChange utfPutsSpec)) utfPutsCard

/-- THE TIED CARD OF 'tabulariumlaw02.UtfValid'. -/
def utfValidCard : Claim7 := { stood := { row := utfValidRow, standIns := [], harness := (true, "cd2adc3e658efe4af387be917ecbc142828fcb09f87249ea7edeea01afbede75"), looks := false }, kinds := [], alts := [], laidByText := true, laidKinds := [.data], laidTests := true, laidLooks := .later }
def UtfValidCardSaid : Prop := Claim7.holds Tryd.pinned (.plain (OpenSpec.ofChange utfValidSpec)) utfValidCard

/-- THE TIED CARD OF 'tabulariumlaw02.UtfJoins'. -/
def utfJoinsCard : Claim7 := { stood := { row := utfJoinsRow, standIns := [], harness := (true, "cd2adc3e658efe4af387be917ecbc142828fcb09f87249ea7edeea01afbede75"), looks := false }, kinds := [], alts := [], laidByText := true, laidKinds := [.data], laidTests := true, laidLooks := .later }
def UtfJoinsCardSaid : Prop := Claim7.holds Tryd.pinned (.plain (OpenSpec.ofChange utfJoinsSpec)) utfJoinsCard

/-- THE SECOND FORM's CARD OF 'tabulariumlaw02.UtfAll'. -/
def utfAllUptoCard : Claim7 := { stood := { row := utfAllUptoRow, standIns := [], harness := (true, "cd2adc3e658efe4af387be917ecbc142828fcb09f87249ea7edeea01afbede75"), looks := false }, kinds := [], alts := [], laidByText := true, laidKinds := [.data], laidTests := true, laidLooks := .later }
def UtfAllUptoCardSaid : Prop := Claim7.holds Tryd.pinned (.plain (OpenSpec.upto utfAllSpec)) utfAllUptoCard

/-- THE SECOND FORM's CARD OF 'tabulariumlaw02.UtfOrder'. -/
def utfOrderUptoCard : Claim7 := { stood := { row := utfOrderUptoRow, standIns := [], harness := (true, "cd2adc3e658efe4af387be917ecbc142828fcb09f87249ea7edeea01afbede75"), looks := false }, kinds := [], alts := [], laidByText := true, laidKinds := [.data], laidTests := true, laidLooks := .later }
def UtfOrderUptoCardSaid : Prop := Claim7.holds Tryd.pinned (.plain (OpenSpec.upto utfOrderSpec)) utfOrderUptoCard

/-- THE SECOND FORM's CARD OF 'tabulariumlaw02.UtfPuts'. -/
def utfPutsUptoCard : Claim7 := { stood := { row := utfPutsUptoRow, standIns := [], harness := (true, "cd2adc3e658efe4af387be917ecbc142828fcb09f87249ea7edeea01afbede75"), looks := false }, kinds := [], alts := [], laidByText := true, laidKinds := [.data], laidTests := true, laidLooks := .later }
def UtfPutsUptoCardSaid : Prop := Claim7.holds Tryd.pinned (.plain (OpenSpec.upto utfPutsSpec)) utfPutsUptoCard

/-- THE SECOND FORM's CARD OF 'tabulariumlaw02.UtfValid'. -/
def utfValidUptoCard : Claim7 := { stood := { row := utfValidUptoRow, standIns := [], harness := (true, "cd2adc3e658efe4af387be917ecbc142828fcb09f87249ea7edeea01afbede75"), looks := false }, kinds := [], alts := [], laidByText := true, laidKinds := [.data], laidTests := true, laidLooks := .later }
def UtfValidUptoCardSaid : Prop := Claim7.holds Tryd.pinned (.plain (OpenSpec.upto utfValidSpec)) utfValidUptoCard

/-- THE SECOND FORM's CARD OF 'tabulariumlaw02.UtfJoins'. -/
def utfJoinsUptoCard : Claim7 := { stood := { row := utfJoinsUptoRow, standIns := [], harness := (true, "cd2adc3e658efe4af387be917ecbc142828fcb09f87249ea7edeea01afbede75"), looks := false }, kinds := [], alts := [], laidByText := true, laidKinds := [.data], laidTests := true, laidLooks := .later }
def UtfJoinsUptoCardSaid : Prop := Claim7.holds Tryd.pinned (.plain (OpenSpec.upto utfJoinsSpec)) utfJoinsUptoCard
end Rows
end Go.Proofs.YthlmnbklhjcpnaaDoor
