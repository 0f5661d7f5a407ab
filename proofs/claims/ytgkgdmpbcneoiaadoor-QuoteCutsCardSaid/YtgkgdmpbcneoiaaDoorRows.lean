/-
  NARROWER THAN 'FOR EVERY INPUT', by the rows' own cells (each row's printed sentence says how): QuoteScans: laid · QuoteTexts: laid · QuotePrints: laid · QuoteCuts: laid · QuoteApart: laid.
  DERIVED. THE GIVEN ROWS OF THIS SEAT. 5 by the template 'for every input the law returns true; each argument reads behind the call as it read before'; 0 by the template 'total and deterministic' (their statements: YtgkgdmpbcneoiaaDoorTotals.lean).
  GIVEN WITH THE SEED: the statements are not yours to turn. If you find one false, say at which input.
  Laid BY PROGRAM, IN A SANDBOX (cutbox-rows.mjs): the forced cells as the released guide's own fill.sh prints them over the translation 0dc8d59842ca9e4b… (all of the seat's roots in one cut). By AI agents, Wed Nov 11 2026. No macro, syntax, notation, axiom, sorry.
-/
import Derived.Test.YtgkgdmpbcneoiaaDoorChecked
import GoSem.Claim
import GoSem.ClaimJoined
import GoSem.ClaimMapViews
import Derived.JoinedTies
import Derived.KernelRfl
namespace Go.Proofs.YtgkgdmpbcneoiaaDoor
/- THE CELL 'sum', in the pinned program and in every row, IS THE sha256 OF THE DUMP (.gsa) THAT YtgkgdmpbcneoiaaDoorProg.lean LOADS. Nothing in Lean hashes anything: it is a label: what it is worth is what the hold of that sum in a sandbox is worth. -/
noncomputable def Tryd.pinned : Pinned := { name := "ytgkgdmpbcneoiaadoor", sum := "0dc8d59842ca9e4b23b6408ddcebc6247734cf336de2423d6f4c6385b5478b42", checked := Tryd.checked }
namespace Rows
def none {H : Type} : Left H := { results := [], args := [] }

/- WHAT THE LISTED PACKAGE-LEVEL VARIABLES READ AS WHEN THE CALL BEGINS. Each datum BY PROGRAM (the guide's laid-datum.mjs) off the statement by which the dump's own 'gosem.cut.vars' lays the variable. In a bare row this is a premise. The card (YtgkgdmpbcneoiaaDoorCards.lean) ties it to the program's text. -/
def laid_tabularium_utf_sizes {H : Type} : DataW H := .agg [.lit (.int .i64 1), .lit (.int .i64 1), .lit (.int .i64 1), .lit (.int .i64 1), .lit (.int .i64 1), .lit (.int .i64 1), .lit (.int .i64 1), .lit (.int .i64 1), .lit (.int .i64 1), .lit (.int .i64 1), .lit (.int .i64 1), .lit (.int .i64 1), .lit (.int .i64 1), .lit (.int .i64 1), .lit (.int .i64 1), .lit (.int .i64 1), .lit (.int .i64 0), .lit (.int .i64 0), .lit (.int .i64 0), .lit (.int .i64 0), .lit (.int .i64 0), .lit (.int .i64 0), .lit (.int .i64 0), .lit (.int .i64 0), .lit (.int .i64 2), .lit (.int .i64 2), .lit (.int .i64 2), .lit (.int .i64 2), .lit (.int .i64 3), .lit (.int .i64 3), .lit (.int .i64 4), .lit (.int .i64 0)]

/-- 'tabulariumlaw07.QuoteScans': WHATEVER THE INPUT: true; the input reads as it did. -/
def quoteScansSpec : ChangeSpec := { name := "quoteScans", fn := fun _ => fun
  | [d] => { results := [.lit (.bool true)], args := [d] }
  | _ => none }
def quoteScansRow : OpenClaim := { program := "ytgkgdmpbcneoiaadoor", sum := "0dc8d59842ca9e4b23b6408ddcebc6247734cf336de2423d6f4c6385b5478b42", func := "tabularium/tabulariumlaw07.QuoteScans", spec := "quoteScans", inPlace := ["internal/abi.NoEscape"], unfollowed := true, recurses := true, named := ["tabularium/utf.sizes"], apart := false, laid := [("tabularium/utf.sizes", laid_tabularium_utf_sizes)] }
def QuoteScansSaid : Prop := quoteScansRow.holds Tryd.pinned (OpenSpec.ofChange quoteScansSpec)

/-- ITS FALSE NEIGHBOUR: 'it returns false'. Refute it at one input. -/
def quoteScansWrong : ChangeSpec := { name := "quoteScans", fn := fun _ => fun
  | [d] => { results := [.lit (.bool false)], args := [d] }
  | _ => none }
def QuoteScansWrongFalsely : Prop := quoteScansRow.holds Tryd.pinned (OpenSpec.ofChange quoteScansWrong)

/-- 'tabulariumlaw07.QuoteTexts': WHATEVER THE INPUT: true; the input reads as it did. -/
def quoteTextsSpec : ChangeSpec := { name := "quoteTexts", fn := fun _ => fun
  | [d] => { results := [.lit (.bool true)], args := [d] }
  | _ => none }
def quoteTextsRow : OpenClaim := { program := "ytgkgdmpbcneoiaadoor", sum := "0dc8d59842ca9e4b23b6408ddcebc6247734cf336de2423d6f4c6385b5478b42", func := "tabularium/tabulariumlaw07.QuoteTexts", spec := "quoteTexts", inPlace := ["internal/abi.NoEscape"], unfollowed := true, recurses := true, named := ["tabularium/utf.sizes"], apart := false, laid := [("tabularium/utf.sizes", laid_tabularium_utf_sizes)] }
def QuoteTextsSaid : Prop := quoteTextsRow.holds Tryd.pinned (OpenSpec.ofChange quoteTextsSpec)

/-- ITS FALSE NEIGHBOUR: 'it returns false'. Refute it at one input. -/
def quoteTextsWrong : ChangeSpec := { name := "quoteTexts", fn := fun _ => fun
  | [d] => { results := [.lit (.bool false)], args := [d] }
  | _ => none }
def QuoteTextsWrongFalsely : Prop := quoteTextsRow.holds Tryd.pinned (OpenSpec.ofChange quoteTextsWrong)

/-- 'tabulariumlaw07.QuotePrints': WHATEVER THE INPUT: true; the input reads as it did. -/
def quotePrintsSpec : ChangeSpec := { name := "quotePrints", fn := fun _ => fun
  | [d] => { results := [.lit (.bool true)], args := [d] }
  | _ => none }
def quotePrintsRow : OpenClaim := { program := "ytgkgdmpbcneoiaadoor", sum := "0dc8d59842ca9e4b23b6408ddcebc6247734cf336de2423d6f4c6385b5478b42", func := "tabularium/tabulariumlaw07.QuotePrints", spec := "quotePrints", inPlace := ["internal/abi.NoEscape"], unfollowed := true, recurses := true, named := ["tabularium/utf.sizes"], apart := false, laid := [("tabularium/utf.sizes", laid_tabularium_utf_sizes)] }
def QuotePrintsSaid : Prop := quotePrintsRow.holds Tryd.pinned (OpenSpec.ofChange quotePrintsSpec)

/-- ITS FALSE NEIGHBOUR: 'it returns false'. Refute it at one input. -/
def quotePrintsWrong : ChangeSpec := { name := "quotePrints", fn := fun _ => fun
  | [d] => { results := [.lit (.bool false)], args := [d] }
  | _ => none }
def QuotePrintsWrongFalsely : Prop := quotePrintsRow.holds Tryd.pinned (OpenSpec.ofChange quotePrintsWrong)

/-- 'tabulariumlaw07.QuoteCuts': WHATEVER THE INPUT: true; the input reads as it did. -/
def quoteCutsSpec : ChangeSpec := { name := "quoteCuts", fn := fun _ => fun
  | [d1, d2, d3] => { results := [.lit (.bool true)], args := [d1, d2, d3] }
  | _ => none }
def quoteCutsRow : OpenClaim := { program := "ytgkgdmpbcneoiaadoor", sum := "0dc8d59842ca9e4b23b6408ddcebc6247734cf336de2423d6f4c6385b5478b42", func := "tabularium/tabulariumlaw07.QuoteCuts", spec := "quoteCuts", inPlace := ["internal/abi.NoEscape"], unfollowed := true, recurses := true, named := ["tabularium/utf.sizes"], apart := false, laid := [("tabularium/utf.sizes", laid_tabularium_utf_sizes)] }
def QuoteCutsSaid : Prop := quoteCutsRow.holds Tryd.pinned (OpenSpec.ofChange quoteCutsSpec)

/-- ITS FALSE NEIGHBOUR: 'it returns false'. Refute it at one input. -/
def quoteCutsWrong : ChangeSpec := { name := "quoteCuts", fn := fun _ => fun
  | [d1, d2, d3] => { results := [.lit (.bool false)], args := [d1, d2, d3] }
  | _ => none }
def QuoteCutsWrongFalsely : Prop := quoteCutsRow.holds Tryd.pinned (OpenSpec.ofChange quoteCutsWrong)

/-- 'tabulariumlaw07.QuoteApart': WHATEVER THE INPUT: true; the input reads as it did. -/
def quoteApartSpec : ChangeSpec := { name := "quoteApart", fn := fun _ => fun
  | [d1, d2] => { results := [.lit (.bool true)], args := [d1, d2] }
  | _ => none }
def quoteApartRow : OpenClaim := { program := "ytgkgdmpbcneoiaadoor", sum := "0dc8d59842ca9e4b23b6408ddcebc6247734cf336de2423d6f4c6385b5478b42", func := "tabularium/tabulariumlaw07.QuoteApart", spec := "quoteApart", inPlace := ["internal/abi.NoEscape"], unfollowed := true, recurses := true, named := ["tabularium/utf.sizes"], apart := false, laid := [("tabularium/utf.sizes", laid_tabularium_utf_sizes)] }
def QuoteApartSaid : Prop := quoteApartRow.holds Tryd.pinned (OpenSpec.ofChange quoteApartSpec)

/-- ITS FALSE NEIGHBOUR: 'it returns false'. Refute it at one input. -/
def quoteApartWrong : ChangeSpec := { name := "quoteApart", fn := fun _ => fun
  | [d1, d2] => { results := [.lit (.bool false)], args := [d1, d2] }
  | _ => none }
def QuoteApartWrongFalsely : Prop := quoteApartRow.holds Tryd.pinned (OpenSpec.ofChange quoteApartWrong)

/- THE SECOND FORM. 'bulk': how many values and letters a reading holds, each counted each time it is reached (what is shared counts as often as it is met; a slice's spare places count too). A statement '..UptoSaid' is the law's where the arguments, and the package variables that the reading takes, are together of bulk at most 1048576: NARROWER than '..Said'. Prove '..Said' where nothing that the law and all that it calls make is longer than what came in: it says more and counts as full. Else prove '..UptoSaid'. A law counts once. -/
mutual
def uptoBulk {H : Type} : DataW H → Nat
  | .lit (.string bytes) => bytes.length + 1
  | .lit _ => 1
  | .nil => 1
  | .ptr d => uptoBulk d + 1
  | .slice elems spare => uptoBulkAll elems + uptoBulkAll spare + 1
  | .agg parts => uptoBulkAll parts + 1
  | .iface _ d => uptoBulk d + 1
  | .map entries => uptoBulkEntries entries + 1
  | .held _ => 1
def uptoBulkAll {H : Type} : List (DataW H) → Nat
  | [] => 0
  | d :: r => uptoBulk d + uptoBulkAll r
def uptoBulkEntries {H : Type} : List (Lit × DataW H) → Nat
  | [] => 0
  | x :: r => uptoBulkEntry x + uptoBulkEntries r
def uptoBulkEntry {H : Type} : Lit × DataW H → Nat
  | (.string bytes, d) => bytes.length + uptoBulk d + 1
  | (_, d) => uptoBulk d + 1
 end
def uptoSmall : (H : Type) → List (DataW H) → Bool := fun _ ds => decide (uptoBulkAll ds ≤ 1048576)
def OpenSpec.upto (s : _root_.Go.ChangeSpec) : _root_.Go.OpenSpec := { _root_.Go.OpenSpec.ofChange s with cond := some uptoSmall }

/-- 'tabulariumlaw07.QuoteScans', WHERE WHAT IT READS IS OF BULK AT MOST 1048576: true; the input reads as it did. -/
def quoteScansUptoRow : OpenClaim := { program := "ytgkgdmpbcneoiaadoor", sum := "0dc8d59842ca9e4b23b6408ddcebc6247734cf336de2423d6f4c6385b5478b42", func := "tabularium/tabulariumlaw07.QuoteScans", spec := "quoteScans", inPlace := ["internal/abi.NoEscape"], unfollowed := true, recurses := true, named := ["tabularium/utf.sizes"], apart := false, laid := [("tabularium/utf.sizes", laid_tabularium_utf_sizes)], narrowed := true }
def QuoteScansUptoSaid : Prop := quoteScansUptoRow.holds Tryd.pinned (OpenSpec.upto quoteScansSpec)

/-- 'tabulariumlaw07.QuoteTexts', WHERE WHAT IT READS IS OF BULK AT MOST 1048576: true; the input reads as it did. -/
def quoteTextsUptoRow : OpenClaim := { program := "ytgkgdmpbcneoiaadoor", sum := "0dc8d59842ca9e4b23b6408ddcebc6247734cf336de2423d6f4c6385b5478b42", func := "tabularium/tabulariumlaw07.QuoteTexts", spec := "quoteTexts", inPlace := ["internal/abi.NoEscape"], unfollowed := true, recurses := true, named := ["tabularium/utf.sizes"], apart := false, laid := [("tabularium/utf.sizes", laid_tabularium_utf_sizes)], narrowed := true }
def QuoteTextsUptoSaid : Prop := quoteTextsUptoRow.holds Tryd.pinned (OpenSpec.upto quoteTextsSpec)

/-- 'tabulariumlaw07.QuotePrints', WHERE WHAT IT READS IS OF BULK AT MOST 1048576: true; the input reads as it did. -/
def quotePrintsUptoRow : OpenClaim := { program := "ytgkgdmpbcneoiaadoor", sum := "0dc8d59842ca9e4b23b6408ddcebc6247734cf336de2423d6f4c6385b5478b42", func := "tabularium/tabulariumlaw07.QuotePrints", spec := "quotePrints", inPlace := ["internal/abi.NoEscape"], unfollowed := true, recurses := true, named := ["tabularium/utf.sizes"], apart := false, laid := [("tabularium/utf.sizes", laid_tabularium_utf_sizes)], narrowed := true }
def QuotePrintsUptoSaid : Prop := quotePrintsUptoRow.holds Tryd.pinned (OpenSpec.upto quotePrintsSpec)

/-- 'tabulariumlaw07.QuoteCuts', WHERE WHAT IT READS IS OF BULK AT MOST 1048576: true; the input reads as it did. -/
def quoteCutsUptoRow : OpenClaim := { program := "ytgkgdmpbcneoiaadoor", sum := "0dc8d59842ca9e4b23b6408ddcebc6247734cf336de2423d6f4c6385b5478b42", func := "tabularium/tabulariumlaw07.QuoteCuts", spec := "quoteCuts", inPlace := ["internal/abi.NoEscape"], unfollowed := true, recurses := true, named := ["tabularium/utf.sizes"], apart := false, laid := [("tabularium/utf.sizes", laid_tabularium_utf_sizes)], narrowed := true }
def QuoteCutsUptoSaid : Prop := quoteCutsUptoRow.holds Tryd.pinned (OpenSpec.upto quoteCutsSpec)

/-- 'tabulariumlaw07.QuoteApart', WHERE WHAT IT READS IS OF BULK AT MOST 1048576: true; the input reads as it did. -/
def quoteApartUptoRow : OpenClaim := { program := "ytgkgdmpbcneoiaadoor", sum := "0dc8d59842ca9e4b23b6408ddcebc6247734cf336de2423d6f4c6385b5478b42", func := "tabularium/tabulariumlaw07.QuoteApart", spec := "quoteApart", inPlace := ["internal/abi.NoEscape"], unfollowed := true, recurses := true, named := ["tabularium/utf.sizes"], apart := false, laid := [("tabularium/utf.sizes", laid_tabularium_utf_sizes)], narrowed := true }
def QuoteApartUptoSaid : Prop := quoteApartUptoRow.holds Tryd.pinned (OpenSpec.upto quoteApartSpec)

end Rows
end Go.Proofs.YtgkgdmpbcneoiaaDoor
