/-
  NARROWER THAN 'FOR EVERY INPUT', by the rows' own cells (each row's printed sentence says how): ExprLevels: laid · ExprSame: loops, laid.
  DERIVED. THE GIVEN ROWS OF THIS SEAT. 2 by the template 'for every input the law returns true; each argument reads behind the call as it read before'; 0 by the template 'total and deterministic' (their statements: YtjlikcfabekhlaaDoorTotals.lean).
  GIVEN WITH THE SEED: the statements are not yours to turn. If you find one false, say at which input.
  Laid BY PROGRAM, IN A SANDBOX (cutbox-rows.mjs): the forced cells as the released guide's own fill.sh prints them over the translation cfdfd5eab45ebf6d… (all of the seat's roots in one cut). By AI agents, Wed Nov 11 2026. No macro, syntax, notation, axiom, sorry.
-/
import Derived.Test.YtjlikcfabekhlaaDoorChecked
import GoSem.PinnedTables
import GoSem.Claim
import GoSem.ClaimJoined
import GoSem.ClaimMapViews
import Derived.JoinedTies
import Derived.KernelRfl
namespace Go.Proofs.YtjlikcfabekhlaaDoor
/- THE CELL 'sum', in the pinned program and in every row, IS THE sha256 OF THE DUMP (.gsa) THAT YtjlikcfabekhlaaDoorProg.lean LOADS. Nothing in Lean hashes anything: it is a label: what it is worth is what the hold of that sum in a sandbox is worth. -/
noncomputable def Tryd.pinned : Pinned := { name := "ytjlikcfabekhlaadoor", sum := "cfdfd5eab45ebf6d14bb9387d9a8aee44bd61d9bd57208a494420788d5480968", checked := Tryd.checked }
namespace Rows
def none {H : Type} : Left H := { results := [], args := [] }

/- WHAT THE LISTED PACKAGE-LEVEL VARIABLES READ AS WHEN THE CALL BEGINS. Each datum BY PROGRAM (the guide's laid-datum.mjs) off the statement by which the dump's own 'gosem.cut.vars' lays the variable. In a bare row this is a premise. The card (YtjlikcfabekhlaaDoorCards.lean) ties it to the program's text. -/
def laid_unicode_utf8_acceptRanges {H : Type} : DataW H := .agg [.agg [.lit (.int .u8 128), .lit (.int .u8 191)], .agg [.lit (.int .u8 160), .lit (.int .u8 191)], .agg [.lit (.int .u8 128), .lit (.int .u8 159)], .agg [.lit (.int .u8 144), .lit (.int .u8 191)], .agg [.lit (.int .u8 128), .lit (.int .u8 143)], .agg [.lit (.int .u8 0), .lit (.int .u8 0)], .agg [.lit (.int .u8 0), .lit (.int .u8 0)], .agg [.lit (.int .u8 0), .lit (.int .u8 0)], .agg [.lit (.int .u8 0), .lit (.int .u8 0)], .agg [.lit (.int .u8 0), .lit (.int .u8 0)], .agg [.lit (.int .u8 0), .lit (.int .u8 0)], .agg [.lit (.int .u8 0), .lit (.int .u8 0)], .agg [.lit (.int .u8 0), .lit (.int .u8 0)], .agg [.lit (.int .u8 0), .lit (.int .u8 0)], .agg [.lit (.int .u8 0), .lit (.int .u8 0)], .agg [.lit (.int .u8 0), .lit (.int .u8 0)]]
def laid_tabularium_utf_sizes {H : Type} : DataW H := .agg [.lit (.int .i64 1), .lit (.int .i64 1), .lit (.int .i64 1), .lit (.int .i64 1), .lit (.int .i64 1), .lit (.int .i64 1), .lit (.int .i64 1), .lit (.int .i64 1), .lit (.int .i64 1), .lit (.int .i64 1), .lit (.int .i64 1), .lit (.int .i64 1), .lit (.int .i64 1), .lit (.int .i64 1), .lit (.int .i64 1), .lit (.int .i64 1), .lit (.int .i64 0), .lit (.int .i64 0), .lit (.int .i64 0), .lit (.int .i64 0), .lit (.int .i64 0), .lit (.int .i64 0), .lit (.int .i64 0), .lit (.int .i64 0), .lit (.int .i64 2), .lit (.int .i64 2), .lit (.int .i64 2), .lit (.int .i64 2), .lit (.int .i64 3), .lit (.int .i64 3), .lit (.int .i64 4), .lit (.int .i64 0)]
def laid_tabularium_num_steps {H : Type} : DataW H := .agg [.agg [.lit (.int .i64 1), .lit (.int .i64 9), .lit (.int .i64 2), .lit (.int .i64 3), .lit (.int .i64 9), .lit (.int .i64 9), .lit (.int .i64 9)], .agg [.lit (.int .i64 9), .lit (.int .i64 9), .lit (.int .i64 2), .lit (.int .i64 3), .lit (.int .i64 9), .lit (.int .i64 9), .lit (.int .i64 9)], .agg [.lit (.int .i64 9), .lit (.int .i64 9), .lit (.int .i64 9), .lit (.int .i64 9), .lit (.int .i64 4), .lit (.int .i64 6), .lit (.int .i64 9)], .agg [.lit (.int .i64 9), .lit (.int .i64 9), .lit (.int .i64 3), .lit (.int .i64 3), .lit (.int .i64 4), .lit (.int .i64 6), .lit (.int .i64 9)], .agg [.lit (.int .i64 9), .lit (.int .i64 9), .lit (.int .i64 5), .lit (.int .i64 5), .lit (.int .i64 9), .lit (.int .i64 9), .lit (.int .i64 9)], .agg [.lit (.int .i64 9), .lit (.int .i64 9), .lit (.int .i64 5), .lit (.int .i64 5), .lit (.int .i64 9), .lit (.int .i64 6), .lit (.int .i64 9)], .agg [.lit (.int .i64 7), .lit (.int .i64 7), .lit (.int .i64 8), .lit (.int .i64 8), .lit (.int .i64 9), .lit (.int .i64 9), .lit (.int .i64 9)], .agg [.lit (.int .i64 9), .lit (.int .i64 9), .lit (.int .i64 8), .lit (.int .i64 8), .lit (.int .i64 9), .lit (.int .i64 9), .lit (.int .i64 9)], .agg [.lit (.int .i64 9), .lit (.int .i64 9), .lit (.int .i64 8), .lit (.int .i64 8), .lit (.int .i64 9), .lit (.int .i64 9), .lit (.int .i64 9)]]
def laid_tabularium_lex_doubles {H : Type} : DataW H := .agg [.lit (.string [61, 61]), .lit (.string [33, 61]), .lit (.string [60, 61]), .lit (.string [62, 61]), .lit (.string [38, 38]), .lit (.string [124, 124])]
/-- One of Go's own tables, pinned by name: the form's constant. -/
def laid_unicode_utf8_first : DataW Unit := Go.Pinned.utf8First

/-- 'tabulariumlaw12.ExprLevels': WHATEVER THE INPUT: true; the input reads as it did. -/
def exprLevelsSpec : ChangeSpec := { name := "exprLevels", fn := fun _ => fun
  | [d1, d2] => { results := [.lit (.bool true)], args := [d1, d2] }
  | _ => none }
def exprLevelsRow : OpenClaim := { program := "ytjlikcfabekhlaadoor", sum := "cfdfd5eab45ebf6d14bb9387d9a8aee44bd61d9bd57208a494420788d5480968", func := "tabularium/tabulariumlaw12.ExprLevels", spec := "exprLevels", inPlace := ["internal/bytealg.IndexByteString", "internal/bytealg.IndexString", "internal/abi.NoEscape"], unfollowed := true, recurses := true, named := ["tabularium/num.steps", "unicode/utf8.first", "unicode/utf8.acceptRanges", "tabularium/utf.sizes", "internal/bytealg.MaxLen", "tabularium/lex.doubles"], apart := false, laid := [("unicode/utf8.acceptRanges", laid_unicode_utf8_acceptRanges), ("tabularium/utf.sizes", laid_tabularium_utf_sizes), ("tabularium/num.steps", laid_tabularium_num_steps), ("tabularium/lex.doubles", laid_tabularium_lex_doubles), ("unicode/utf8.first", laid_unicode_utf8_first)] }
def ExprLevelsSaid : Prop := exprLevelsRow.holds Tryd.pinned (OpenSpec.ofChange exprLevelsSpec)

/-- ITS FALSE NEIGHBOUR: 'it returns false'. Refute it at one input. -/
def exprLevelsWrong : ChangeSpec := { name := "exprLevels", fn := fun _ => fun
  | [d1, d2] => { results := [.lit (.bool false)], args := [d1, d2] }
  | _ => none }
def ExprLevelsWrongFalsely : Prop := exprLevelsRow.holds Tryd.pinned (OpenSpec.ofChange exprLevelsWrong)

/-- 'tabulariumlaw12.ExprSame': WHATEVER THE INPUT: true; the input reads as it did. -/
def exprSameSpec : ChangeSpec := { name := "exprSame", fn := fun _ => fun
  | [d1, d2, d3] => { results := [.lit (.bool true)], args := [d1, d2, d3] }
  | _ => none }
def exprSameRow : OpenClaim := { program := "ytjlikcfabekhlaadoor", sum := "cfdfd5eab45ebf6d14bb9387d9a8aee44bd61d9bd57208a494420788d5480968", func := "tabularium/tabulariumlaw12.ExprSame", spec := "exprSame", inPlace := ["internal/bytealg.IndexByteString", "internal/bytealg.IndexString", "internal/abi.NoEscape"], unfollowed := true, recurses := true, named := ["tabularium/num.steps", "unicode/utf8.first", "unicode/utf8.acceptRanges", "tabularium/utf.sizes", "internal/bytealg.MaxLen", "tabularium/lex.doubles"], loops := true, apart := false, laid := [("unicode/utf8.acceptRanges", laid_unicode_utf8_acceptRanges), ("tabularium/utf.sizes", laid_tabularium_utf_sizes), ("tabularium/num.steps", laid_tabularium_num_steps), ("tabularium/lex.doubles", laid_tabularium_lex_doubles), ("unicode/utf8.first", laid_unicode_utf8_first)] }
def ExprSameSaid : Prop := exprSameRow.holds Tryd.pinned (OpenSpec.ofChange exprSameSpec)

/-- ITS FALSE NEIGHBOUR: 'it returns false'. Refute it at one input. -/
def exprSameWrong : ChangeSpec := { name := "exprSame", fn := fun _ => fun
  | [d1, d2, d3] => { results := [.lit (.bool false)], args := [d1, d2, d3] }
  | _ => none }
def ExprSameWrongFalsely : Prop := exprSameRow.holds Tryd.pinned (OpenSpec.ofChange exprSameWrong)

/- THE SECOND FORM. 'bulk': how many values and letters a reading holds, each counted each time it is reached (what is shared counts as often as it is met; a slice's spare places count too). A statement '..UptoSaid' is the law's where the arguments, and the package variables that the reading takes, are together of bulk at most 1048576: NARROWER than '..Said'. Prove '..Said' where nothing that the law and all that it calls make is longer than what came in: it says more and counts as full. Else prove '..UptoSaid'. A law counts once. -/
mutual
def uptoBulk {H : Type} : DataW H → Nat
  | .lit (.string bytes) => bytes.length + 1
  | .lit _ => 1
  | .nil => 1
  | .ptr d => uptoBulk d + 1
  | .slice elems spare => uptoBulkAll elems + uptoBulkAll spare + 1
  | .agg parts => uptoBulkAll parts + 1
  | .iface _ d => uptoBulk d + 1
  | .map entries => uptoBulkEntries entries + 1
  | .held _ => 1
def uptoBulkAll {H : Type} : List (DataW H) → Nat
  | [] => 0
  | d :: r => uptoBulk d + uptoBulkAll r
def uptoBulkEntries {H : Type} : List (Lit × DataW H) → Nat
  | [] => 0
  | x :: r => uptoBulkEntry x + uptoBulkEntries r
def uptoBulkEntry {H : Type} : Lit × DataW H → Nat
  | (.string bytes, d) => bytes.length + uptoBulk d + 1
  | (_, d) => uptoBulk d + 1
 end
def uptoSmall : (H : Type) → List (DataW H) → Bool := fun _ ds => decide (uptoBulkAll ds ≤ 1048576)
def OpenSpec.upto (s : _root_.Go.ChangeSpec) : _root_.Go.OpenSpec := { _root_.Go.OpenSpec.ofChange s with cond := some uptoSmall }

/-- 'tabulariumlaw12.ExprLevels', WHERE WHAT IT READS IS OF BULK AT MOST 1048576: true; the input reads as it did. -/
def exprLevelsUptoRow : OpenClaim := { program := "ytjlikcfabekhlaadoor", sum := "cfdfd5eab45ebf6d14bb9387d9a8aee44bd61d9bd57208a494420788d5480968", func := "tabularium/tabulariumlaw12.ExprLevels", spec := "exprLevels", inPlace := ["internal/bytealg.IndexByteString", "internal/bytealg.IndexString", "internal/abi.NoEscape"], unfollowed := true, recurses := true, named := ["tabularium/num.steps", "unicode/utf8.first", "unicode/utf8.acceptRanges", "tabularium/utf.sizes", "internal/bytealg.MaxLen", "tabularium/lex.doubles"], apart := false, laid := [("unicode/utf8.acceptRanges", laid_unicode_utf8_acceptRanges), ("tabularium/utf.sizes", laid_tabularium_utf_sizes), ("tabularium/num.steps", laid_tabularium_num_steps), ("tabularium/lex.doubles", laid_tabularium_lex_doubles), ("unicode/utf8.first", laid_unicode_utf8_first)], narrowed := true }
def ExprLevelsUptoSaid : Prop := exprLevelsUptoRow.holds Tryd.pinned (OpenSpec.upto exprLevelsSpec)

/-- 'tabulariumlaw12.ExprSame', WHERE WHAT IT READS IS OF BULK AT MOST 1048576: true; the input reads as it did. -/
def exprSameUptoRow : OpenClaim := { program := "ytjlikcfabekhlaadoor", sum := "cfdfd5eab45ebf6d14bb9387d9a8aee44bd61d9bd57208a494420788d5480968", func := "tabularium/tabulariumlaw12.ExprSame", spec := "exprSame", inPlace := ["internal/bytealg.IndexByteString", "internal/bytealg.IndexString", "internal/abi.NoEscape"], unfollowed := true, recurses := true, named := ["tabularium/num.steps", "unicode/utf8.first", "unicode/utf8.acceptRanges", "tabularium/utf.sizes", "internal/bytealg.MaxLen", "tabularium/lex.doubles"], loops := true, apart := false, laid := [("unicode/utf8.acceptRanges", laid_unicode_utf8_acceptRanges), ("tabularium/utf.sizes", laid_tabularium_utf_sizes), ("tabularium/num.steps", laid_tabularium_num_steps), ("tabularium/lex.doubles", laid_tabularium_lex_doubles), ("unicode/utf8.first", laid_unicode_utf8_first)], narrowed := true }
def ExprSameUptoSaid : Prop := exprSameUptoRow.holds Tryd.pinned (OpenSpec.upto exprSameSpec)

end Rows
end Go.Proofs.YtjlikcfabekhlaaDoor
