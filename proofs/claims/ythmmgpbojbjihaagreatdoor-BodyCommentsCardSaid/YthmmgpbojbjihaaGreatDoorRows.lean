/-
  NARROWER THAN 'FOR EVERY INPUT', by the rows' own cells (each row's printed sentence says how): BodyJoins: laid · BodyComments: laid · BodySame: loops, laid.
  DERIVED. THE GIVEN ROWS OF THIS SEAT. 3 by the template 'for every input the law returns true; each argument reads behind the call as it read before'; 0 by the template 'total and deterministic' (their statements: YthmmgpbojbjihaaGreatDoorTotals.lean).
  GIVEN WITH THE SEED: the statements are not yours to turn. If you find one false, say at which input.
  Laid BY PROGRAM, IN A SANDBOX (cutbox-rows.mjs): the forced cells as the released guide's own fill.sh prints them over the translation aaff7d586c90dc79… (all of the seat's roots in one cut). By AI agents, Wed Nov 11 2026. No macro, syntax, notation, axiom, sorry.
-/
import Derived.Test.YthmmgpbojbjihaaGreatDoorChecked
import GoSem.PinnedTables
import GoSem.Claim
import GoSem.ClaimJoined
import GoSem.ClaimMapViews
import Derived.JoinedTies
import Derived.KernelRfl
namespace Go.Proofs.YthmmgpbojbjihaaGreatDoor
/- THE CELL 'sum', in the pinned program and in every row, IS THE sha256 OF THE DUMP (.gsa) THAT YthmmgpbojbjihaaGreatDoorProg.lean LOADS. Nothing in Lean hashes anything: it is a label: what it is worth is what the hold of that sum in a sandbox is worth. -/
noncomputable def Tryz.pinned : Pinned := { name := "ythmmgpbojbjihaagreatdoor", sum := "aaff7d586c90dc797a9c179e2c98a0be0234e5fa17a30fcd41949626f7a3dba5", checked := Tryz.checked }
namespace Rows
def none {H : Type} : Left H := { results := [], args := [] }

/- WHAT THE LISTED PACKAGE-LEVEL VARIABLES READ AS WHEN THE CALL BEGINS. Each datum BY PROGRAM (the guide's laid-datum.mjs) off the statement by which the dump's own 'gosem.cut.vars' lays the variable. In a bare row this is a premise. The card (YthmmgpbojbjihaaGreatDoorCards.lean) ties it to the program's text. -/
def laid_unicode_utf8_acceptRanges {H : Type} : DataW H := .agg [.agg [.lit (.int .u8 128), .lit (.int .u8 191)], .agg [.lit (.int .u8 160), .lit (.int .u8 191)], .agg [.lit (.int .u8 128), .lit (.int .u8 159)], .agg [.lit (.int .u8 144), .lit (.int .u8 191)], .agg [.lit (.int .u8 128), .lit (.int .u8 143)], .agg [.lit (.int .u8 0), .lit (.int .u8 0)], .agg [.lit (.int .u8 0), .lit (.int .u8 0)], .agg [.lit (.int .u8 0), .lit (.int .u8 0)], .agg [.lit (.int .u8 0), .lit (.int .u8 0)], .agg [.lit (.int .u8 0), .lit (.int .u8 0)], .agg [.lit (.int .u8 0), .lit (.int .u8 0)], .agg [.lit (.int .u8 0), .lit (.int .u8 0)], .agg [.lit (.int .u8 0), .lit (.int .u8 0)], .agg [.lit (.int .u8 0), .lit (.int .u8 0)], .agg [.lit (.int .u8 0), .lit (.int .u8 0)], .agg [.lit (.int .u8 0), .lit (.int .u8 0)]]
def laid_tabularium_utf_sizes {H : Type} : DataW H := .agg [.lit (.int .i64 1), .lit (.int .i64 1), .lit (.int .i64 1), .lit (.int .i64 1), .lit (.int .i64 1), .lit (.int .i64 1), .lit (.int .i64 1), .lit (.int .i64 1), .lit (.int .i64 1), .lit (.int .i64 1), .lit (.int .i64 1), .lit (.int .i64 1), .lit (.int .i64 1), .lit (.int .i64 1), .lit (.int .i64 1), .lit (.int .i64 1), .lit (.int .i64 0), .lit (.int .i64 0), .lit (.int .i64 0), .lit (.int .i64 0), .lit (.int .i64 0), .lit (.int .i64 0), .lit (.int .i64 0), .lit (.int .i64 0), .lit (.int .i64 2), .lit (.int .i64 2), .lit (.int .i64 2), .lit (.int .i64 2), .lit (.int .i64 3), .lit (.int .i64 3), .lit (.int .i64 4), .lit (.int .i64 0)]
def laid_tabularium_num_steps {H : Type} : DataW H := .agg [.agg [.lit (.int .i64 1), .lit (.int .i64 9), .lit (.int .i64 2), .lit (.int .i64 3), .lit (.int .i64 9), .lit (.int .i64 9), .lit (.int .i64 9)], .agg [.lit (.int .i64 9), .lit (.int .i64 9), .lit (.int .i64 2), .lit (.int .i64 3), .lit (.int .i64 9), .lit (.int .i64 9), .lit (.int .i64 9)], .agg [.lit (.int .i64 9), .lit (.int .i64 9), .lit (.int .i64 9), .lit (.int .i64 9), .lit (.int .i64 4), .lit (.int .i64 6), .lit (.int .i64 9)], .agg [.lit (.int .i64 9), .lit (.int .i64 9), .lit (.int .i64 3), .lit (.int .i64 3), .lit (.int .i64 4), .lit (.int .i64 6), .lit (.int .i64 9)], .agg [.lit (.int .i64 9), .lit (.int .i64 9), .lit (.int .i64 5), .lit (.int .i64 5), .lit (.int .i64 9), .lit (.int .i64 9), .lit (.int .i64 9)], .agg [.lit (.int .i64 9), .lit (.int .i64 9), .lit (.int .i64 5), .lit (.int .i64 5), .lit (.int .i64 9), .lit (.int .i64 6), .lit (.int .i64 9)], .agg [.lit (.int .i64 7), .lit (.int .i64 7), .lit (.int .i64 8), .lit (.int .i64 8), .lit (.int .i64 9), .lit (.int .i64 9), .lit (.int .i64 9)], .agg [.lit (.int .i64 9), .lit (.int .i64 9), .lit (.int .i64 8), .lit (.int .i64 8), .lit (.int .i64 9), .lit (.int .i64 9), .lit (.int .i64 9)], .agg [.lit (.int .i64 9), .lit (.int .i64 9), .lit (.int .i64 8), .lit (.int .i64 8), .lit (.int .i64 9), .lit (.int .i64 9), .lit (.int .i64 9)]]
def laid_tabularium_lex_doubles {H : Type} : DataW H := .agg [.lit (.string [61, 61]), .lit (.string [33, 61]), .lit (.string [60, 61]), .lit (.string [62, 61]), .lit (.string [38, 38]), .lit (.string [124, 124])]
/-- One of Go's own tables, pinned by name: the form's constant. -/
def laid_unicode_utf8_first : DataW Unit := Go.Pinned.utf8First

/-- 'tabulariumlaw13.BodyJoins': WHATEVER THE INPUT: true; the input reads as it did. -/
def bodyJoinsSpec : ChangeSpec := { name := "bodyJoins", fn := fun _ => fun
  | [d1, d2] => { results := [.lit (.bool true)], args := [d1, d2] }
  | _ => none }
def bodyJoinsRow : OpenClaim := { program := "ythmmgpbojbjihaagreatdoor", sum := "aaff7d586c90dc797a9c179e2c98a0be0234e5fa17a30fcd41949626f7a3dba5", func := "tabularium/tabulariumlaw13.BodyJoins", spec := "bodyJoins", inPlace := ["internal/bytealg.IndexByteString", "internal/bytealg.IndexString", "internal/abi.NoEscape"], unfollowed := true, recurses := true, named := ["tabularium/num.steps", "unicode/utf8.first", "unicode/utf8.acceptRanges", "tabularium/utf.sizes", "internal/bytealg.MaxLen", "tabularium/lex.doubles"], apart := false, laid := [("unicode/utf8.acceptRanges", laid_unicode_utf8_acceptRanges), ("tabularium/utf.sizes", laid_tabularium_utf_sizes), ("tabularium/num.steps", laid_tabularium_num_steps), ("tabularium/lex.doubles", laid_tabularium_lex_doubles), ("unicode/utf8.first", laid_unicode_utf8_first)] }
def BodyJoinsSaid : Prop := bodyJoinsRow.holds Tryz.pinned (OpenSpec.ofChange bodyJoinsSpec)

/-- ITS FALSE NEIGHBOUR: 'it returns false'. Refute it at one input. -/
def bodyJoinsWrong : ChangeSpec := { name := "bodyJoins", fn := fun _ => fun
  | [d1, d2] => { results := [.lit (.bool false)], args := [d1, d2] }
  | _ => none }
def BodyJoinsWrongFalsely : Prop := bodyJoinsRow.holds Tryz.pinned (OpenSpec.ofChange bodyJoinsWrong)

/-- 'tabulariumlaw13.BodyComments': WHATEVER THE INPUT: true; the input reads as it did. -/
def bodyCommentsSpec : ChangeSpec := { name := "bodyComments", fn := fun _ => fun
  | [d1, d2, d3] => { results := [.lit (.bool true)], args := [d1, d2, d3] }
  | _ => none }
def bodyCommentsRow : OpenClaim := { program := "ythmmgpbojbjihaagreatdoor", sum := "aaff7d586c90dc797a9c179e2c98a0be0234e5fa17a30fcd41949626f7a3dba5", func := "tabularium/tabulariumlaw13.BodyComments", spec := "bodyComments", inPlace := ["internal/bytealg.IndexByteString", "internal/bytealg.IndexString", "internal/abi.NoEscape"], unfollowed := true, recurses := true, named := ["tabularium/num.steps", "unicode/utf8.first", "unicode/utf8.acceptRanges", "tabularium/utf.sizes", "internal/bytealg.MaxLen", "tabularium/lex.doubles"], apart := false, laid := [("unicode/utf8.acceptRanges", laid_unicode_utf8_acceptRanges), ("tabularium/utf.sizes", laid_tabularium_utf_sizes), ("tabularium/num.steps", laid_tabularium_num_steps), ("tabularium/lex.doubles", laid_tabularium_lex_doubles), ("unicode/utf8.first", laid_unicode_utf8_first)] }
def BodyCommentsSaid : Prop := bodyCommentsRow.holds Tryz.pinned (OpenSpec.ofChange bodyCommentsSpec)

/-- ITS FALSE NEIGHBOUR: 'it returns false'. Refute it at one input. -/
def bodyCommentsWrong : ChangeSpec := { name := "bodyComments", fn := fun _ => fun
  | [d1, d2, d3] => { results := [.lit (.bool false)], args := [d1, d2, d3] }
  | _ => none }
def BodyCommentsWrongFalsely : Prop := bodyCommentsRow.holds Tryz.pinned (OpenSpec.ofChange bodyCommentsWrong)

/-- 'tabulariumlaw13.BodySame': WHATEVER THE INPUT: true; the input reads as it did. -/
def bodySameSpec : ChangeSpec := { name := "bodySame", fn := fun _ => fun
  | [d1, d2] => { results := [.lit (.bool true)], args := [d1, d2] }
  | _ => none }
def bodySameRow : OpenClaim := { program := "ythmmgpbojbjihaagreatdoor", sum := "aaff7d586c90dc797a9c179e2c98a0be0234e5fa17a30fcd41949626f7a3dba5", func := "tabularium/tabulariumlaw13.BodySame", spec := "bodySame", inPlace := ["internal/bytealg.IndexByteString", "internal/bytealg.IndexString", "internal/abi.NoEscape"], unfollowed := true, recurses := true, named := ["tabularium/num.steps", "unicode/utf8.first", "unicode/utf8.acceptRanges", "tabularium/utf.sizes", "internal/bytealg.MaxLen", "tabularium/lex.doubles"], loops := true, apart := false, laid := [("unicode/utf8.acceptRanges", laid_unicode_utf8_acceptRanges), ("tabularium/utf.sizes", laid_tabularium_utf_sizes), ("tabularium/num.steps", laid_tabularium_num_steps), ("tabularium/lex.doubles", laid_tabularium_lex_doubles), ("unicode/utf8.first", laid_unicode_utf8_first)] }
def BodySameSaid : Prop := bodySameRow.holds Tryz.pinned (OpenSpec.ofChange bodySameSpec)

/-- ITS FALSE NEIGHBOUR: 'it returns false'. Refute it at one input. -/
def bodySameWrong : ChangeSpec := { name := "bodySame", fn := fun _ => fun
  | [d1, d2] => { results := [.lit (.bool false)], args := [d1, d2] }
  | _ => none }
def BodySameWrongFalsely : Prop := bodySameRow.holds Tryz.pinned (OpenSpec.ofChange bodySameWrong)

/- THE SECOND FORM. 'bulk': how many values and letters a reading holds, each counted each time it is reached (what is shared counts as often as it is met; a slice's spare places count too). A statement '..UptoSaid' is the law's where the arguments, and the package variables that the reading takes, are together of bulk at most 1048576: NARROWER than '..Said'. Prove '..Said' where nothing that the law and all that it calls make is longer than what came in: it says more and counts as full. Else prove '..UptoSaid'. A law counts once. -/
mutual
def uptoBulk {H : Type} : DataW H → Nat
  | .lit (.string bytes) => bytes.length + 1
  | .lit _ => 1
  | .nil => 1
  | .ptr d => uptoBulk d + 1
  | .slice elems spare => uptoBulkAll elems + uptoBulkAll spare + 1
  | .agg parts => uptoBulkAll parts + 1
  | .iface _ d => uptoBulk d + 1
  | .map entries => uptoBulkEntries entries + 1
  | .held _ => 1
def uptoBulkAll {H : Type} : List (DataW H) → Nat
  | [] => 0
  | d :: r => uptoBulk d + uptoBulkAll r
def uptoBulkEntries {H : Type} : List (Lit × DataW H) → Nat
  | [] => 0
  | x :: r => uptoBulkEntry x + uptoBulkEntries r
def uptoBulkEntry {H : Type} : Lit × DataW H → Nat
  | (.string bytes, d) => bytes.length + uptoBulk d + 1
  | (_, d) => uptoBulk d + 1
 end
def uptoSmall : (H : Type) → List (DataW H) → Bool := fun _ ds => decide (uptoBulkAll ds ≤ 1048576)
def OpenSpec.upto (s : _root_.Go.ChangeSpec) : _root_.Go.OpenSpec := { _root_.Go.OpenSpec.ofChange s with cond := some uptoSmall }

/-- 'tabulariumlaw13.BodyJoins', WHERE WHAT IT READS IS OF BULK AT MOST 1048576: true; the input reads as it did. -/
def bodyJoinsUptoRow : OpenClaim := { program := "ythmmgpbojbjihaagreatdoor", sum := "aaff7d586c90dc797a9c179e2c98a0be0234e5fa17a30fcd41949626f7a3dba5", func := "tabularium/tabulariumlaw13.BodyJoins", spec := "bodyJoins", inPlace := ["internal/bytealg.IndexByteString", "internal/bytealg.IndexString", "internal/abi.NoEscape"], unfollowed := true, recurses := true, named := ["tabularium/num.steps", "unicode/utf8.first", "unicode/utf8.acceptRanges", "tabularium/utf.sizes", "internal/bytealg.MaxLen", "tabularium/lex.doubles"], apart := false, laid := [("unicode/utf8.acceptRanges", laid_unicode_utf8_acceptRanges), ("tabularium/utf.sizes", laid_tabularium_utf_sizes), ("tabularium/num.steps", laid_tabularium_num_steps), ("tabularium/lex.doubles", laid_tabularium_lex_doubles), ("unicode/utf8.first", laid_unicode_utf8_first)], narrowed := true }
def BodyJoinsUptoSaid : Prop := bodyJoinsUptoRow.holds Tryz.pinned (OpenSpec.upto bodyJoinsSpec)

/-- 'tabulariumlaw13.BodyComments', WHERE WHAT IT READS IS OF BULK AT MOST 1048576: true; the input reads as it did. -/
def bodyCommentsUptoRow : OpenClaim := { program := "ythmmgpbojbjihaagreatdoor", sum := "aaff7d586c90dc797a9c179e2c98a0be0234e5fa17a30fcd41949626f7a3dba5", func := "tabularium/tabulariumlaw13.BodyComments", spec := "bodyComments", inPlace := ["internal/bytealg.IndexByteString", "internal/bytealg.IndexString", "internal/abi.NoEscape"], unfollowed := true, recurses := true, named := ["tabularium/num.steps", "unicode/utf8.first", "unicode/utf8.acceptRanges", "tabularium/utf.sizes", "internal/bytealg.MaxLen", "tabularium/lex.doubles"], apart := false, laid := [("unicode/utf8.acceptRanges", laid_unicode_utf8_acceptRanges), ("tabularium/utf.sizes", laid_tabularium_utf_sizes), ("tabularium/num.steps", laid_tabularium_num_steps), ("tabularium/lex.doubles", laid_tabularium_lex_doubles), ("unicode/utf8.first", laid_unicode_utf8_first)], narrowed := true }
def BodyCommentsUptoSaid : Prop := bodyCommentsUptoRow.holds Tryz.pinned (OpenSpec.upto bodyCommentsSpec)

/-- 'tabulariumlaw13.BodySame', WHERE WHAT IT READS IS OF BULK AT MOST 1048576: true; the input reads as it did. -/
def bodySameUptoRow : OpenClaim := { program := "ythmmgpbojbjihaagreatdoor", sum := "aaff7d586c90dc797a9c179e2c98a0be0234e5fa17a30fcd41949626f7a3dba5", func := "tabularium/tabulariumlaw13.BodySame", spec := "bodySame", inPlace := ["internal/bytealg.IndexByteString", "internal/bytealg.IndexString", "internal/abi.NoEscape"], unfollowed := true, recurses := true, named := ["tabularium/num.steps", "unicode/utf8.first", "unicode/utf8.acceptRanges", "tabularium/utf.sizes", "internal/bytealg.MaxLen", "tabularium/lex.doubles"], loops := true, apart := false, laid := [("unicode/utf8.acceptRanges", laid_unicode_utf8_acceptRanges), ("tabularium/utf.sizes", laid_tabularium_utf_sizes), ("tabularium/num.steps", laid_tabularium_num_steps), ("tabularium/lex.doubles", laid_tabularium_lex_doubles), ("unicode/utf8.first", laid_unicode_utf8_first)], narrowed := true }
def BodySameUptoSaid : Prop := bodySameUptoRow.holds Tryz.pinned (OpenSpec.upto bodySameSpec)

end Rows
end Go.Proofs.YthmmgpbojbjihaaGreatDoor
