/-
  NARROWER THAN 'FOR EVERY INPUT', by the rows' own cells (each row's printed sentence says how): LookGaps: laid · TidyForms: laid · TidyBlanks: laid · TidyMany: laid · TidyKeeps: laid · TidyWell: laid.
  DERIVED. THE GIVEN ROWS OF THIS SEAT. 6 by the template 'for every input the law returns true; each argument reads behind the call as it read before'; 0 by the template 'total and deterministic' (their statements: YtbcdaaobbebooaaGreatDoorTotals.lean).
  GIVEN WITH THE SEED: the statements are not yours to turn. If you find one false, say at which input.
  Laid BY PROGRAM, IN A SANDBOX (cutbox-rows.mjs): the forced cells as the released guide's own fill.sh prints them over the translation fa58a6a7c62dbce8… (all of the seat's roots in one cut). By AI agents, Wed Nov 11 2026. No macro, syntax, notation, axiom, sorry.
-/
import Derived.Test.YtbcdaaobbebooaaGreatDoorChecked
import GoSem.PinnedTables
import GoSem.Claim
import GoSem.ClaimJoined
import GoSem.ClaimMapViews
import Derived.JoinedTies
import Derived.KernelRfl
namespace Go.Proofs.YtbcdaaobbebooaaGreatDoor
/- THE CELL 'sum', in the pinned program and in every row, IS THE sha256 OF THE DUMP (.gsa) THAT YtbcdaaobbebooaaGreatDoorProg.lean LOADS. Nothing in Lean hashes anything: it is a label: what it is worth is what the hold of that sum in a sandbox is worth. -/
noncomputable def Tryz.pinned : Pinned := { name := "ytbcdaaobbebooaagreatdoor", sum := "fa58a6a7c62dbce8cb6e64e02213c887d08c2a42d358a951a7be3a1977d43eda", checked := Tryz.checked }
namespace Rows
def none {H : Type} : Left H := { results := [], args := [] }

/- WHAT THE LISTED PACKAGE-LEVEL VARIABLES READ AS WHEN THE CALL BEGINS. Each datum BY PROGRAM (the guide's laid-datum.mjs) off the statement by which the dump's own 'gosem.cut.vars' lays the variable. In a bare row this is a premise. The card (YtbcdaaobbebooaaGreatDoorCards.lean) ties it to the program's text. -/
def laid_unicode_utf8_acceptRanges {H : Type} : DataW H := .agg [.agg [.lit (.int .u8 128), .lit (.int .u8 191)], .agg [.lit (.int .u8 160), .lit (.int .u8 191)], .agg [.lit (.int .u8 128), .lit (.int .u8 159)], .agg [.lit (.int .u8 144), .lit (.int .u8 191)], .agg [.lit (.int .u8 128), .lit (.int .u8 143)], .agg [.lit (.int .u8 0), .lit (.int .u8 0)], .agg [.lit (.int .u8 0), .lit (.int .u8 0)], .agg [.lit (.int .u8 0), .lit (.int .u8 0)], .agg [.lit (.int .u8 0), .lit (.int .u8 0)], .agg [.lit (.int .u8 0), .lit (.int .u8 0)], .agg [.lit (.int .u8 0), .lit (.int .u8 0)], .agg [.lit (.int .u8 0), .lit (.int .u8 0)], .agg [.lit (.int .u8 0), .lit (.int .u8 0)], .agg [.lit (.int .u8 0), .lit (.int .u8 0)], .agg [.lit (.int .u8 0), .lit (.int .u8 0)], .agg [.lit (.int .u8 0), .lit (.int .u8 0)]]
def laid_tabularium_utf_sizes {H : Type} : DataW H := .agg [.lit (.int .i64 1), .lit (.int .i64 1), .lit (.int .i64 1), .lit (.int .i64 1), .lit (.int .i64 1), .lit (.int .i64 1), .lit (.int .i64 1), .lit (.int .i64 1), .lit (.int .i64 1), .lit (.int .i64 1), .lit (.int .i64 1), .lit (.int .i64 1), .lit (.int .i64 1), .lit (.int .i64 1), .lit (.int .i64 1), .lit (.int .i64 1), .lit (.int .i64 0), .lit (.int .i64 0), .lit (.int .i64 0), .lit (.int .i64 0), .lit (.int .i64 0), .lit (.int .i64 0), .lit (.int .i64 0), .lit (.int .i64 0), .lit (.int .i64 2), .lit (.int .i64 2), .lit (.int .i64 2), .lit (.int .i64 2), .lit (.int .i64 3), .lit (.int .i64 3), .lit (.int .i64 4), .lit (.int .i64 0)]
def laid_tabularium_num_steps {H : Type} : DataW H := .agg [.agg [.lit (.int .i64 1), .lit (.int .i64 9), .lit (.int .i64 2), .lit (.int .i64 3), .lit (.int .i64 9), .lit (.int .i64 9), .lit (.int .i64 9)], .agg [.lit (.int .i64 9), .lit (.int .i64 9), .lit (.int .i64 2), .lit (.int .i64 3), .lit (.int .i64 9), .lit (.int .i64 9), .lit (.int .i64 9)], .agg [.lit (.int .i64 9), .lit (.int .i64 9), .lit (.int .i64 9), .lit (.int .i64 9), .lit (.int .i64 4), .lit (.int .i64 6), .lit (.int .i64 9)], .agg [.lit (.int .i64 9), .lit (.int .i64 9), .lit (.int .i64 3), .lit (.int .i64 3), .lit (.int .i64 4), .lit (.int .i64 6), .lit (.int .i64 9)], .agg [.lit (.int .i64 9), .lit (.int .i64 9), .lit (.int .i64 5), .lit (.int .i64 5), .lit (.int .i64 9), .lit (.int .i64 9), .lit (.int .i64 9)], .agg [.lit (.int .i64 9), .lit (.int .i64 9), .lit (.int .i64 5), .lit (.int .i64 5), .lit (.int .i64 9), .lit (.int .i64 6), .lit (.int .i64 9)], .agg [.lit (.int .i64 7), .lit (.int .i64 7), .lit (.int .i64 8), .lit (.int .i64 8), .lit (.int .i64 9), .lit (.int .i64 9), .lit (.int .i64 9)], .agg [.lit (.int .i64 9), .lit (.int .i64 9), .lit (.int .i64 8), .lit (.int .i64 8), .lit (.int .i64 9), .lit (.int .i64 9), .lit (.int .i64 9)], .agg [.lit (.int .i64 9), .lit (.int .i64 9), .lit (.int .i64 8), .lit (.int .i64 8), .lit (.int .i64 9), .lit (.int .i64 9), .lit (.int .i64 9)]]
def laid_tabularium_lex_doubles {H : Type} : DataW H := .agg [.lit (.string [61, 61]), .lit (.string [33, 61]), .lit (.string [60, 61]), .lit (.string [62, 61]), .lit (.string [38, 38]), .lit (.string [124, 124])]
/-- One of Go's own tables, pinned by name: the form's constant. -/
def laid_unicode_utf8_first : DataW Unit := Go.Pinned.utf8First

/-- 'tabulariumlaw15.LookGaps': WHATEVER THE INPUT: true; the input reads as it did. -/
def lookGapsSpec : ChangeSpec := { name := "lookGaps", fn := fun _ => fun
  | [d1, d2] => { results := [.lit (.bool true)], args := [d1, d2] }
  | _ => none }
def lookGapsRow : OpenClaim := { program := "ytbcdaaobbebooaagreatdoor", sum := "fa58a6a7c62dbce8cb6e64e02213c887d08c2a42d358a951a7be3a1977d43eda", func := "tabularium/tabulariumlaw15.LookGaps", spec := "lookGaps", inPlace := ["internal/bytealg.IndexByteString", "internal/bytealg.IndexString", "internal/abi.NoEscape", "internal/bytealg.CountString"], unfollowed := true, recurses := true, named := ["tabularium/num.steps", "unicode/utf8.first", "unicode/utf8.acceptRanges", "tabularium/utf.sizes", "internal/bytealg.MaxLen", "tabularium/lex.doubles"], apart := false, laid := [("unicode/utf8.acceptRanges", laid_unicode_utf8_acceptRanges), ("tabularium/utf.sizes", laid_tabularium_utf_sizes), ("tabularium/num.steps", laid_tabularium_num_steps), ("tabularium/lex.doubles", laid_tabularium_lex_doubles), ("unicode/utf8.first", laid_unicode_utf8_first)] }
def LookGapsSaid : Prop := lookGapsRow.holds Tryz.pinned (OpenSpec.ofChange lookGapsSpec)

/-- ITS FALSE NEIGHBOUR: 'it returns false'. Refute it at one input. -/
def lookGapsWrong : ChangeSpec := { name := "lookGaps", fn := fun _ => fun
  | [d1, d2] => { results := [.lit (.bool false)], args := [d1, d2] }
  | _ => none }
def LookGapsWrongFalsely : Prop := lookGapsRow.holds Tryz.pinned (OpenSpec.ofChange lookGapsWrong)

/-- 'tabulariumlaw16.TidyForms': WHATEVER THE INPUT: true; the input reads as it did. -/
def tidyFormsSpec : ChangeSpec := { name := "tidyForms", fn := fun _ => fun
  | [d] => { results := [.lit (.bool true)], args := [d] }
  | _ => none }
def tidyFormsRow : OpenClaim := { program := "ytbcdaaobbebooaagreatdoor", sum := "fa58a6a7c62dbce8cb6e64e02213c887d08c2a42d358a951a7be3a1977d43eda", func := "tabularium/tabulariumlaw16.TidyForms", spec := "tidyForms", inPlace := ["internal/bytealg.IndexByteString", "internal/bytealg.IndexString", "internal/abi.NoEscape", "internal/bytealg.MakeNoZero"], unfollowed := true, recurses := true, named := ["tabularium/num.steps", "unicode/utf8.first", "unicode/utf8.acceptRanges", "tabularium/utf.sizes", "internal/bytealg.MaxLen", "tabularium/lex.doubles"], apart := false, laid := [("unicode/utf8.acceptRanges", laid_unicode_utf8_acceptRanges), ("tabularium/utf.sizes", laid_tabularium_utf_sizes), ("tabularium/num.steps", laid_tabularium_num_steps), ("tabularium/lex.doubles", laid_tabularium_lex_doubles), ("unicode/utf8.first", laid_unicode_utf8_first)] }
def TidyFormsSaid : Prop := tidyFormsRow.holds Tryz.pinned (OpenSpec.ofChange tidyFormsSpec)

/-- ITS FALSE NEIGHBOUR: 'it returns false'. Refute it at one input. -/
def tidyFormsWrong : ChangeSpec := { name := "tidyForms", fn := fun _ => fun
  | [d] => { results := [.lit (.bool false)], args := [d] }
  | _ => none }
def TidyFormsWrongFalsely : Prop := tidyFormsRow.holds Tryz.pinned (OpenSpec.ofChange tidyFormsWrong)

/-- 'tabulariumlaw16.TidyBlanks': WHATEVER THE INPUT: true; the input reads as it did. -/
def tidyBlanksSpec : ChangeSpec := { name := "tidyBlanks", fn := fun _ => fun
  | [d1, d2] => { results := [.lit (.bool true)], args := [d1, d2] }
  | _ => none }
def tidyBlanksRow : OpenClaim := { program := "ytbcdaaobbebooaagreatdoor", sum := "fa58a6a7c62dbce8cb6e64e02213c887d08c2a42d358a951a7be3a1977d43eda", func := "tabularium/tabulariumlaw16.TidyBlanks", spec := "tidyBlanks", inPlace := ["internal/bytealg.IndexByteString", "internal/bytealg.IndexString", "internal/abi.NoEscape", "internal/bytealg.MakeNoZero"], unfollowed := true, recurses := true, named := ["tabularium/num.steps", "unicode/utf8.first", "unicode/utf8.acceptRanges", "tabularium/utf.sizes", "internal/bytealg.MaxLen", "tabularium/lex.doubles"], apart := false, laid := [("unicode/utf8.acceptRanges", laid_unicode_utf8_acceptRanges), ("tabularium/utf.sizes", laid_tabularium_utf_sizes), ("tabularium/num.steps", laid_tabularium_num_steps), ("tabularium/lex.doubles", laid_tabularium_lex_doubles), ("unicode/utf8.first", laid_unicode_utf8_first)] }
def TidyBlanksSaid : Prop := tidyBlanksRow.holds Tryz.pinned (OpenSpec.ofChange tidyBlanksSpec)

/-- ITS FALSE NEIGHBOUR: 'it returns false'. Refute it at one input. -/
def tidyBlanksWrong : ChangeSpec := { name := "tidyBlanks", fn := fun _ => fun
  | [d1, d2] => { results := [.lit (.bool false)], args := [d1, d2] }
  | _ => none }
def TidyBlanksWrongFalsely : Prop := tidyBlanksRow.holds Tryz.pinned (OpenSpec.ofChange tidyBlanksWrong)

/-- 'tabulariumlaw16.TidyMany': WHATEVER THE INPUT: true; the input reads as it did. -/
def tidyManySpec : ChangeSpec := { name := "tidyMany", fn := fun _ => fun
  | [d] => { results := [.lit (.bool true)], args := [d] }
  | _ => none }
def tidyManyRow : OpenClaim := { program := "ytbcdaaobbebooaagreatdoor", sum := "fa58a6a7c62dbce8cb6e64e02213c887d08c2a42d358a951a7be3a1977d43eda", func := "tabularium/tabulariumlaw16.TidyMany", spec := "tidyMany", inPlace := ["internal/bytealg.IndexByteString", "internal/bytealg.IndexString", "internal/abi.NoEscape", "internal/bytealg.MakeNoZero"], unfollowed := true, recurses := true, named := ["tabularium/num.steps", "unicode/utf8.first", "unicode/utf8.acceptRanges", "tabularium/utf.sizes", "internal/bytealg.MaxLen", "tabularium/lex.doubles"], apart := false, laid := [("unicode/utf8.acceptRanges", laid_unicode_utf8_acceptRanges), ("tabularium/utf.sizes", laid_tabularium_utf_sizes), ("tabularium/num.steps", laid_tabularium_num_steps), ("tabularium/lex.doubles", laid_tabularium_lex_doubles), ("unicode/utf8.first", laid_unicode_utf8_first)] }
def TidyManySaid : Prop := tidyManyRow.holds Tryz.pinned (OpenSpec.ofChange tidyManySpec)

/-- ITS FALSE NEIGHBOUR: 'it returns false'. Refute it at one input. -/
def tidyManyWrong : ChangeSpec := { name := "tidyMany", fn := fun _ => fun
  | [d] => { results := [.lit (.bool false)], args := [d] }
  | _ => none }
def TidyManyWrongFalsely : Prop := tidyManyRow.holds Tryz.pinned (OpenSpec.ofChange tidyManyWrong)

/-- 'tabulariumlaw16.TidyKeeps': WHATEVER THE INPUT: true; the input reads as it did. -/
def tidyKeepsSpec : ChangeSpec := { name := "tidyKeeps", fn := fun _ => fun
  | [d] => { results := [.lit (.bool true)], args := [d] }
  | _ => none }
def tidyKeepsRow : OpenClaim := { program := "ytbcdaaobbebooaagreatdoor", sum := "fa58a6a7c62dbce8cb6e64e02213c887d08c2a42d358a951a7be3a1977d43eda", func := "tabularium/tabulariumlaw16.TidyKeeps", spec := "tidyKeeps", inPlace := ["internal/bytealg.IndexByteString", "internal/bytealg.IndexString", "internal/abi.NoEscape", "internal/bytealg.MakeNoZero"], unfollowed := true, recurses := true, named := ["tabularium/num.steps", "unicode/utf8.first", "unicode/utf8.acceptRanges", "tabularium/utf.sizes", "internal/bytealg.MaxLen", "tabularium/lex.doubles"], apart := false, laid := [("unicode/utf8.acceptRanges", laid_unicode_utf8_acceptRanges), ("tabularium/utf.sizes", laid_tabularium_utf_sizes), ("tabularium/num.steps", laid_tabularium_num_steps), ("tabularium/lex.doubles", laid_tabularium_lex_doubles), ("unicode/utf8.first", laid_unicode_utf8_first)] }
def TidyKeepsSaid : Prop := tidyKeepsRow.holds Tryz.pinned (OpenSpec.ofChange tidyKeepsSpec)

/-- ITS FALSE NEIGHBOUR: 'it returns false'. Refute it at one input. -/
def tidyKeepsWrong : ChangeSpec := { name := "tidyKeeps", fn := fun _ => fun
  | [d] => { results := [.lit (.bool false)], args := [d] }
  | _ => none }
def TidyKeepsWrongFalsely : Prop := tidyKeepsRow.holds Tryz.pinned (OpenSpec.ofChange tidyKeepsWrong)

/-- 'tabulariumlaw16.TidyWell': WHATEVER THE INPUT: true; the input reads as it did. -/
def tidyWellSpec : ChangeSpec := { name := "tidyWell", fn := fun _ => fun
  | [d] => { results := [.lit (.bool true)], args := [d] }
  | _ => none }
def tidyWellRow : OpenClaim := { program := "ytbcdaaobbebooaagreatdoor", sum := "fa58a6a7c62dbce8cb6e64e02213c887d08c2a42d358a951a7be3a1977d43eda", func := "tabularium/tabulariumlaw16.TidyWell", spec := "tidyWell", inPlace := ["internal/bytealg.IndexByteString", "internal/bytealg.IndexString", "internal/abi.NoEscape", "internal/bytealg.MakeNoZero", "internal/bytealg.CountString"], unfollowed := true, recurses := true, named := ["tabularium/num.steps", "unicode/utf8.first", "unicode/utf8.acceptRanges", "tabularium/utf.sizes", "internal/bytealg.MaxLen", "tabularium/lex.doubles"], apart := false, laid := [("unicode/utf8.acceptRanges", laid_unicode_utf8_acceptRanges), ("tabularium/utf.sizes", laid_tabularium_utf_sizes), ("tabularium/num.steps", laid_tabularium_num_steps), ("tabularium/lex.doubles", laid_tabularium_lex_doubles), ("unicode/utf8.first", laid_unicode_utf8_first)] }
def TidyWellSaid : Prop := tidyWellRow.holds Tryz.pinned (OpenSpec.ofChange tidyWellSpec)

/-- ITS FALSE NEIGHBOUR: 'it returns false'. Refute it at one input. -/
def tidyWellWrong : ChangeSpec := { name := "tidyWell", fn := fun _ => fun
  | [d] => { results := [.lit (.bool false)], args := [d] }
  | _ => none }
def TidyWellWrongFalsely : Prop := tidyWellRow.holds Tryz.pinned (OpenSpec.ofChange tidyWellWrong)

/- THE SECOND FORM. 'bulk': how many values and letters a reading holds, each counted each time it is reached (what is shared counts as often as it is met; a slice's spare places count too). A statement '..UptoSaid' is the law's where the arguments, and the package variables that the reading takes, are together of bulk at most 1048576: NARROWER than '..Said'. Prove '..Said' where nothing that the law and all that it calls make is longer than what came in: it says more and counts as full. Else prove '..UptoSaid'. A law counts once. -/
mutual
def uptoBulk {H : Type} : DataW H → Nat
  | .lit (.string bytes) => bytes.length + 1
  | .lit _ => 1
  | .nil => 1
  | .ptr d => uptoBulk d + 1
  | .slice elems spare => uptoBulkAll elems + uptoBulkAll spare + 1
  | .agg parts => uptoBulkAll parts + 1
  | .iface _ d => uptoBulk d + 1
  | .map entries => uptoBulkEntries entries + 1
  | .held _ => 1
def uptoBulkAll {H : Type} : List (DataW H) → Nat
  | [] => 0
  | d :: r => uptoBulk d + uptoBulkAll r
def uptoBulkEntries {H : Type} : List (Lit × DataW H) → Nat
  | [] => 0
  | x :: r => uptoBulkEntry x + uptoBulkEntries r
def uptoBulkEntry {H : Type} : Lit × DataW H → Nat
  | (.string bytes, d) => bytes.length + uptoBulk d + 1
  | (_, d) => uptoBulk d + 1
 end
def uptoSmall : (H : Type) → List (DataW H) → Bool := fun _ ds => decide (uptoBulkAll ds ≤ 1048576)
def OpenSpec.upto (s : _root_.Go.ChangeSpec) : _root_.Go.OpenSpec := { _root_.Go.OpenSpec.ofChange s with cond := some uptoSmall }

/-- 'tabulariumlaw15.LookGaps', WHERE WHAT IT READS IS OF BULK AT MOST 1048576: true; the input reads as it did. -/
def lookGapsUptoRow : OpenClaim := { program := "ytbcdaaobbebooaagreatdoor", sum := "fa58a6a7c62dbce8cb6e64e02213c887d08c2a42d358a951a7be3a1977d43eda", func := "tabularium/tabulariumlaw15.LookGaps", spec := "lookGaps", inPlace := ["internal/bytealg.IndexByteString", "internal/bytealg.IndexString", "internal/abi.NoEscape", "internal/bytealg.CountString"], unfollowed := true, recurses := true, named := ["tabularium/num.steps", "unicode/utf8.first", "unicode/utf8.acceptRanges", "tabularium/utf.sizes", "internal/bytealg.MaxLen", "tabularium/lex.doubles"], apart := false, laid := [("unicode/utf8.acceptRanges", laid_unicode_utf8_acceptRanges), ("tabularium/utf.sizes", laid_tabularium_utf_sizes), ("tabularium/num.steps", laid_tabularium_num_steps), ("tabularium/lex.doubles", laid_tabularium_lex_doubles), ("unicode/utf8.first", laid_unicode_utf8_first)], narrowed := true }
def LookGapsUptoSaid : Prop := lookGapsUptoRow.holds Tryz.pinned (OpenSpec.upto lookGapsSpec)

/-- 'tabulariumlaw16.TidyForms', WHERE WHAT IT READS IS OF BULK AT MOST 1048576: true; the input reads as it did. -/
def tidyFormsUptoRow : OpenClaim := { program := "ytbcdaaobbebooaagreatdoor", sum := "fa58a6a7c62dbce8cb6e64e02213c887d08c2a42d358a951a7be3a1977d43eda", func := "tabularium/tabulariumlaw16.TidyForms", spec := "tidyForms", inPlace := ["internal/bytealg.IndexByteString", "internal/bytealg.IndexString", "internal/abi.NoEscape", "internal/bytealg.MakeNoZero"], unfollowed := true, recurses := true, named := ["tabularium/num.steps", "unicode/utf8.first", "unicode/utf8.acceptRanges", "tabularium/utf.sizes", "internal/bytealg.MaxLen", "tabularium/lex.doubles"], apart := false, laid := [("unicode/utf8.acceptRanges", laid_unicode_utf8_acceptRanges), ("tabularium/utf.sizes", laid_tabularium_utf_sizes), ("tabularium/num.steps", laid_tabularium_num_steps), ("tabularium/lex.doubles", laid_tabularium_lex_doubles), ("unicode/utf8.first", laid_unicode_utf8_first)], narrowed := true }
def TidyFormsUptoSaid : Prop := tidyFormsUptoRow.holds Tryz.pinned (OpenSpec.upto tidyFormsSpec)

/-- 'tabulariumlaw16.TidyBlanks', WHERE WHAT IT READS IS OF BULK AT MOST 1048576: true; the input reads as it did. -/
def tidyBlanksUptoRow : OpenClaim := { program := "ytbcdaaobbebooaagreatdoor", sum := "fa58a6a7c62dbce8cb6e64e02213c887d08c2a42d358a951a7be3a1977d43eda", func := "tabularium/tabulariumlaw16.TidyBlanks", spec := "tidyBlanks", inPlace := ["internal/bytealg.IndexByteString", "internal/bytealg.IndexString", "internal/abi.NoEscape", "internal/bytealg.MakeNoZero"], unfollowed := true, recurses := true, named := ["tabularium/num.steps", "unicode/utf8.first", "unicode/utf8.acceptRanges", "tabularium/utf.sizes", "internal/bytealg.MaxLen", "tabularium/lex.doubles"], apart := false, laid := [("unicode/utf8.acceptRanges", laid_unicode_utf8_acceptRanges), ("tabularium/utf.sizes", laid_tabularium_utf_sizes), ("tabularium/num.steps", laid_tabularium_num_steps), ("tabularium/lex.doubles", laid_tabularium_lex_doubles), ("unicode/utf8.first", laid_unicode_utf8_first)], narrowed := true }
def TidyBlanksUptoSaid : Prop := tidyBlanksUptoRow.holds Tryz.pinned (OpenSpec.upto tidyBlanksSpec)

/-- 'tabulariumlaw16.TidyMany', WHERE WHAT IT READS IS OF BULK AT MOST 1048576: true; the input reads as it did. -/
def tidyManyUptoRow : OpenClaim := { program := "ytbcdaaobbebooaagreatdoor", sum := "fa58a6a7c62dbce8cb6e64e02213c887d08c2a42d358a951a7be3a1977d43eda", func := "tabularium/tabulariumlaw16.TidyMany", spec := "tidyMany", inPlace := ["internal/bytealg.IndexByteString", "internal/bytealg.IndexString", "internal/abi.NoEscape", "internal/bytealg.MakeNoZero"], unfollowed := true, recurses := true, named := ["tabularium/num.steps", "unicode/utf8.first", "unicode/utf8.acceptRanges", "tabularium/utf.sizes", "internal/bytealg.MaxLen", "tabularium/lex.doubles"], apart := false, laid := [("unicode/utf8.acceptRanges", laid_unicode_utf8_acceptRanges), ("tabularium/utf.sizes", laid_tabularium_utf_sizes), ("tabularium/num.steps", laid_tabularium_num_steps), ("tabularium/lex.doubles", laid_tabularium_lex_doubles), ("unicode/utf8.first", laid_unicode_utf8_first)], narrowed := true }
def TidyManyUptoSaid : Prop := tidyManyUptoRow.holds Tryz.pinned (OpenSpec.upto tidyManySpec)

/-- 'tabulariumlaw16.TidyKeeps', WHERE WHAT IT READS IS OF BULK AT MOST 1048576: true; the input reads as it did. -/
def tidyKeepsUptoRow : OpenClaim := { program := "ytbcdaaobbebooaagreatdoor", sum := "fa58a6a7c62dbce8cb6e64e02213c887d08c2a42d358a951a7be3a1977d43eda", func := "tabularium/tabulariumlaw16.TidyKeeps", spec := "tidyKeeps", inPlace := ["internal/bytealg.IndexByteString", "internal/bytealg.IndexString", "internal/abi.NoEscape", "internal/bytealg.MakeNoZero"], unfollowed := true, recurses := true, named := ["tabularium/num.steps", "unicode/utf8.first", "unicode/utf8.acceptRanges", "tabularium/utf.sizes", "internal/bytealg.MaxLen", "tabularium/lex.doubles"], apart := false, laid := [("unicode/utf8.acceptRanges", laid_unicode_utf8_acceptRanges), ("tabularium/utf.sizes", laid_tabularium_utf_sizes), ("tabularium/num.steps", laid_tabularium_num_steps), ("tabularium/lex.doubles", laid_tabularium_lex_doubles), ("unicode/utf8.first", laid_unicode_utf8_first)], narrowed := true }
def TidyKeepsUptoSaid : Prop := tidyKeepsUptoRow.holds Tryz.pinned (OpenSpec.upto tidyKeepsSpec)

/-- 'tabulariumlaw16.TidyWell', WHERE WHAT IT READS IS OF BULK AT MOST 1048576: true; the input reads as it did. -/
def tidyWellUptoRow : OpenClaim := { program := "ytbcdaaobbebooaagreatdoor", sum := "fa58a6a7c62dbce8cb6e64e02213c887d08c2a42d358a951a7be3a1977d43eda", func := "tabularium/tabulariumlaw16.TidyWell", spec := "tidyWell", inPlace := ["internal/bytealg.IndexByteString", "internal/bytealg.IndexString", "internal/abi.NoEscape", "internal/bytealg.MakeNoZero", "internal/bytealg.CountString"], unfollowed := true, recurses := true, named := ["tabularium/num.steps", "unicode/utf8.first", "unicode/utf8.acceptRanges", "tabularium/utf.sizes", "internal/bytealg.MaxLen", "tabularium/lex.doubles"], apart := false, laid := [("unicode/utf8.acceptRanges", laid_unicode_utf8_acceptRanges), ("tabularium/utf.sizes", laid_tabularium_utf_sizes), ("tabularium/num.steps", laid_tabularium_num_steps), ("tabularium/lex.doubles", laid_tabularium_lex_doubles), ("unicode/utf8.first", laid_unicode_utf8_first)], narrowed := true }
def TidyWellUptoSaid : Prop := tidyWellUptoRow.holds Tryz.pinned (OpenSpec.upto tidyWellSpec)

end Rows
end Go.Proofs.YtbcdaaobbebooaaGreatDoor
