/-
  NARROWER THAN 'FOR EVERY INPUT', by the rows' own cells (each row's printed sentence says how): UtfAll: laid · UtfOrder: laid · UtfPuts: laid · UtfValid: laid · UtfJoins: laid.
  DERIVED. THE GIVEN ROWS OF THIS SEAT. 5 by the template 'for every input the law returns true; each argument reads behind the call as it read before'; 0 by the template 'total and deterministic' (their statements: YthlmnbklhjcpnaaDoorTotals.lean).
  GIVEN WITH THE SEED: the statements are not yours to turn. If you find one false, say at which input.
  Laid BY PROGRAM, IN A SANDBOX (cutbox-rows.mjs): the forced cells as the released guide's own fill.sh prints them over the translation 6c6c4c1095a1fd6a… (all of the seat's roots in one cut). By AI agents, Wed Nov 11 2026. No macro, syntax, notation, axiom, sorry.
-/
import Derived.Test.YthlmnbklhjcpnaaDoorChecked
import GoSem.Claim
import GoSem.ClaimJoined
import GoSem.ClaimMapViews
import Derived.JoinedTies
import Derived.KernelRfl
namespace Go.Proofs.YthlmnbklhjcpnaaDoor
/- THE CELL 'sum', in the pinned program and in every row, IS THE sha256 OF THE DUMP (.gsa) THAT YthlmnbklhjcpnaaDoorProg.lean LOADS. Nothing in Lean hashes anything: it is a label: what it is worth is what the hold of that sum in a sandbox is worth. -/
noncomputable def Tryd.pinned : Pinned := { name := "ythlmnbklhjcpnaadoor", sum := "6c6c4c1095a1fd6ab68ca828530de8be63f655bdd9093dedf10262582aeb94d0", checked := Tryd.checked }
namespace Rows
def none {H : Type} : Left H := { results := [], args := [] }

/- WHAT THE LISTED PACKAGE-LEVEL VARIABLES READ AS WHEN THE CALL BEGINS. Each datum BY PROGRAM (the guide's laid-datum.mjs) off the statement by which the dump's own 'gosem.cut.vars' lays the variable. In a bare row this is a premise. The card (YthlmnbklhjcpnaaDoorCards.lean) ties it to the program's text. -/
def laid_tabularium_utf_sizes {H : Type} : DataW H := .agg [.lit (.int .i64 1), .lit (.int .i64 1), .lit (.int .i64 1), .lit (.int .i64 1), .lit (.int .i64 1), .lit (.int .i64 1), .lit (.int .i64 1), .lit (.int .i64 1), .lit (.int .i64 1), .lit (.int .i64 1), .lit (.int .i64 1), .lit (.int .i64 1), .lit (.int .i64 1), .lit (.int .i64 1), .lit (.int .i64 1), .lit (.int .i64 1), .lit (.int .i64 0), .lit (.int .i64 0), .lit (.int .i64 0), .lit (.int .i64 0), .lit (.int .i64 0), .lit (.int .i64 0), .lit (.int .i64 0), .lit (.int .i64 0), .lit (.int .i64 2), .lit (.int .i64 2), .lit (.int .i64 2), .lit (.int .i64 2), .lit (.int .i64 3), .lit (.int .i64 3), .lit (.int .i64 4), .lit (.int .i64 0)]

/-- 'tabulariumlaw02.UtfAll': WHATEVER THE INPUT: true; the input reads as it did. -/
def utfAllSpec : ChangeSpec := { name := "utfAll", fn := fun _ => fun
  | [d1, d2] => { results := [.lit (.bool true)], args := [d1, d2] }
  | _ => none }
def utfAllRow : OpenClaim := { program := "ythlmnbklhjcpnaadoor", sum := "6c6c4c1095a1fd6ab68ca828530de8be63f655bdd9093dedf10262582aeb94d0", func := "tabularium/tabulariumlaw02.UtfAll", spec := "utfAll", unfollowed := true, recurses := true, named := ["tabularium/utf.sizes"], apart := false, laid := [("tabularium/utf.sizes", laid_tabularium_utf_sizes)] }
def UtfAllSaid : Prop := utfAllRow.holds Tryd.pinned (OpenSpec.ofChange utfAllSpec)

/-- ITS FALSE NEIGHBOUR: 'it returns false'. Refute it at one input. -/
def utfAllWrong : ChangeSpec := { name := "utfAll", fn := fun _ => fun
  | [d1, d2] => { results := [.lit (.bool false)], args := [d1, d2] }
  | _ => none }
def UtfAllWrongFalsely : Prop := utfAllRow.holds Tryd.pinned (OpenSpec.ofChange utfAllWrong)

/-- 'tabulariumlaw02.UtfOrder': WHATEVER THE INPUT: true; the input reads as it did. -/
def utfOrderSpec : ChangeSpec := { name := "utfOrder", fn := fun _ => fun
  | [d1, d2] => { results := [.lit (.bool true)], args := [d1, d2] }
  | _ => none }
def utfOrderRow : OpenClaim := { program := "ythlmnbklhjcpnaadoor", sum := "6c6c4c1095a1fd6ab68ca828530de8be63f655bdd9093dedf10262582aeb94d0", func := "tabularium/tabulariumlaw02.UtfOrder", spec := "utfOrder", unfollowed := true, recurses := true, named := ["tabularium/utf.sizes"], apart := false, laid := [("tabularium/utf.sizes", laid_tabularium_utf_sizes)] }
def UtfOrderSaid : Prop := utfOrderRow.holds Tryd.pinned (OpenSpec.ofChange utfOrderSpec)

/-- ITS FALSE NEIGHBOUR: 'it returns false'. Refute it at one input. -/
def utfOrderWrong : ChangeSpec := { name := "utfOrder", fn := fun _ => fun
  | [d1, d2] => { results := [.lit (.bool false)], args := [d1, d2] }
  | _ => none }
def UtfOrderWrongFalsely : Prop := utfOrderRow.holds Tryd.pinned (OpenSpec.ofChange utfOrderWrong)

/-- 'tabulariumlaw02.UtfPuts': WHATEVER THE INPUT: true; the input reads as it did. -/
def utfPutsSpec : ChangeSpec := { name := "utfPuts", fn := fun _ => fun
  | [d] => { results := [.lit (.bool true)], args := [d] }
  | _ => none }
def utfPutsRow : OpenClaim := { program := "ythlmnbklhjcpnaadoor", sum := "6c6c4c1095a1fd6ab68ca828530de8be63f655bdd9093dedf10262582aeb94d0", func := "tabularium/tabulariumlaw02.UtfPuts", spec := "utfPuts", unfollowed := true, recurses := true, named := ["tabularium/utf.sizes"], apart := false, laid := [("tabularium/utf.sizes", laid_tabularium_utf_sizes)] }
def UtfPutsSaid : Prop := utfPutsRow.holds Tryd.pinned (OpenSpec.ofChange utfPutsSpec)

/-- ITS FALSE NEIGHBOUR: 'it returns false'. Refute it at one input. -/
def utfPutsWrong : ChangeSpec := { name := "utfPuts", fn := fun _ => fun
  | [d] => { results := [.lit (.bool false)], args := [d] }
  | _ => none }
def UtfPutsWrongFalsely : Prop := utfPutsRow.holds Tryd.pinned (OpenSpec.ofChange utfPutsWrong)

/-- 'tabulariumlaw02.UtfValid': WHATEVER THE INPUT: true; the input reads as it did. -/
def utfValidSpec : ChangeSpec := { name := "utfValid", fn := fun _ => fun
  | [d] => { results := [.lit (.bool true)], args := [d] }
  | _ => none }
def utfValidRow : OpenClaim := { program := "ythlmnbklhjcpnaadoor", sum := "6c6c4c1095a1fd6ab68ca828530de8be63f655bdd9093dedf10262582aeb94d0", func := "tabularium/tabulariumlaw02.UtfValid", spec := "utfValid", named := ["tabularium/utf.sizes"], apart := false, laid := [("tabularium/utf.sizes", laid_tabularium_utf_sizes)] }
def UtfValidSaid : Prop := utfValidRow.holds Tryd.pinned (OpenSpec.ofChange utfValidSpec)

/-- ITS FALSE NEIGHBOUR: 'it returns false'. Refute it at one input. -/
def utfValidWrong : ChangeSpec := { name := "utfValid", fn := fun _ => fun
  | [d] => { results := [.lit (.bool false)], args := [d] }
  | _ => none }
def UtfValidWrongFalsely : Prop := utfValidRow.holds Tryd.pinned (OpenSpec.ofChange utfValidWrong)

/-- 'tabulariumlaw02.UtfJoins': WHATEVER THE INPUT: true; the input reads as it did. -/
def utfJoinsSpec : ChangeSpec := { name := "utfJoins", fn := fun _ => fun
  | [d1, d2] => { results := [.lit (.bool true)], args := [d1, d2] }
  | _ => none }
def utfJoinsRow : OpenClaim := { program := "ythlmnbklhjcpnaadoor", sum := "6c6c4c1095a1fd6ab68ca828530de8be63f655bdd9093dedf10262582aeb94d0", func := "tabularium/tabulariumlaw02.UtfJoins", spec := "utfJoins", named := ["tabularium/utf.sizes"], apart := false, laid := [("tabularium/utf.sizes", laid_tabularium_utf_sizes)] }
def UtfJoinsSaid : Prop := utfJoinsRow.holds Tryd.pinned (OpenSpec.ofChange utfJoinsSpec)

/-- ITS FALSE NEIGHBOUR: 'it returns false'. Refute it at one input. -/
def utfJoinsWrong : ChangeSpec := { name := "utfJoins", fn := fun _ => fun
  | [d1, d2] => { results := [.lit (.bool false)], args := [d1, d2] }
  | _ => none }
def UtfJoinsWrongFalsely : Prop := utfJoinsRow.holds Tryd.pinned (OpenSpec.ofChange utfJoinsWrong)

/- THE SECOND FORM. 'bulk': how many values and letters a reading holds, each counted each time it is reached (what is shared counts as often as it is met; a slice's spare places count too). A statement '..UptoSaid' is the law's where the arguments, and the package variables that the reading takes, are together of bulk at most 1048576: NARROWER than '..Said'. Prove '..Said' where nothing that the law and all that it calls make is longer than what came in: it says more and counts as full. Else prove '..UptoSaid'. A law counts once. -/
mutual
def uptoBulk {H : Type} : DataW H → Nat
  | .lit (.string bytes) => bytes.length + 1
  | .lit _ => 1
  | .nil => 1
  | .ptr d => uptoBulk d + 1
  | .slice elems spare => uptoBulkAll elems + uptoBulkAll spare + 1
  | .agg parts => uptoBulkAll parts + 1
  | .iface _ d => uptoBulk d + 1
  | .map entries => uptoBulkEntries entries + 1
  | .held _ => 1
def uptoBulkAll {H : Type} : List (DataW H) → Nat
  | [] => 0
  | d :: r => uptoBulk d + uptoBulkAll r
def uptoBulkEntries {H : Type} : List (Lit × DataW H) → Nat
  | [] => 0
  | x :: r => uptoBulkEntry x + uptoBulkEntries r
def uptoBulkEntry {H : Type} : Lit × DataW H → Nat
  | (.string bytes, d) => bytes.length + uptoBulk d + 1
  | (_, d) => uptoBulk d + 1
 end
def uptoSmall : (H : Type) → List (DataW H) → Bool := fun _ ds => decide (uptoBulkAll ds ≤ 1048576)
def OpenSpec.upto (s : _root_.Go.ChangeSpec) : _root_.Go.OpenSpec := { _root_.Go.OpenSpec.ofChange s with cond := some uptoSmall }

/-- 'tabulariumlaw02.UtfAll', WHERE WHAT IT READS IS OF BULK AT MOST 1048576: true; the input reads as it did. -/
def utfAllUptoRow : OpenClaim := { program := "ythlmnbklhjcpnaadoor", sum := "6c6c4c1095a1fd6ab68ca828530de8be63f655bdd9093dedf10262582aeb94d0", func := "tabularium/tabulariumlaw02.UtfAll", spec := "utfAll", unfollowed := true, recurses := true, named := ["tabularium/utf.sizes"], apart := false, laid := [("tabularium/utf.sizes", laid_tabularium_utf_sizes)], narrowed := true }
def UtfAllUptoSaid : Prop := utfAllUptoRow.holds Tryd.pinned (OpenSpec.upto utfAllSpec)

/-- 'tabulariumlaw02.UtfOrder', WHERE WHAT IT READS IS OF BULK AT MOST 1048576: true; the input reads as it did. -/
def utfOrderUptoRow : OpenClaim := { program := "ythlmnbklhjcpnaadoor", sum := "6c6c4c1095a1fd6ab68ca828530de8be63f655bdd9093dedf10262582aeb94d0", func := "tabularium/tabulariumlaw02.UtfOrder", spec := "utfOrder", unfollowed := true, recurses := true, named := ["tabularium/utf.sizes"], apart := false, laid := [("tabularium/utf.sizes", laid_tabularium_utf_sizes)], narrowed := true }
def UtfOrderUptoSaid : Prop := utfOrderUptoRow.holds Tryd.pinned (OpenSpec.upto utfOrderSpec)

/-- 'tabulariumlaw02.UtfPuts', WHERE WHAT IT READS IS OF BULK AT MOST 1048576: true; the input reads as it did. -/
def utfPutsUptoRow : OpenClaim := { program := "ythlmnbklhjcpnaadoor", sum := "6c6c4c1095a1fd6ab68ca828530de8be63f655bdd9093dedf10262582aeb94d0", func := "tabularium/tabulariumlaw02.UtfPuts", spec := "utfPuts", unfollowed := true, recurses := true, named := ["tabularium/utf.sizes"], apart := false, laid := [("tabularium/utf.sizes", laid_tabularium_utf_sizes)], narrowed := true }
def UtfPutsUptoSaid : Prop := utfPutsUptoRow.holds Tryd.pinned (OpenSpec.upto utfPutsSpec)

/-- 'tabulariumlaw02.UtfValid', WHERE WHAT IT READS IS OF BULK AT MOST 1048576: true; the input reads as it did. -/
def utfValidUptoRow : OpenClaim := { program := "ythlmnbklhjcpnaadoor", sum := "6c6c4c1095a1fd6ab68ca828530de8be63f655bdd9093dedf10262582aeb94d0", func := "tabularium/tabulariumlaw02.UtfValid", spec := "utfValid", named := ["tabularium/utf.sizes"], apart := false, laid := [("tabularium/utf.sizes", laid_tabularium_utf_sizes)], narrowed := true }
def UtfValidUptoSaid : Prop := utfValidUptoRow.holds Tryd.pinned (OpenSpec.upto utfValidSpec)

/-- 'tabulariumlaw02.UtfJoins', WHERE WHAT IT READS IS OF BULK AT MOST 1048576: true; the input reads as it did. -/
def utfJoinsUptoRow : OpenClaim := { program := "ythlmnbklhjcpnaadoor", sum := "6c6c4c1095a1fd6ab68ca828530de8be63f655bdd9093dedf10262582aeb94d0", func := "tabularium/tabulariumlaw02.UtfJoins", spec := "utfJoins", named := ["tabularium/utf.sizes"], apart := false, laid := [("tabularium/utf.sizes", laid_tabularium_utf_sizes)], narrowed := true }
def UtfJoinsUptoSaid : Prop := utfJoinsUptoRow.holds Tryd.pinned (OpenSpec.upto utfJoinsSpec)

end Rows
end Go.Proofs.YthlmnbklhjcpnaaDoor
