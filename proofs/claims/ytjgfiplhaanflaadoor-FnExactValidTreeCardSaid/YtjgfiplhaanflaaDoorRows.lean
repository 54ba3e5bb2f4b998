/-
  NARROWER THAN 'FOR EVERY INPUT', by the rows' own cells (each row's printed sentence says how): FnExactValidTree: laid · FnFold: maps, laid.
  DERIVED. THE GIVEN ROWS OF THIS SEAT. 2 by the template 'for every input the law returns true; each argument reads behind the call as it read before'; 0 by the template 'total and deterministic' (their statements: YtjgfiplhaanflaaDoorTotals.lean).
  GIVEN WITH THE SEED: the statements are not yours to turn. If you find one false, say at which input.
  Laid BY PROGRAM, IN A SANDBOX (cutbox-rows.mjs): the forced cells as the released guide's own fill.sh prints them over the translation 3c0c7a56a2676a63… (all of the seat's roots in one cut). By AI agents, Wed Nov 11 2026. No macro, syntax, notation, axiom, sorry.
-/
import Derived.Test.YtjgfiplhaanflaaDoorChecked
import GoSem.Claim
import GoSem.ClaimJoined
import GoSem.ClaimMapViews
import Derived.JoinedTies
import Derived.KernelRfl
namespace Go.Proofs.YtjgfiplhaanflaaDoor
/- THE CELL 'sum', in the pinned program and in every row, IS THE sha256 OF THE DUMP (.gsa) THAT YtjgfiplhaanflaaDoorProg.lean LOADS. Nothing in Lean hashes anything: it is a label: what it is worth is what the hold of that sum in a sandbox is worth. -/
noncomputable def Tryd.pinned : Pinned := { name := "ytjgfiplhaanflaadoor", sum := "3c0c7a56a2676a6372f71735f8b3f1e7bc06d8ac492beb1f821809176d9326fa", checked := Tryd.checked }
namespace Rows
def none {H : Type} : Left H := { results := [], args := [] }

/- WHAT THE LISTED PACKAGE-LEVEL VARIABLES READ AS WHEN THE CALL BEGINS. Each datum BY PROGRAM (the guide's laid-datum.mjs) off the statement by which the dump's own 'gosem.cut.vars' lays the variable. In a bare row this is a premise. The card (YtjgfiplhaanflaaDoorCards.lean) ties it to the program's text. -/
def laid_loop_example_s01725_impl_reserved {H : Type} : DataW H := .slice [.lit (.string [105, 110, 116]), .lit (.string [105, 102]), .lit (.string [101, 108, 115, 101]), .lit (.string [119, 104, 105, 108, 101]), .lit (.string [114, 101, 116, 117, 114, 110]), .lit (.string [105, 110]), .lit (.string [111, 117, 116])] []
def laid_loop_example_s01725_impl_binRv {H : Type} : DataW H := .map [(.int .i64 0, .lit (.int .i64 31)), (.int .i64 1, .lit (.int .i64 32)), (.int .i64 2, .lit (.int .i64 33)), (.int .i64 3, .lit (.int .i64 21)), (.int .i64 4, .lit (.int .i64 22)), (.int .i64 5, .lit (.int .i64 23)), (.int .i64 6, .lit (.int .i64 28)), (.int .i64 7, .lit (.int .i64 24)), (.int .i64 13, .lit (.int .i64 30)), (.int .i64 14, .lit (.int .i64 26)), (.int .i64 15, .lit (.int .i64 29))]

/-- 'laws.FnExactValidTree': WHATEVER THE INPUT: true; the input reads as it did. -/
def fnExactValidTreeSpec : ChangeSpec := { name := "fnExactValidTree", vars := ["loop.example/s01725/impl.reserved"], fn := fun _ => fun
  | [d, g1] => { results := [.lit (.bool true)], args := [d], vars := [g1] }
  | _ => none }
def fnExactValidTreeRow : OpenClaim := { program := "ytjgfiplhaanflaadoor", sum := "3c0c7a56a2676a6372f71735f8b3f1e7bc06d8ac492beb1f821809176d9326fa", func := "loop.example/s01725/laws.FnExactValidTree", spec := "fnExactValidTree", unfollowed := true, recurses := true, named := ["loop.example/s01725/impl.reserved"], apart := false, laid := [("loop.example/s01725/impl.reserved", laid_loop_example_s01725_impl_reserved)] }
def FnExactValidTreeSaid : Prop := fnExactValidTreeRow.holds Tryd.pinned (OpenSpec.ofChange fnExactValidTreeSpec)

/-- ITS FALSE NEIGHBOUR: 'it returns false'. Refute it at one input. -/
def fnExactValidTreeWrong : ChangeSpec := { name := "fnExactValidTree", vars := ["loop.example/s01725/impl.reserved"], fn := fun _ => fun
  | [d, g1] => { results := [.lit (.bool false)], args := [d], vars := [g1] }
  | _ => none }
def FnExactValidTreeWrongFalsely : Prop := fnExactValidTreeRow.holds Tryd.pinned (OpenSpec.ofChange fnExactValidTreeWrong)

/-- 'laws.FnFold': WHATEVER THE INPUT: true; the input reads as it did. -/
def fnFoldSpec : ChangeSpec := { name := "fnFold", vars := ["loop.example/s01725/impl.reserved", "loop.example/s01725/impl.binRv"], fn := fun _ => fun
  | [d1, d2, g1, g2] => { results := [.lit (.bool true)], args := [d1, d2], vars := [g1, g2] }
  | _ => none }
def fnFoldRow : OpenClaim := { program := "ytjgfiplhaanflaadoor", sum := "3c0c7a56a2676a6372f71735f8b3f1e7bc06d8ac492beb1f821809176d9326fa", func := "loop.example/s01725/laws.FnFold", spec := "fnFold", unfollowed := true, recurses := true, named := ["loop.example/s01725/impl.reserved", "loop.example/s01725/impl.binRv"], maps := true, apart := false, laid := [("loop.example/s01725/impl.reserved", laid_loop_example_s01725_impl_reserved), ("loop.example/s01725/impl.binRv", laid_loop_example_s01725_impl_binRv)] }
def FnFoldSaid : Prop := fnFoldRow.holds Tryd.pinned (OpenSpec.ofChange fnFoldSpec)

/-- ITS FALSE NEIGHBOUR: 'it returns false'. Refute it at one input. -/
def fnFoldWrong : ChangeSpec := { name := "fnFold", vars := ["loop.example/s01725/impl.reserved", "loop.example/s01725/impl.binRv"], fn := fun _ => fun
  | [d1, d2, g1, g2] => { results := [.lit (.bool false)], args := [d1, d2], vars := [g1, g2] }
  | _ => none }
def FnFoldWrongFalsely : Prop := fnFoldRow.holds Tryd.pinned (OpenSpec.ofChange fnFoldWrong)

/- THE SECOND FORM. 'bulk': how many values and letters a reading holds, each counted each time it is reached (what is shared counts as often as it is met; a slice's spare places count too). A statement '..UptoSaid' is the law's where the arguments, and the package variables that the reading takes, are together of bulk at most 1048576: NARROWER than '..Said'. Prove '..Said' where nothing that the law and all that it calls make is longer than what came in: it says more and counts as full. Else prove '..UptoSaid'. A law counts once. -/
mutual
def uptoBulk {H : Type} : DataW H → Nat
  | .lit (.string bytes) => bytes.length + 1
  | .lit _ => 1
  | .nil => 1
  | .ptr d => uptoBulk d + 1
  | .slice elems spare => uptoBulkAll elems + uptoBulkAll spare + 1
  | .agg parts => uptoBulkAll parts + 1
  | .iface _ d => uptoBulk d + 1
  | .map entries => uptoBulkEntries entries + 1
  | .held _ => 1
def uptoBulkAll {H : Type} : List (DataW H) → Nat
  | [] => 0
  | d :: r => uptoBulk d + uptoBulkAll r
def uptoBulkEntries {H : Type} : List (Lit × DataW H) → Nat
  | [] => 0
  | x :: r => uptoBulkEntry x + uptoBulkEntries r
def uptoBulkEntry {H : Type} : Lit × DataW H → Nat
  | (.string bytes, d) => bytes.length + uptoBulk d + 1
  | (_, d) => uptoBulk d + 1
 end
def uptoSmall : (H : Type) → List (DataW H) → Bool := fun _ ds => decide (uptoBulkAll ds ≤ 1048576)
def OpenSpec.upto (s : _root_.Go.ChangeSpec) : _root_.Go.OpenSpec := { _root_.Go.OpenSpec.ofChange s with cond := some uptoSmall }

/-- 'laws.FnExactValidTree', WHERE WHAT IT READS IS OF BULK AT MOST 1048576: true; the input reads as it did. -/
def fnExactValidTreeUptoRow : OpenClaim := { program := "ytjgfiplhaanflaadoor", sum := "3c0c7a56a2676a6372f71735f8b3f1e7bc06d8ac492beb1f821809176d9326fa", func := "loop.example/s01725/laws.FnExactValidTree", spec := "fnExactValidTree", unfollowed := true, recurses := true, named := ["loop.example/s01725/impl.reserved"], apart := false, laid := [("loop.example/s01725/impl.reserved", laid_loop_example_s01725_impl_reserved)], narrowed := true }
def FnExactValidTreeUptoSaid : Prop := fnExactValidTreeUptoRow.holds Tryd.pinned (OpenSpec.upto fnExactValidTreeSpec)

/-- 'laws.FnFold', WHERE WHAT IT READS IS OF BULK AT MOST 1048576: true; the input reads as it did. -/
def fnFoldUptoRow : OpenClaim := { program := "ytjgfiplhaanflaadoor", sum := "3c0c7a56a2676a6372f71735f8b3f1e7bc06d8ac492beb1f821809176d9326fa", func := "loop.example/s01725/laws.FnFold", spec := "fnFold", unfollowed := true, recurses := true, named := ["loop.example/s01725/impl.reserved", "loop.example/s01725/impl.binRv"], maps := true, apart := false, laid := [("loop.example/s01725/impl.reserved", laid_loop_example_s01725_impl_reserved), ("loop.example/s01725/impl.binRv", laid_loop_example_s01725_impl_binRv)], narrowed := true }
def FnFoldUptoSaid : Prop := fnFoldUptoRow.holds Tryd.pinned (OpenSpec.upto fnFoldSpec)

end Rows
end Go.Proofs.YtjgfiplhaanflaaDoor
