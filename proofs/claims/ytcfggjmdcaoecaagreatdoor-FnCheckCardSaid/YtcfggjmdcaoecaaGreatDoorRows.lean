/-
  NARROWER THAN 'FOR EVERY INPUT', by the rows' own cells (each row's printed sentence says how): FnExactCalls: laid · FnExactCheckC: laid · FnCheck: laid · FnExactBound: laid · FnExactFrames: laid · FnBound: laid.
  DERIVED. THE GIVEN ROWS OF THIS SEAT. 6 by the template 'for every input the law returns true; each argument reads behind the call as it read before'; 0 by the template 'total and deterministic' (their statements: YtcfggjmdcaoecaaGreatDoorTotals.lean).
  GIVEN WITH THE SEED: the statements are not yours to turn. If you find one false, say at which input.
  Laid BY PROGRAM, IN A SANDBOX (cutbox-rows.mjs): the forced cells as the released guide's own fill.sh prints them over the translation 874da1b53571c43b… (all of the seat's roots in one cut). By AI agents, Wed Nov 11 2026. No macro, syntax, notation, axiom, sorry.
-/
import Derived.Test.YtcfggjmdcaoecaaGreatDoorChecked
import GoSem.Claim
import GoSem.ClaimJoined
import GoSem.ClaimMapViews
import Derived.JoinedTies
import Derived.KernelRfl
namespace Go.Proofs.YtcfggjmdcaoecaaGreatDoor
/- THE CELL 'sum', in the pinned program and in every row, IS THE sha256 OF THE DUMP (.gsa) THAT YtcfggjmdcaoecaaGreatDoorProg.lean LOADS. Nothing in Lean hashes anything: it is a label: what it is worth is what the hold of that sum in a sandbox is worth. -/
noncomputable def Tryz.pinned : Pinned := { name := "ytcfggjmdcaoecaagreatdoor", sum := "874da1b53571c43b51c3cbb4c1eb47168912ee50245e06ffe469e6c152bc28d5", checked := Tryz.checked }
namespace Rows
def none {H : Type} : Left H := { results := [], args := [] }

/- WHAT THE LISTED PACKAGE-LEVEL VARIABLES READ AS WHEN THE CALL BEGINS. Each datum BY PROGRAM (the guide's laid-datum.mjs) off the statement by which the dump's own 'gosem.cut.vars' lays the variable. In a bare row this is a premise. The card (YtcfggjmdcaoecaaGreatDoorCards.lean) ties it to the program's text. -/
def laid_loop_example_s01725_impl_reserved {H : Type} : DataW H := .slice [.lit (.string [105, 110, 116]), .lit (.string [105, 102]), .lit (.string [101, 108, 115, 101]), .lit (.string [119, 104, 105, 108, 101]), .lit (.string [114, 101, 116, 117, 114, 110]), .lit (.string [105, 110]), .lit (.string [111, 117, 116])] []
def laid_errors_errorType {H : Type} : DataW H := .iface "internal/reflectlite.rtype" (.agg [.ptr (.lit (.string [101, 114, 114, 111, 114]))])

/-- 'laws.FnExactCalls': WHATEVER THE INPUT: true; the input reads as it did. -/
def fnExactCallsSpec : ChangeSpec := { name := "fnExactCalls", vars := ["loop.example/s01725/impl.reserved"], fn := fun _ => fun
  | [d1, d2, g1] => { results := [.lit (.bool true)], args := [d1, d2], vars := [g1] }
  | _ => none }
def fnExactCallsRow : OpenClaim := { program := "ytcfggjmdcaoecaagreatdoor", sum := "874da1b53571c43b51c3cbb4c1eb47168912ee50245e06ffe469e6c152bc28d5", func := "loop.example/s01725/laws.FnExactCalls", spec := "fnExactCalls", unfollowed := true, recurses := true, named := ["loop.example/s01725/impl.reserved"], apart := false, laid := [("loop.example/s01725/impl.reserved", laid_loop_example_s01725_impl_reserved)] }
def FnExactCallsSaid : Prop := fnExactCallsRow.holds Tryz.pinned (OpenSpec.ofChange fnExactCallsSpec)

/-- ITS FALSE NEIGHBOUR: 'it returns false'. Refute it at one input. -/
def fnExactCallsWrong : ChangeSpec := { name := "fnExactCalls", vars := ["loop.example/s01725/impl.reserved"], fn := fun _ => fun
  | [d1, d2, g1] => { results := [.lit (.bool false)], args := [d1, d2], vars := [g1] }
  | _ => none }
def FnExactCallsWrongFalsely : Prop := fnExactCallsRow.holds Tryz.pinned (OpenSpec.ofChange fnExactCallsWrong)

/-- 'laws.FnExactCheckC': WHATEVER THE INPUT: true; the input reads as it did. -/
def fnExactCheckCSpec : ChangeSpec := { name := "fnExactCheckC", vars := ["loop.example/s01725/impl.reserved"], fn := fun _ => fun
  | [d, g1] => { results := [.lit (.bool true)], args := [d], vars := [g1] }
  | _ => none }
def fnExactCheckCRow : OpenClaim := { program := "ytcfggjmdcaoecaagreatdoor", sum := "874da1b53571c43b51c3cbb4c1eb47168912ee50245e06ffe469e6c152bc28d5", func := "loop.example/s01725/laws.FnExactCheckC", spec := "fnExactCheckC", inPlace := ["internal/reflectlite.ValueOf", "(internal/reflectlite.Value).Type", "(internal/reflectlite.Value).IsNil", "internal/reflectlite.TypeOf", "(internal/reflectlite.Value).Elem", "(internal/reflectlite.Value).Set"], unfollowed := true, recurses := true, named := ["loop.example/s01725/impl.reserved", "errors.errorType"], apart := false, laid := [("errors.errorType", laid_errors_errorType), ("loop.example/s01725/impl.reserved", laid_loop_example_s01725_impl_reserved)] }
def FnExactCheckCSaid : Prop := fnExactCheckCRow.holds Tryz.pinned (OpenSpec.ofChange fnExactCheckCSpec)

/-- ITS FALSE NEIGHBOUR: 'it returns false'. Refute it at one input. -/
def fnExactCheckCWrong : ChangeSpec := { name := "fnExactCheckC", vars := ["loop.example/s01725/impl.reserved"], fn := fun _ => fun
  | [d, g1] => { results := [.lit (.bool false)], args := [d], vars := [g1] }
  | _ => none }
def FnExactCheckCWrongFalsely : Prop := fnExactCheckCRow.holds Tryz.pinned (OpenSpec.ofChange fnExactCheckCWrong)

/-- 'laws.FnCheck': WHATEVER THE INPUT: true; the input reads as it did. -/
def fnCheckSpec : ChangeSpec := { name := "fnCheck", vars := ["loop.example/s01725/impl.reserved"], fn := fun _ => fun
  | [d, g1] => { results := [.lit (.bool true)], args := [d], vars := [g1] }
  | _ => none }
def fnCheckRow : OpenClaim := { program := "ytcfggjmdcaoecaagreatdoor", sum := "874da1b53571c43b51c3cbb4c1eb47168912ee50245e06ffe469e6c152bc28d5", func := "loop.example/s01725/laws.FnCheck", spec := "fnCheck", inPlace := ["internal/reflectlite.ValueOf", "(internal/reflectlite.Value).Type", "(internal/reflectlite.Value).IsNil", "internal/reflectlite.TypeOf", "(internal/reflectlite.Value).Elem", "(internal/reflectlite.Value).Set"], unfollowed := true, recurses := true, named := ["loop.example/s01725/impl.reserved", "errors.errorType"], apart := false, laid := [("errors.errorType", laid_errors_errorType), ("loop.example/s01725/impl.reserved", laid_loop_example_s01725_impl_reserved)] }
def FnCheckSaid : Prop := fnCheckRow.holds Tryz.pinned (OpenSpec.ofChange fnCheckSpec)

/-- ITS FALSE NEIGHBOUR: 'it returns false'. Refute it at one input. -/
def fnCheckWrong : ChangeSpec := { name := "fnCheck", vars := ["loop.example/s01725/impl.reserved"], fn := fun _ => fun
  | [d, g1] => { results := [.lit (.bool false)], args := [d], vars := [g1] }
  | _ => none }
def FnCheckWrongFalsely : Prop := fnCheckRow.holds Tryz.pinned (OpenSpec.ofChange fnCheckWrong)

/-- 'laws.FnExactBound': WHATEVER THE INPUT: true; the input reads as it did. -/
def fnExactBoundSpec : ChangeSpec := { name := "fnExactBound", vars := ["loop.example/s01725/impl.reserved"], fn := fun _ => fun
  | [d, g1] => { results := [.lit (.bool true)], args := [d], vars := [g1] }
  | _ => none }
def fnExactBoundRow : OpenClaim := { program := "ytcfggjmdcaoecaagreatdoor", sum := "874da1b53571c43b51c3cbb4c1eb47168912ee50245e06ffe469e6c152bc28d5", func := "loop.example/s01725/laws.FnExactBound", spec := "fnExactBound", unfollowed := true, recurses := true, named := ["loop.example/s01725/impl.reserved"], apart := false, laid := [("loop.example/s01725/impl.reserved", laid_loop_example_s01725_impl_reserved)] }
def FnExactBoundSaid : Prop := fnExactBoundRow.holds Tryz.pinned (OpenSpec.ofChange fnExactBoundSpec)

/-- ITS FALSE NEIGHBOUR: 'it returns false'. Refute it at one input. -/
def fnExactBoundWrong : ChangeSpec := { name := "fnExactBound", vars := ["loop.example/s01725/impl.reserved"], fn := fun _ => fun
  | [d, g1] => { results := [.lit (.bool false)], args := [d], vars := [g1] }
  | _ => none }
def FnExactBoundWrongFalsely : Prop := fnExactBoundRow.holds Tryz.pinned (OpenSpec.ofChange fnExactBoundWrong)

/-- 'laws.FnExactFrames': WHATEVER THE INPUT: true; the input reads as it did. -/
def fnExactFramesSpec : ChangeSpec := { name := "fnExactFrames", vars := ["loop.example/s01725/impl.reserved"], fn := fun _ => fun
  | [d, g1] => { results := [.lit (.bool true)], args := [d], vars := [g1] }
  | _ => none }
def fnExactFramesRow : OpenClaim := { program := "ytcfggjmdcaoecaagreatdoor", sum := "874da1b53571c43b51c3cbb4c1eb47168912ee50245e06ffe469e6c152bc28d5", func := "loop.example/s01725/laws.FnExactFrames", spec := "fnExactFrames", unfollowed := true, recurses := true, named := ["loop.example/s01725/impl.reserved"], apart := false, laid := [("loop.example/s01725/impl.reserved", laid_loop_example_s01725_impl_reserved)] }
def FnExactFramesSaid : Prop := fnExactFramesRow.holds Tryz.pinned (OpenSpec.ofChange fnExactFramesSpec)

/-- ITS FALSE NEIGHBOUR: 'it returns false'. Refute it at one input. -/
def fnExactFramesWrong : ChangeSpec := { name := "fnExactFrames", vars := ["loop.example/s01725/impl.reserved"], fn := fun _ => fun
  | [d, g1] => { results := [.lit (.bool false)], args := [d], vars := [g1] }
  | _ => none }
def FnExactFramesWrongFalsely : Prop := fnExactFramesRow.holds Tryz.pinned (OpenSpec.ofChange fnExactFramesWrong)

/-- 'laws.FnBound': WHATEVER THE INPUT: true; the input reads as it did. -/
def fnBoundSpec : ChangeSpec := { name := "fnBound", vars := ["loop.example/s01725/impl.reserved"], fn := fun _ => fun
  | [d, g1] => { results := [.lit (.bool true)], args := [d], vars := [g1] }
  | _ => none }
def fnBoundRow : OpenClaim := { program := "ytcfggjmdcaoecaagreatdoor", sum := "874da1b53571c43b51c3cbb4c1eb47168912ee50245e06ffe469e6c152bc28d5", func := "loop.example/s01725/laws.FnBound", spec := "fnBound", unfollowed := true, recurses := true, named := ["loop.example/s01725/impl.reserved"], apart := false, laid := [("loop.example/s01725/impl.reserved", laid_loop_example_s01725_impl_reserved)] }
def FnBoundSaid : Prop := fnBoundRow.holds Tryz.pinned (OpenSpec.ofChange fnBoundSpec)

/-- ITS FALSE NEIGHBOUR: 'it returns false'. Refute it at one input. -/
def fnBoundWrong : ChangeSpec := { name := "fnBound", vars := ["loop.example/s01725/impl.reserved"], fn := fun _ => fun
  | [d, g1] => { results := [.lit (.bool false)], args := [d], vars := [g1] }
  | _ => none }
def FnBoundWrongFalsely : Prop := fnBoundRow.holds Tryz.pinned (OpenSpec.ofChange fnBoundWrong)

/- THE SECOND FORM. 'bulk': how many values and letters a reading holds, each counted each time it is reached (what is shared counts as often as it is met; a slice's spare places count too). A statement '..UptoSaid' is the law's where the arguments, and the package variables that the reading takes, are together of bulk at most 1048576: NARROWER than '..Said'. Prove '..Said' where nothing that the law and all that it calls make is longer than what came in: it says more and counts as full. Else prove '..UptoSaid'. A law counts once. -/
mutual
def uptoBulk {H : Type} : DataW H → Nat
  | .lit (.string bytes) => bytes.length + 1
  | .lit _ => 1
  | .nil => 1
  | .ptr d => uptoBulk d + 1
  | .slice elems spare => uptoBulkAll elems + uptoBulkAll spare + 1
  | .agg parts => uptoBulkAll parts + 1
  | .iface _ d => uptoBulk d + 1
  | .map entries => uptoBulkEntries entries + 1
  | .held _ => 1
def uptoBulkAll {H : Type} : List (DataW H) → Nat
  | [] => 0
  | d :: r => uptoBulk d + uptoBulkAll r
def uptoBulkEntries {H : Type} : List (Lit × DataW H) → Nat
  | [] => 0
  | x :: r => uptoBulkEntry x + uptoBulkEntries r
def uptoBulkEntry {H : Type} : Lit × DataW H → Nat
  | (.string bytes, d) => bytes.length + uptoBulk d + 1
  | (_, d) => uptoBulk d + 1
 end
def uptoSmall : (H : Type) → List (DataW H) → Bool := fun _ ds => decide (uptoBulkAll ds ≤ 1048576)
def OpenSpec.upto (s : _root_.Go.ChangeSpec) : _root_.Go.OpenSpec := { _root_.Go.OpenSpec.ofChange s with cond := some uptoSmall }

/-- 'laws.FnExactCalls', WHERE WHAT IT READS IS OF BULK AT MOST 1048576: true; the input reads as it did. -/
def fnExactCallsUptoRow : OpenClaim := { program := "ytcfggjmdcaoecaagreatdoor", sum := "874da1b53571c43b51c3cbb4c1eb47168912ee50245e06ffe469e6c152bc28d5", func := "loop.example/s01725/laws.FnExactCalls", spec := "fnExactCalls", unfollowed := true, recurses := true, named := ["loop.example/s01725/impl.reserved"], apart := false, laid := [("loop.example/s01725/impl.reserved", laid_loop_example_s01725_impl_reserved)], narrowed := true }
def FnExactCallsUptoSaid : Prop := fnExactCallsUptoRow.holds Tryz.pinned (OpenSpec.upto fnExactCallsSpec)

/-- 'laws.FnExactCheckC', WHERE WHAT IT READS IS OF BULK AT MOST 1048576: true; the input reads as it did. -/
def fnExactCheckCUptoRow : OpenClaim := { program := "ytcfggjmdcaoecaagreatdoor", sum := "874da1b53571c43b51c3cbb4c1eb47168912ee50245e06ffe469e6c152bc28d5", func := "loop.example/s01725/laws.FnExactCheckC", spec := "fnExactCheckC", inPlace := ["internal/reflectlite.ValueOf", "(internal/reflectlite.Value).Type", "(internal/reflectlite.Value).IsNil", "internal/reflectlite.TypeOf", "(internal/reflectlite.Value).Elem", "(internal/reflectlite.Value).Set"], unfollowed := true, recurses := true, named := ["loop.example/s01725/impl.reserved", "errors.errorType"], apart := false, laid := [("errors.errorType", laid_errors_errorType), ("loop.example/s01725/impl.reserved", laid_loop_example_s01725_impl_reserved)], narrowed := true }
def FnExactCheckCUptoSaid : Prop := fnExactCheckCUptoRow.holds Tryz.pinned (OpenSpec.upto fnExactCheckCSpec)

/-- 'laws.FnCheck', WHERE WHAT IT READS IS OF BULK AT MOST 1048576: true; the input reads as it did. -/
def fnCheckUptoRow : OpenClaim := { program := "ytcfggjmdcaoecaagreatdoor", sum := "874da1b53571c43b51c3cbb4c1eb47168912ee50245e06ffe469e6c152bc28d5", func := "loop.example/s01725/laws.FnCheck", spec := "fnCheck", inPlace := ["internal/reflectlite.ValueOf", "(internal/reflectlite.Value).Type", "(internal/reflectlite.Value).IsNil", "internal/reflectlite.TypeOf", "(internal/reflectlite.Value).Elem", "(internal/reflectlite.Value).Set"], unfollowed := true, recurses := true, named := ["loop.example/s01725/impl.reserved", "errors.errorType"], apart := false, laid := [("errors.errorType", laid_errors_errorType), ("loop.example/s01725/impl.reserved", laid_loop_example_s01725_impl_reserved)], narrowed := true }
def FnCheckUptoSaid : Prop := fnCheckUptoRow.holds Tryz.pinned (OpenSpec.upto fnCheckSpec)

/-- 'laws.FnExactBound', WHERE WHAT IT READS IS OF BULK AT MOST 1048576: true; the input reads as it did. -/
def fnExactBoundUptoRow : OpenClaim := { program := "ytcfggjmdcaoecaagreatdoor", sum := "874da1b53571c43b51c3cbb4c1eb47168912ee50245e06ffe469e6c152bc28d5", func := "loop.example/s01725/laws.FnExactBound", spec := "fnExactBound", unfollowed := true, recurses := true, named := ["loop.example/s01725/impl.reserved"], apart := false, laid := [("loop.example/s01725/impl.reserved", laid_loop_example_s01725_impl_reserved)], narrowed := true }
def FnExactBoundUptoSaid : Prop := fnExactBoundUptoRow.holds Tryz.pinned (OpenSpec.upto fnExactBoundSpec)

/-- 'laws.FnExactFrames', WHERE WHAT IT READS IS OF BULK AT MOST 1048576: true; the input reads as it did. -/
def fnExactFramesUptoRow : OpenClaim := { program := "ytcfggjmdcaoecaagreatdoor", sum := "874da1b53571c43b51c3cbb4c1eb47168912ee50245e06ffe469e6c152bc28d5", func := "loop.example/s01725/laws.FnExactFrames", spec := "fnExactFrames", unfollowed := true, recurses := true, named := ["loop.example/s01725/impl.reserved"], apart := false, laid := [("loop.example/s01725/impl.reserved", laid_loop_example_s01725_impl_reserved)], narrowed := true }
def FnExactFramesUptoSaid : Prop := fnExactFramesUptoRow.holds Tryz.pinned (OpenSpec.upto fnExactFramesSpec)

/-- 'laws.FnBound', WHERE WHAT IT READS IS OF BULK AT MOST 1048576: true; the input reads as it did. -/
def fnBoundUptoRow : OpenClaim := { program := "ytcfggjmdcaoecaagreatdoor", sum := "874da1b53571c43b51c3cbb4c1eb47168912ee50245e06ffe469e6c152bc28d5", func := "loop.example/s01725/laws.FnBound", spec := "fnBound", unfollowed := true, recurses := true, named := ["loop.example/s01725/impl.reserved"], apart := false, laid := [("loop.example/s01725/impl.reserved", laid_loop_example_s01725_impl_reserved)], narrowed := true }
def FnBoundUptoSaid : Prop := fnBoundUptoRow.holds Tryz.pinned (OpenSpec.upto fnBoundSpec)

end Rows
end Go.Proofs.YtcfggjmdcaoecaaGreatDoor
