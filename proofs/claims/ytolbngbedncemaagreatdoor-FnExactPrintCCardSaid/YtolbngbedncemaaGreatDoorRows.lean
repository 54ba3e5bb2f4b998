/-
  NARROWER THAN 'FOR EVERY INPUT', by the rows' own cells (each row's printed sentence says how): FnExactPrintC: laid · FnExactParseC: laid · FnReparse: laid · FnPrintParse: laid.
  DERIVED. THE GIVEN ROWS OF THIS SEAT. 4 by the template 'for every input the law returns true; each argument reads behind the call as it read before'; 0 by the template 'total and deterministic' (their statements: YtolbngbedncemaaGreatDoorTotals.lean).
  GIVEN WITH THE SEED: the statements are not yours to turn. If you find one false, say at which input.
  Laid BY PROGRAM, IN A SANDBOX (cutbox-rows.mjs): the forced cells as the released guide's own fill.sh prints them over the translation 8a62c3468d992947… (all of the seat's roots in one cut). By AI agents, Wed Nov 11 2026. No macro, syntax, notation, axiom, sorry.
-/
import Derived.Test.YtolbngbedncemaaGreatDoorChecked
import GoSem.Claim
import GoSem.ClaimJoined
import GoSem.ClaimMapViews
import Derived.JoinedTies
import Derived.KernelRfl
namespace Go.Proofs.YtolbngbedncemaaGreatDoor
/- THE CELL 'sum', in the pinned program and in every row, IS THE sha256 OF THE DUMP (.gsa) THAT YtolbngbedncemaaGreatDoorProg.lean LOADS. Nothing in Lean hashes anything: it is a label: what it is worth is what the hold of that sum in a sandbox is worth. -/
noncomputable def Tryz.pinned : Pinned := { name := "ytolbngbedncemaagreatdoor", sum := "8a62c3468d9929470c3da72ccbcd74ca1c5c0b6aeb8d13b88190b20de1d0000a", checked := Tryz.checked }
namespace Rows
def none {H : Type} : Left H := { results := [], args := [] }

/- WHAT THE LISTED PACKAGE-LEVEL VARIABLES READ AS WHEN THE CALL BEGINS. Each datum BY PROGRAM (the guide's laid-datum.mjs) off the statement by which the dump's own 'gosem.cut.vars' lays the variable. In a bare row this is a premise. The card (YtolbngbedncemaaGreatDoorCards.lean) ties it to the program's text. -/
def laid_math_bits_deBruijn32tab {H : Type} : DataW H := .agg [.lit (.int .u8 0), .lit (.int .u8 1), .lit (.int .u8 28), .lit (.int .u8 2), .lit (.int .u8 29), .lit (.int .u8 14), .lit (.int .u8 24), .lit (.int .u8 3), .lit (.int .u8 30), .lit (.int .u8 22), .lit (.int .u8 20), .lit (.int .u8 15), .lit (.int .u8 25), .lit (.int .u8 17), .lit (.int .u8 4), .lit (.int .u8 8), .lit (.int .u8 31), .lit (.int .u8 27), .lit (.int .u8 13), .lit (.int .u8 23), .lit (.int .u8 21), .lit (.int .u8 19), .lit (.int .u8 16), .lit (.int .u8 7), .lit (.int .u8 26), .lit (.int .u8 12), .lit (.int .u8 18), .lit (.int .u8 6), .lit (.int .u8 11), .lit (.int .u8 5), .lit (.int .u8 10), .lit (.int .u8 9)]
def laid_math_bits_deBruijn64tab {H : Type} : DataW H := .agg [.lit (.int .u8 0), .lit (.int .u8 1), .lit (.int .u8 56), .lit (.int .u8 2), .lit (.int .u8 57), .lit (.int .u8 49), .lit (.int .u8 28), .lit (.int .u8 3), .lit (.int .u8 61), .lit (.int .u8 58), .lit (.int .u8 42), .lit (.int .u8 50), .lit (.int .u8 38), .lit (.int .u8 29), .lit (.int .u8 17), .lit (.int .u8 4), .lit (.int .u8 62), .lit (.int .u8 47), .lit (.int .u8 59), .lit (.int .u8 36), .lit (.int .u8 45), .lit (.int .u8 43), .lit (.int .u8 51), .lit (.int .u8 22), .lit (.int .u8 53), .lit (.int .u8 39), .lit (.int .u8 33), .lit (.int .u8 30), .lit (.int .u8 24), .lit (.int .u8 18), .lit (.int .u8 12), .lit (.int .u8 5), .lit (.int .u8 63), .lit (.int .u8 55), .lit (.int .u8 48), .lit (.int .u8 27), .lit (.int .u8 60), .lit (.int .u8 41), .lit (.int .u8 37), .lit (.int .u8 16), .lit (.int .u8 46), .lit (.int .u8 35), .lit (.int .u8 44), .lit (.int .u8 21), .lit (.int .u8 52), .lit (.int .u8 32), .lit (.int .u8 23), .lit (.int .u8 11), .lit (.int .u8 54), .lit (.int .u8 26), .lit (.int .u8 40), .lit (.int .u8 15), .lit (.int .u8 34), .lit (.int .u8 20), .lit (.int .u8 31), .lit (.int .u8 10), .lit (.int .u8 25), .lit (.int .u8 14), .lit (.int .u8 19), .lit (.int .u8 9), .lit (.int .u8 13), .lit (.int .u8 8), .lit (.int .u8 7), .lit (.int .u8 6)]
def laid_internal_strconv_uint64pow10 {H : Type} : DataW H := .agg [.lit (.int .u64 1), .lit (.int .u64 10), .lit (.int .u64 100), .lit (.int .u64 1000), .lit (.int .u64 10000), .lit (.int .u64 100000), .lit (.int .u64 1000000), .lit (.int .u64 10000000), .lit (.int .u64 100000000), .lit (.int .u64 1000000000), .lit (.int .u64 10000000000), .lit (.int .u64 100000000000), .lit (.int .u64 1000000000000), .lit (.int .u64 10000000000000), .lit (.int .u64 100000000000000), .lit (.int .u64 1000000000000000), .lit (.int .u64 10000000000000000), .lit (.int .u64 100000000000000000), .lit (.int .u64 1000000000000000000), .lit (.int .u64 10000000000000000000)]
def laid_bytes_ErrTooLarge {H : Type} : DataW H := .iface "*errors.errorString" (.ptr (.agg [.lit (.string [98, 121, 116, 101, 115, 46, 66, 117, 102, 102, 101, 114, 58, 32, 116, 111, 111, 32, 108, 97, 114, 103, 101])]))
def laid_loop_example_s01725_impl_reserved {H : Type} : DataW H := .slice [.lit (.string [105, 110, 116]), .lit (.string [105, 102]), .lit (.string [101, 108, 115, 101]), .lit (.string [119, 104, 105, 108, 101]), .lit (.string [114, 101, 116, 117, 114, 110]), .lit (.string [105, 110]), .lit (.string [111, 117, 116])] []
def laid_loop_example_s01725_impl_binOps {H : Type} : DataW H := .slice [.agg [.lit (.string [124, 124]), .lit (.int .i64 1), .agg [.lit (.int .i64 9), .lit (.int .i64 0), .lit (.string [])]], .agg [.lit (.string [38, 38]), .lit (.int .i64 2), .agg [.lit (.int .i64 8), .lit (.int .i64 0), .lit (.string [])]], .agg [.lit (.string [124]), .lit (.int .i64 3), .agg [.lit (.int .i64 7), .lit (.int .i64 15), .lit (.string [])]], .agg [.lit (.string [94]), .lit (.int .i64 4), .agg [.lit (.int .i64 7), .lit (.int .i64 14), .lit (.string [])]], .agg [.lit (.string [38]), .lit (.int .i64 5), .agg [.lit (.int .i64 7), .lit (.int .i64 13), .lit (.string [])]], .agg [.lit (.string [61, 61]), .lit (.int .i64 6), .agg [.lit (.int .i64 7), .lit (.int .i64 11), .lit (.string [])]], .agg [.lit (.string [33, 61]), .lit (.int .i64 6), .agg [.lit (.int .i64 7), .lit (.int .i64 12), .lit (.string [])]], .agg [.lit (.string [60]), .lit (.int .i64 7), .agg [.lit (.int .i64 7), .lit (.int .i64 7), .lit (.string [])]], .agg [.lit (.string [60, 61]), .lit (.int .i64 7), .agg [.lit (.int .i64 7), .lit (.int .i64 8), .lit (.string [])]], .agg [.lit (.string [62]), .lit (.int .i64 7), .agg [.lit (.int .i64 7), .lit (.int .i64 9), .lit (.string [])]], .agg [.lit (.string [62, 61]), .lit (.int .i64 7), .agg [.lit (.int .i64 7), .lit (.int .i64 10), .lit (.string [])]], .agg [.lit (.string [60, 60]), .lit (.int .i64 8), .agg [.lit (.int .i64 7), .lit (.int .i64 5), .lit (.string [])]], .agg [.lit (.string [62, 62]), .lit (.int .i64 8), .agg [.lit (.int .i64 7), .lit (.int .i64 6), .lit (.string [])]], .agg [.lit (.string [43]), .lit (.int .i64 9), .agg [.lit (.int .i64 7), .lit (.int .i64 3), .lit (.string [])]], .agg [.lit (.string [45]), .lit (.int .i64 9), .agg [.lit (.int .i64 7), .lit (.int .i64 4), .lit (.string [])]], .agg [.lit (.string [42]), .lit (.int .i64 10), .agg [.lit (.int .i64 7), .lit (.int .i64 0), .lit (.string [])]], .agg [.lit (.string [47]), .lit (.int .i64 10), .agg [.lit (.int .i64 7), .lit (.int .i64 1), .lit (.string [])]], .agg [.lit (.string [37]), .lit (.int .i64 10), .agg [.lit (.int .i64 7), .lit (.int .i64 2), .lit (.string [])]]] []
def laid_loop_example_s01725_impl_unSigns {H : Type} : DataW H := .agg [.lit (.string [45]), .lit (.string [33]), .lit (.string [126])]
def laid_strconv_ErrRange {H : Type} : DataW H := .iface "*errors.errorString" (.ptr (.agg [.lit (.string [118, 97, 108, 117, 101, 32, 111, 117, 116, 32, 111, 102, 32, 114, 97, 110, 103, 101])]))
def laid_strconv_ErrSyntax {H : Type} : DataW H := .iface "*errors.errorString" (.ptr (.agg [.lit (.string [105, 110, 118, 97, 108, 105, 100, 32, 115, 121, 110, 116, 97, 120])]))

/-- 'laws.FnExactPrintC': WHATEVER THE INPUT: true; the input reads as it did. -/
def fnExactPrintCSpec : ChangeSpec := { name := "fnExactPrintC", vars := ["loop.example/s01725/impl.reserved", "loop.example/s01725/impl.unSigns", "loop.example/s01725/impl.binOps"], fn := fun _ => fun
  | [d, g1, g2, g3] => { results := [.lit (.bool true)], args := [d], vars := [g1, g2, g3] }
  | _ => none }
def fnExactPrintCRow : OpenClaim := { program := "ytolbngbedncemaagreatdoor", sum := "8a62c3468d9929470c3da72ccbcd74ca1c5c0b6aeb8d13b88190b20de1d0000a", func := "loop.example/s01725/laws.FnExactPrintC", spec := "fnExactPrintC", inPlace := ["internal/abi.NoEscape", "internal/bytealg.MakeNoZero"], unfollowed := true, recurses := true, named := ["loop.example/s01725/impl.reserved", "bytes.ErrTooLarge", "internal/strconv.uint64pow10", "math/bits.deBruijn32tab", "math/bits.deBruijn64tab", "loop.example/s01725/impl.unSigns", "loop.example/s01725/impl.binOps"], apart := false, laid := [("math/bits.deBruijn32tab", laid_math_bits_deBruijn32tab), ("math/bits.deBruijn64tab", laid_math_bits_deBruijn64tab), ("internal/strconv.uint64pow10", laid_internal_strconv_uint64pow10), ("bytes.ErrTooLarge", laid_bytes_ErrTooLarge), ("loop.example/s01725/impl.reserved", laid_loop_example_s01725_impl_reserved), ("loop.example/s01725/impl.binOps", laid_loop_example_s01725_impl_binOps), ("loop.example/s01725/impl.unSigns", laid_loop_example_s01725_impl_unSigns)] }
def FnExactPrintCSaid : Prop := fnExactPrintCRow.holds Tryz.pinned (OpenSpec.ofChange fnExactPrintCSpec)

/-- ITS FALSE NEIGHBOUR: 'it returns false'. Refute it at one input. -/
def fnExactPrintCWrong : ChangeSpec := { name := "fnExactPrintC", vars := ["loop.example/s01725/impl.reserved", "loop.example/s01725/impl.unSigns", "loop.example/s01725/impl.binOps"], fn := fun _ => fun
  | [d, g1, g2, g3] => { results := [.lit (.bool false)], args := [d], vars := [g1, g2, g3] }
  | _ => none }
def FnExactPrintCWrongFalsely : Prop := fnExactPrintCRow.holds Tryz.pinned (OpenSpec.ofChange fnExactPrintCWrong)

/-- 'laws.FnExactParseC': WHATEVER THE INPUT: true; the input reads as it did. -/
def fnExactParseCSpec : ChangeSpec := { name := "fnExactParseC", vars := ["loop.example/s01725/impl.reserved", "loop.example/s01725/impl.unSigns", "loop.example/s01725/impl.binOps"], fn := fun _ => fun
  | [d, g1, g2, g3] => { results := [.lit (.bool true)], args := [d], vars := [g1, g2, g3] }
  | _ => none }
def fnExactParseCRow : OpenClaim := { program := "ytolbngbedncemaagreatdoor", sum := "8a62c3468d9929470c3da72ccbcd74ca1c5c0b6aeb8d13b88190b20de1d0000a", func := "loop.example/s01725/laws.FnExactParseC", spec := "fnExactParseC", unfollowed := true, recurses := true, named := ["loop.example/s01725/impl.reserved", "strconv.ErrSyntax", "strconv.ErrRange", "internal/strconv.uint64pow10", "math/bits.deBruijn32tab", "math/bits.deBruijn64tab", "loop.example/s01725/impl.unSigns", "loop.example/s01725/impl.binOps"], apart := false, laid := [("math/bits.deBruijn32tab", laid_math_bits_deBruijn32tab), ("math/bits.deBruijn64tab", laid_math_bits_deBruijn64tab), ("internal/strconv.uint64pow10", laid_internal_strconv_uint64pow10), ("strconv.ErrRange", laid_strconv_ErrRange), ("strconv.ErrSyntax", laid_strconv_ErrSyntax), ("loop.example/s01725/impl.reserved", laid_loop_example_s01725_impl_reserved), ("loop.example/s01725/impl.binOps", laid_loop_example_s01725_impl_binOps), ("loop.example/s01725/impl.unSigns", laid_loop_example_s01725_impl_unSigns)] }
def FnExactParseCSaid : Prop := fnExactParseCRow.holds Tryz.pinned (OpenSpec.ofChange fnExactParseCSpec)

/-- ITS FALSE NEIGHBOUR: 'it returns false'. Refute it at one input. -/
def fnExactParseCWrong : ChangeSpec := { name := "fnExactParseC", vars := ["loop.example/s01725/impl.reserved", "loop.example/s01725/impl.unSigns", "loop.example/s01725/impl.binOps"], fn := fun _ => fun
  | [d, g1, g2, g3] => { results := [.lit (.bool false)], args := [d], vars := [g1, g2, g3] }
  | _ => none }
def FnExactParseCWrongFalsely : Prop := fnExactParseCRow.holds Tryz.pinned (OpenSpec.ofChange fnExactParseCWrong)

/-- 'laws.FnReparse': WHATEVER THE INPUT: true; the input reads as it did. -/
def fnReparseSpec : ChangeSpec := { name := "fnReparse", vars := ["loop.example/s01725/impl.reserved", "loop.example/s01725/impl.unSigns", "loop.example/s01725/impl.binOps"], fn := fun _ => fun
  | [d, g1, g2, g3] => { results := [.lit (.bool true)], args := [d], vars := [g1, g2, g3] }
  | _ => none }
def fnReparseRow : OpenClaim := { program := "ytolbngbedncemaagreatdoor", sum := "8a62c3468d9929470c3da72ccbcd74ca1c5c0b6aeb8d13b88190b20de1d0000a", func := "loop.example/s01725/laws.FnReparse", spec := "fnReparse", inPlace := ["internal/abi.NoEscape", "internal/bytealg.MakeNoZero"], unfollowed := true, recurses := true, named := ["loop.example/s01725/impl.reserved", "strconv.ErrSyntax", "strconv.ErrRange", "internal/strconv.uint64pow10", "math/bits.deBruijn32tab", "math/bits.deBruijn64tab", "loop.example/s01725/impl.unSigns", "loop.example/s01725/impl.binOps", "bytes.ErrTooLarge"], apart := false, laid := [("math/bits.deBruijn32tab", laid_math_bits_deBruijn32tab), ("math/bits.deBruijn64tab", laid_math_bits_deBruijn64tab), ("internal/strconv.uint64pow10", laid_internal_strconv_uint64pow10), ("strconv.ErrRange", laid_strconv_ErrRange), ("strconv.ErrSyntax", laid_strconv_ErrSyntax), ("bytes.ErrTooLarge", laid_bytes_ErrTooLarge), ("loop.example/s01725/impl.reserved", laid_loop_example_s01725_impl_reserved), ("loop.example/s01725/impl.binOps", laid_loop_example_s01725_impl_binOps), ("loop.example/s01725/impl.unSigns", laid_loop_example_s01725_impl_unSigns)] }
def FnReparseSaid : Prop := fnReparseRow.holds Tryz.pinned (OpenSpec.ofChange fnReparseSpec)

/-- ITS FALSE NEIGHBOUR: 'it returns false'. Refute it at one input. -/
def fnReparseWrong : ChangeSpec := { name := "fnReparse", vars := ["loop.example/s01725/impl.reserved", "loop.example/s01725/impl.unSigns", "loop.example/s01725/impl.binOps"], fn := fun _ => fun
  | [d, g1, g2, g3] => { results := [.lit (.bool false)], args := [d], vars := [g1, g2, g3] }
  | _ => none }
def FnReparseWrongFalsely : Prop := fnReparseRow.holds Tryz.pinned (OpenSpec.ofChange fnReparseWrong)

/-- 'laws.FnPrintParse': WHATEVER THE INPUT: true; the input reads as it did. -/
def fnPrintParseSpec : ChangeSpec := { name := "fnPrintParse", vars := ["loop.example/s01725/impl.reserved", "loop.example/s01725/impl.unSigns", "loop.example/s01725/impl.binOps"], fn := fun _ => fun
  | [d, g1, g2, g3] => { results := [.lit (.bool true)], args := [d], vars := [g1, g2, g3] }
  | _ => none }
def fnPrintParseRow : OpenClaim := { program := "ytolbngbedncemaagreatdoor", sum := "8a62c3468d9929470c3da72ccbcd74ca1c5c0b6aeb8d13b88190b20de1d0000a", func := "loop.example/s01725/laws.FnPrintParse", spec := "fnPrintParse", inPlace := ["internal/abi.NoEscape", "internal/bytealg.MakeNoZero"], unfollowed := true, recurses := true, named := ["loop.example/s01725/impl.reserved", "bytes.ErrTooLarge", "internal/strconv.uint64pow10", "math/bits.deBruijn32tab", "math/bits.deBruijn64tab", "loop.example/s01725/impl.unSigns", "loop.example/s01725/impl.binOps", "strconv.ErrSyntax", "strconv.ErrRange"], apart := false, laid := [("math/bits.deBruijn32tab", laid_math_bits_deBruijn32tab), ("math/bits.deBruijn64tab", laid_math_bits_deBruijn64tab), ("internal/strconv.uint64pow10", laid_internal_strconv_uint64pow10), ("strconv.ErrRange", laid_strconv_ErrRange), ("strconv.ErrSyntax", laid_strconv_ErrSyntax), ("bytes.ErrTooLarge", laid_bytes_ErrTooLarge), ("loop.example/s01725/impl.reserved", laid_loop_example_s01725_impl_reserved), ("loop.example/s01725/impl.binOps", laid_loop_example_s01725_impl_binOps), ("loop.example/s01725/impl.unSigns", laid_loop_example_s01725_impl_unSigns)] }
def FnPrintParseSaid : Prop := fnPrintParseRow.holds Tryz.pinned (OpenSpec.ofChange fnPrintParseSpec)

/-- ITS FALSE NEIGHBOUR: 'it returns false'. Refute it at one input. -/
def fnPrintParseWrong : ChangeSpec := { name := "fnPrintParse", vars := ["loop.example/s01725/impl.reserved", "loop.example/s01725/impl.unSigns", "loop.example/s01725/impl.binOps"], fn := fun _ => fun
  | [d, g1, g2, g3] => { results := [.lit (.bool false)], args := [d], vars := [g1, g2, g3] }
  | _ => none }
def FnPrintParseWrongFalsely : Prop := fnPrintParseRow.holds Tryz.pinned (OpenSpec.ofChange fnPrintParseWrong)

/- THE SECOND FORM. 'bulk': how many values and letters a reading holds, each counted each time it is reached (what is shared counts as often as it is met; a slice's spare places count too). A statement '..UptoSaid' is the law's where the arguments, and the package variables that the reading takes, are together of bulk at most 1048576: NARROWER than '..Said'. Prove '..Said' where nothing that the law and all that it calls make is longer than what came in: it says more and counts as full. Else prove '..UptoSaid'. A law counts once. -/
mutual
def uptoBulk {H : Type} : DataW H → Nat
  | .lit (.string bytes) => bytes.length + 1
  | .lit _ => 1
  | .nil => 1
  | .ptr d => uptoBulk d + 1
  | .slice elems spare => uptoBulkAll elems + uptoBulkAll spare + 1
  | .agg parts => uptoBulkAll parts + 1
  | .iface _ d => uptoBulk d + 1
  | .map entries => uptoBulkEntries entries + 1
  | .held _ => 1
def uptoBulkAll {H : Type} : List (DataW H) → Nat
  | [] => 0
  | d :: r => uptoBulk d + uptoBulkAll r
def uptoBulkEntries {H : Type} : List (Lit × DataW H) → Nat
  | [] => 0
  | x :: r => uptoBulkEntry x + uptoBulkEntries r
def uptoBulkEntry {H : Type} : Lit × DataW H → Nat
  | (.string bytes, d) => bytes.length + uptoBulk d + 1
  | (_, d) => uptoBulk d + 1
 end
def uptoSmall : (H : Type) → List (DataW H) → Bool := fun _ ds => decide (uptoBulkAll ds ≤ 1048576)
def OpenSpec.upto (s : _root_.Go.ChangeSpec) : _root_.Go.OpenSpec := { _root_.Go.OpenSpec.ofChange s with cond := some uptoSmall }

/-- 'laws.FnExactPrintC', WHERE WHAT IT READS IS OF BULK AT MOST 1048576: true; the input reads as it did. -/
def fnExactPrintCUptoRow : OpenClaim := { program := "ytolbngbedncemaagreatdoor", sum := "8a62c3468d9929470c3da72ccbcd74ca1c5c0b6aeb8d13b88190b20de1d0000a", func := "loop.example/s01725/laws.FnExactPrintC", spec := "fnExactPrintC", inPlace := ["internal/abi.NoEscape", "internal/bytealg.MakeNoZero"], unfollowed := true, recurses := true, named := ["loop.example/s01725/impl.reserved", "bytes.ErrTooLarge", "internal/strconv.uint64pow10", "math/bits.deBruijn32tab", "math/bits.deBruijn64tab", "loop.example/s01725/impl.unSigns", "loop.example/s01725/impl.binOps"], apart := false, laid := [("math/bits.deBruijn32tab", laid_math_bits_deBruijn32tab), ("math/bits.deBruijn64tab", laid_math_bits_deBruijn64tab), ("internal/strconv.uint64pow10", laid_internal_strconv_uint64pow10), ("bytes.ErrTooLarge", laid_bytes_ErrTooLarge), ("loop.example/s01725/impl.reserved", laid_loop_example_s01725_impl_reserved), ("loop.example/s01725/impl.binOps", laid_loop_example_s01725_impl_binOps), ("loop.example/s01725/impl.unSigns", laid_loop_example_s01725_impl_unSigns)], narrowed := true }
def FnExactPrintCUptoSaid : Prop := fnExactPrintCUptoRow.holds Tryz.pinned (OpenSpec.upto fnExactPrintCSpec)

/-- 'laws.FnExactParseC', WHERE WHAT IT READS IS OF BULK AT MOST 1048576: true; the input reads as it did. -/
def fnExactParseCUptoRow : OpenClaim := { program := "ytolbngbedncemaagreatdoor", sum := "8a62c3468d9929470c3da72ccbcd74ca1c5c0b6aeb8d13b88190b20de1d0000a", func := "loop.example/s01725/laws.FnExactParseC", spec := "fnExactParseC", unfollowed := true, recurses := true, named := ["loop.example/s01725/impl.reserved", "strconv.ErrSyntax", "strconv.ErrRange", "internal/strconv.uint64pow10", "math/bits.deBruijn32tab", "math/bits.deBruijn64tab", "loop.example/s01725/impl.unSigns", "loop.example/s01725/impl.binOps"], apart := false, laid := [("math/bits.deBruijn32tab", laid_math_bits_deBruijn32tab), ("math/bits.deBruijn64tab", laid_math_bits_deBruijn64tab), ("internal/strconv.uint64pow10", laid_internal_strconv_uint64pow10), ("strconv.ErrRange", laid_strconv_ErrRange), ("strconv.ErrSyntax", laid_strconv_ErrSyntax), ("loop.example/s01725/impl.reserved", laid_loop_example_s01725_impl_reserved), ("loop.example/s01725/impl.binOps", laid_loop_example_s01725_impl_binOps), ("loop.example/s01725/impl.unSigns", laid_loop_example_s01725_impl_unSigns)], narrowed := true }
def FnExactParseCUptoSaid : Prop := fnExactParseCUptoRow.holds Tryz.pinned (OpenSpec.upto fnExactParseCSpec)

/-- 'laws.FnReparse', WHERE WHAT IT READS IS OF BULK AT MOST 1048576: true; the input reads as it did. -/
def fnReparseUptoRow : OpenClaim := { program := "ytolbngbedncemaagreatdoor", sum := "8a62c3468d9929470c3da72ccbcd74ca1c5c0b6aeb8d13b88190b20de1d0000a", func := "loop.example/s01725/laws.FnReparse", spec := "fnReparse", inPlace := ["internal/abi.NoEscape", "internal/bytealg.MakeNoZero"], unfollowed := true, recurses := true, named := ["loop.example/s01725/impl.reserved", "strconv.ErrSyntax", "strconv.ErrRange", "internal/strconv.uint64pow10", "math/bits.deBruijn32tab", "math/bits.deBruijn64tab", "loop.example/s01725/impl.unSigns", "loop.example/s01725/impl.binOps", "bytes.ErrTooLarge"], apart := false, laid := [("math/bits.deBruijn32tab", laid_math_bits_deBruijn32tab), ("math/bits.deBruijn64tab", laid_math_bits_deBruijn64tab), ("internal/strconv.uint64pow10", laid_internal_strconv_uint64pow10), ("strconv.ErrRange", laid_strconv_ErrRange), ("strconv.ErrSyntax", laid_strconv_ErrSyntax), ("bytes.ErrTooLarge", laid_bytes_ErrTooLarge), ("loop.example/s01725/impl.reserved", laid_loop_example_s01725_impl_reserved), ("loop.example/s01725/impl.binOps", laid_loop_example_s01725_impl_binOps), ("loop.example/s01725/impl.unSigns", laid_loop_example_s01725_impl_unSigns)], narrowed := true }
def FnReparseUptoSaid : Prop := fnReparseUptoRow.holds Tryz.pinned (OpenSpec.upto fnReparseSpec)

/-- 'laws.FnPrintParse', WHERE WHAT IT READS IS OF BULK AT MOST 1048576: true; the input reads as it did. -/
def fnPrintParseUptoRow : OpenClaim := { program := "ytolbngbedncemaagreatdoor", sum := "8a62c3468d9929470c3da72ccbcd74ca1c5c0b6aeb8d13b88190b20de1d0000a", func := "loop.example/s01725/laws.FnPrintParse", spec := "fnPrintParse", inPlace := ["internal/abi.NoEscape", "internal/bytealg.MakeNoZero"], unfollowed := true, recurses := true, named := ["loop.example/s01725/impl.reserved", "bytes.ErrTooLarge", "internal/strconv.uint64pow10", "math/bits.deBruijn32tab", "math/bits.deBruijn64tab", "loop.example/s01725/impl.unSigns", "loop.example/s01725/impl.binOps", "strconv.ErrSyntax", "strconv.ErrRange"], apart := false, laid := [("math/bits.deBruijn32tab", laid_math_bits_deBruijn32tab), ("math/bits.deBruijn64tab", laid_math_bits_deBruijn64tab), ("internal/strconv.uint64pow10", laid_internal_strconv_uint64pow10), ("strconv.ErrRange", laid_strconv_ErrRange), ("strconv.ErrSyntax", laid_strconv_ErrSyntax), ("bytes.ErrTooLarge", laid_bytes_ErrTooLarge), ("loop.example/s01725/impl.reserved", laid_loop_example_s01725_impl_reserved), ("loop.example/s01725/impl.binOps", laid_loop_example_s01725_impl_binOps), ("loop.example/s01725/impl.unSigns", laid_loop_example_s01725_impl_unSigns)], narrowed := true }
def FnPrintParseUptoSaid : Prop := fnPrintParseUptoRow.holds Tryz.pinned (OpenSpec.upto fnPrintParseSpec)

end Rows
end Go.Proofs.YtolbngbedncemaaGreatDoor
