-- PRINTED BY print.sh 35421559b90ae4d0a3588c463048766b98c2df88dd9212a6774a882060cdf62d: not written by this session
import Derived.Test.YtjgfiplhaanflaaProg
import Derived.Below
import Derived.Deep.Draws
import Derived.Deep.AppendLies
import Derived.Maps.AppendAt
import Derived.OwnWalk
import Derived.Laws.BytesArg
import Derived.Laws.MakeOwn
import Derived.Laws.OwnMore
import Derived.Deep.OwnRows
import Derived.Tactics
import Derived.Lib.ConvBytes
import Derived.Laws.Slices
import Derived.WalkKit
import Derived.KernelRfl
import Derived.RowKit3
import Derived.Deep.LoopGhost
import Derived.Deep.QuietTactic
import Derived.BigQuiet
import Derived.WideLaws
import Derived.Deep.DeepCutAuto
import Derived.Deep.CutBlock
import Derived.Deep.RegionHeld3
import Derived.Laws.Rows
import Derived.Lib.AppendStr
import Derived.ArgAppend
import Derived.Laws.IdiomCopy
import Derived.OrdersHeld
import Derived.Laws.BitsLemmas
import Derived.RowKit
import Derived.Test.YtjgfiplhaanflaaWWords
import Derived.Test.YtjgfiplhaanflaaWLast
import Derived.Test.YtjgfiplhaanflaaWTab
import Derived.Test.YtjgfiplhaanflaaWFour
import Derived.Test.YtjgfiplhaanflaaWQPut
import Derived.Test.YtjgfiplhaanflaaWApart
import Derived.Test.YtjgfiplhaanflaaWArr
import Derived.Test.YtjgfiplhaanflaaWZeros
import Derived.Test.YtjgfiplhaanflaaWFoot
import Derived.Test.YtjgfiplhaanflaaWKept
import Derived.Test.YtjgfiplhaanflaaWShare
import Derived.Test.YtjgfiplhaanflaaWN
import Derived.Test.YtjgfiplhaanflaaWFootNe
import Derived.Test.YtjgfiplhaanflaaWAt
import Derived.Test.YtjgfiplhaanflaaWEqStruct
import Derived.Test.YtjgfiplhaanflaaWRepsOne
import Derived.Test.YtjgfiplhaanflaaWInv
import Derived.Test.YtjgfiplhaanflaaWInvWords
import Derived.Test.YtjgfiplhaanflaaWGuard
import Derived.Test.YtjgfiplhaanflaaWNEv
import Derived.Test.YtjgfiplhaanflaaWMore
namespace Go.Proofs.Ytjgfiplhaanflaa.PFnExactBoot
open Go.RowKit Go.Proofs.YtjgfiplhaanflaaW.PrintWords Go.Proofs.YtjgfiplhaanflaaW.PrintLast Go.Proofs.YtjgfiplhaanflaaW.PrintMore
attribute [local go_sem] max2_int min2_int max_two min_two max_three min_three max_four min_four   -- for this text's walks alone
set_option linter.unusedVariables false
set_option linter.unusedSimpArgs false



def errW : Option Int → Value
  | none => .nilIface
  | some c => .iface 0 (.int .i64 c)
theorem errW_none : errW none = .nilIface := rfl
theorem errW_some (c : Int) : errW (some c) = .iface 0 (.int .i64 c) := rfl

theorem info2 : (Try.prog.info? 2).map (fun i => (i.zero, i.size, i.bytes)) = some (some (.int .i64 0), 1, 8) := by kernel_rfl
theorem info5 : (Try.prog.info? 5).map (fun i => (i.zero, i.size, i.bytes)) = some (some (.int .u8 0), 1, 1) := by kernel_rfl
theorem info32 : (Try.prog.info? 32).map (fun i => (i.zero, i.size, i.bytes)) = some (some (.int .u32 0), 1, 4) := by kernel_rfl
-- the values' own types

end Go.Proofs.Ytjgfiplhaanflaa.PFnExactBoot
