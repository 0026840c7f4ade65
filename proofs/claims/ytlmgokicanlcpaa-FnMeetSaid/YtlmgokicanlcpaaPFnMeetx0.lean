-- PRINTED BY print.sh 35421559b90ae4d0a3588c463048766b98c2df88dd9212a6774a882060cdf62d: not written by this session
import Derived.Test.YtlmgokicanlcpaaProg
import Derived.Below
import Derived.Deep.Draws
import Derived.Deep.AppendLies
import Derived.Maps.AppendAt
import Derived.OwnWalk
import Derived.Laws.BytesArg
import Derived.Laws.MakeOwn
import Derived.Laws.OwnMore
import Derived.Deep.OwnRows
import Derived.Tactics
import Derived.Lib.ConvBytes
import Derived.Laws.Slices
import Derived.WalkKit
import Derived.KernelRfl
import Derived.RowKit3
import Derived.Deep.LoopGhost
import Derived.Deep.QuietTactic
import Derived.BigQuiet
import Derived.WideLaws
import Derived.Deep.DeepCutAuto
import Derived.Deep.CutBlock
import Derived.Deep.RegionHeld3
import Derived.Laws.Rows
import Derived.Lib.AppendStr
import Derived.ArgAppend
import Derived.Laws.IdiomCopy
import Derived.OrdersHeld
import Derived.Laws.BitsLemmas
import Derived.RowKit
import Derived.Test.YtlmgokicanlcpaaWWords
import Derived.Test.YtlmgokicanlcpaaWLast
import Derived.Test.YtlmgokicanlcpaaWTab
import Derived.Test.YtlmgokicanlcpaaWFour
import Derived.Test.YtlmgokicanlcpaaWQPut
import Derived.Test.YtlmgokicanlcpaaWApart
import Derived.Test.YtlmgokicanlcpaaWArr
import Derived.Test.YtlmgokicanlcpaaWZeros
import Derived.Test.YtlmgokicanlcpaaWFoot
import Derived.Test.YtlmgokicanlcpaaWKept
import Derived.Test.YtlmgokicanlcpaaWShare
import Derived.Test.YtlmgokicanlcpaaWN
import Derived.Test.YtlmgokicanlcpaaWFootNe
import Derived.Test.YtlmgokicanlcpaaWAt
import Derived.Test.YtlmgokicanlcpaaWEqStruct
import Derived.Test.YtlmgokicanlcpaaWRepsOne
import Derived.Test.YtlmgokicanlcpaaWInv
import Derived.Test.YtlmgokicanlcpaaWInvWords
import Derived.Test.YtlmgokicanlcpaaWGuard
import Derived.Test.YtlmgokicanlcpaaWNEv
import Derived.Test.YtlmgokicanlcpaaWMore
namespace Go.Proofs.Ytlmgokicanlcpaa.PFnMeet
open Go.RowKit Go.Proofs.YtlmgokicanlcpaaW.PrintWords Go.Proofs.YtlmgokicanlcpaaW.PrintLast Go.Proofs.YtlmgokicanlcpaaW.PrintMore
attribute [local go_sem] max2_int min2_int max_two min_two max_three min_three max_four min_four   -- for this text's walks alone
set_option linter.unusedVariables false
set_option linter.unusedSimpArgs false



def errW : Option Int → Value
  | none => .nilIface
  | some c => .iface 0 (.int .i64 c)
theorem errW_none : errW none = .nilIface := rfl
theorem errW_some (c : Int) : errW (some c) = .iface 0 (.int .i64 c) := rfl

theorem info3 : (Try.prog.info? 3).map (fun i => (i.zero, i.size, i.bytes)) = some (some (.int .i64 0), 1, 8) := by kernel_rfl
-- the values' own types

end Go.Proofs.Ytlmgokicanlcpaa.PFnMeet
