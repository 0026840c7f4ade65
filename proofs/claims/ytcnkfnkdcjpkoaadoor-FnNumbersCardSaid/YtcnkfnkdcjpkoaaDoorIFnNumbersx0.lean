/- Plain functions and walks of the law FnNumbers: each function answers as its plain function does. No condition beside. Printed by a changed copy of the print (wip/tools/inject.py). -/
import Derived.Test.YtcnkfnkdcjpkoaaDoorProg
import Derived.Below
import Derived.Deep.Draws
import Derived.Deep.AppendLies
import Derived.Maps.AppendAt
import Derived.OwnWalk
import Derived.Laws.BytesArg
import Derived.Laws.MakeOwn
import Derived.Laws.OwnMore
import Derived.Deep.OwnRows
import Derived.Tactics
import Derived.Lib.ConvBytes
import Derived.Laws.Slices
import Derived.WalkKit
import Derived.KernelRfl
import Derived.RowKit3
import Derived.Deep.LoopGhost
import Derived.Deep.QuietTactic
import Derived.BigQuiet
import Derived.WideLaws
import Derived.Deep.DeepCutAuto
import Derived.Deep.CutBlock
import Derived.Deep.RegionHeld3
import Derived.Laws.Rows
import Derived.Lib.AppendStr
import Derived.ArgAppend
import Derived.Laws.IdiomCopy
import Derived.OrdersHeld
import Derived.Laws.BitsLemmas
import Derived.RowKit
import Derived.Test.YtcnkfnkdcjpkoaaDoorVJ
import Derived.Test.YtcnkfnkdcjpkoaaDoorWWords
import Derived.Test.YtcnkfnkdcjpkoaaDoorWLast
import Derived.Test.YtcnkfnkdcjpkoaaDoorWTab
import Derived.Test.YtcnkfnkdcjpkoaaDoorWFour
import Derived.Test.YtcnkfnkdcjpkoaaDoorWQPut
import Derived.Test.YtcnkfnkdcjpkoaaDoorWApart
import Derived.Test.YtcnkfnkdcjpkoaaDoorWArr
import Derived.Test.YtcnkfnkdcjpkoaaDoorWZeros
import Derived.Test.YtcnkfnkdcjpkoaaDoorWFoot
import Derived.Test.YtcnkfnkdcjpkoaaDoorWKept
import Derived.Test.YtcnkfnkdcjpkoaaDoorWShare
import Derived.Test.YtcnkfnkdcjpkoaaDoorWN
import Derived.Test.YtcnkfnkdcjpkoaaDoorWFootNe
import Derived.Test.YtcnkfnkdcjpkoaaDoorWAt
import Derived.Test.YtcnkfnkdcjpkoaaDoorWEqStruct
import Derived.Test.YtcnkfnkdcjpkoaaDoorWRepsOne
import Derived.Test.YtcnkfnkdcjpkoaaDoorWInv
import Derived.Test.YtcnkfnkdcjpkoaaDoorWInvWords
import Derived.Test.YtcnkfnkdcjpkoaaDoorWGuard
import Derived.Test.YtcnkfnkdcjpkoaaDoorWNEv
import Derived.Test.YtcnkfnkdcjpkoaaDoorWMore
namespace Go.Proofs.YtcnkfnkdcjpkoaaDoor.PFnNumbers
open Go.RowKit Go.Proofs.YtcnkfnkdcjpkoaaDoorV Go.Proofs.YtcnkfnkdcjpkoaaDoorW.PrintWords Go.Proofs.YtcnkfnkdcjpkoaaDoorW.PrintLast Go.Proofs.YtcnkfnkdcjpkoaaDoorW.PrintMore
attribute [local go_sem] max2_int min2_int max_two min_two max_three min_three max_four min_four   -- for this text's walks alone
set_option linter.unusedVariables false
set_option linter.unusedSimpArgs false



def errW : Option Int → Value
  | none => .nilIface
  | some c => .iface 0 (.int .i64 c)
theorem errW_none : errW none = .nilIface := rfl
theorem errW_some (c : Int) : errW (some c) = .iface 0 (.int .i64 c) := rfl

theorem info3 : (Tryd.prog.info? 3).map (fun i => (i.zero, i.size, i.bytes)) = some (some (.int .i64 0), 1, 8) := by kernel_rfl
theorem info5 : (Tryd.prog.info? 5).map (fun i => (i.zero, i.size, i.bytes)) = some (some (.int .u8 0), 1, 1) := by kernel_rfl
theorem info9 : (Tryd.prog.info? 9).map (fun i => (i.zero, i.size, i.bytes)) = some (some (.string ⟨#[]⟩), 1, 16) := by kernel_rfl
-- the values' own types

end Go.Proofs.YtcnkfnkdcjpkoaaDoor.PFnNumbers
