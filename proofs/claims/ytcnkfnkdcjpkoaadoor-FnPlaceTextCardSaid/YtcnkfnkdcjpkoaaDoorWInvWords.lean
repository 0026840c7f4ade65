-- The print's words, cut down to what this claim names (wip/tools/wordcut.py).
import Derived.Test.YtcnkfnkdcjpkoaaDoorWInv
import Derived.Test.YtcnkfnkdcjpkoaaDoorWFootNe
namespace Go.Proofs.YtcnkfnkdcjpkoaaDoorW.PrintWords
open Go.RowKit
end Go.Proofs.YtcnkfnkdcjpkoaaDoorW.PrintWords
namespace Go.Proofs.YtcnkfnkdcjpkoaaDoorW.PrintLast
section
variable {ops : Array Oper} {a : Act} {o og : Oper} {g : Nat} {t : Tmp} {u : Bool}
end
end Go.Proofs.YtcnkfnkdcjpkoaaDoorW.PrintLast
