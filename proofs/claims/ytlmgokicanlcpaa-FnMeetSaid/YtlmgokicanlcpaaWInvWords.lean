-- The print's words, cut down to what this claim names (wip/tools/wordcut.py).
import Derived.Test.YtlmgokicanlcpaaWInv
import Derived.Test.YtlmgokicanlcpaaWFootNe
namespace Go.Proofs.YtlmgokicanlcpaaW.PrintWords
open Go.RowKit
end Go.Proofs.YtlmgokicanlcpaaW.PrintWords
namespace Go.Proofs.YtlmgokicanlcpaaW.PrintLast
section
variable {ops : Array Oper} {a : Act} {o og : Oper} {g : Nat} {t : Tmp} {u : Bool}
end
end Go.Proofs.YtlmgokicanlcpaaW.PrintLast
