-- The print's words, cut down to what this claim names (wip/tools/wordcut.py).
import Derived.Test.YtkioodeeadhdaaaWInv
import Derived.Test.YtkioodeeadhdaaaWFootNe
namespace Go.Proofs.YtkioodeeadhdaaaW.PrintWords
open Go.RowKit
end Go.Proofs.YtkioodeeadhdaaaW.PrintWords
namespace Go.Proofs.YtkioodeeadhdaaaW.PrintLast
section
variable {ops : Array Oper} {a : Act} {o og : Oper} {g : Nat} {t : Tmp} {u : Bool}
end
end Go.Proofs.YtkioodeeadhdaaaW.PrintLast
