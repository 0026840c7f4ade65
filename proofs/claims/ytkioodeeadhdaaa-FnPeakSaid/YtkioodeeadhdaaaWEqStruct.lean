-- The print's words, cut down to what this claim names (wip/tools/wordcut.py).
import Derived.Test.YtkioodeeadhdaaaWWords
import Derived.Laws.StructEq
/-! ### 53. '==' of structs as_ one Bool -/
namespace Go.Proofs.YtkioodeeadhdaaaW.PrintWords
open Go.RowKit
section
variable {P : Program} {d : Nat} {xs ys : Array Value} {f : Field} {fs : List Field} {a b : Value} {r s : Bool} {w : World}
end
end Go.Proofs.YtkioodeeadhdaaaW.PrintWords
