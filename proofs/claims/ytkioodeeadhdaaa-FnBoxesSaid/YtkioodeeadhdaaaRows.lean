/-
  No cell of these rows narrows 'for every input' (looked for: loops, veiled, ifaces, maps, wideKeys, modest, calm, conditions, laid).
  DERIVED. THE GIVEN ROWS OF THIS SEAT. 11 by the template 'for every input the law returns true; each argument reads behind the call as it read before'; 0 by the template 'total and deterministic' (their statements: YtkioodeeadhdaaaTotals.lean).
  GIVEN WITH THE SEED: the statements are not yours to turn. If you find one false, say at which input.
  Laid BY PROGRAM, IN A SANDBOX (cutbox-rows.mjs): the forced cells as the released guide's own fill.sh prints them over the translation 0bdae5f1d62d02f5… (all of the seat's roots in one cut). By AI agents, Wed Nov 11 2026. No macro, syntax, notation, axiom, sorry.
-/
import Derived.Test.YtkioodeeadhdaaaChecked
import GoSem.Claim
import GoSem.ClaimJoined
import GoSem.ClaimMapViews
import Derived.JoinedTies
import Derived.KernelRfl
namespace Go.Proofs.Ytkioodeeadhdaaa
/- THE CELL 'sum', in the pinned program and in every row, IS THE sha256 OF THE DUMP (.gsa) THAT YtkioodeeadhdaaaProg.lean LOADS. Nothing in Lean hashes anything: it is a label: what it is worth is what the hold of that sum in a sandbox is worth. -/
noncomputable def Try.pinned : Pinned := { name := "ytkioodeeadhdaaa", sum := "0bdae5f1d62d02f59bb454ac27262d74bb931d2a17abdbcc35ff5154a3ba4d13", checked := Try.checked }
namespace Rows
def none {H : Type} : Left H := { results := [], args := [] }

/-- 'laws.FnFlight': WHATEVER THE INPUT: true; the input reads as it did. -/
def fnFlightSpec : ChangeSpec := { name := "fnFlight", fn := fun _ => fun
  | [d] => { results := [.lit (.bool true)], args := [d] }
  | _ => none }
def fnFlightRow : OpenClaim := { program := "ytkioodeeadhdaaa", sum := "0bdae5f1d62d02f59bb454ac27262d74bb931d2a17abdbcc35ff5154a3ba4d13", func := "loop.example/g03017/laws.FnFlight", spec := "fnFlight", apart := false }
def FnFlightSaid : Prop := fnFlightRow.holds Try.pinned (OpenSpec.ofChange fnFlightSpec)

/-- ITS FALSE NEIGHBOUR: 'it returns false'. Refute it at one input. -/
def fnFlightWrong : ChangeSpec := { name := "fnFlight", fn := fun _ => fun
  | [d] => { results := [.lit (.bool false)], args := [d] }
  | _ => none }
def FnFlightWrongFalsely : Prop := fnFlightRow.holds Try.pinned (OpenSpec.ofChange fnFlightWrong)

/-- 'laws.FnPeak': WHATEVER THE INPUT: true; the input reads as it did. -/
def fnPeakSpec : ChangeSpec := { name := "fnPeak", fn := fun _ => fun
  | [d] => { results := [.lit (.bool true)], args := [d] }
  | _ => none }
def fnPeakRow : OpenClaim := { program := "ytkioodeeadhdaaa", sum := "0bdae5f1d62d02f59bb454ac27262d74bb931d2a17abdbcc35ff5154a3ba4d13", func := "loop.example/g03017/laws.FnPeak", spec := "fnPeak", apart := false }
def FnPeakSaid : Prop := fnPeakRow.holds Try.pinned (OpenSpec.ofChange fnPeakSpec)

/-- ITS FALSE NEIGHBOUR: 'it returns false'. Refute it at one input. -/
def fnPeakWrong : ChangeSpec := { name := "fnPeak", fn := fun _ => fun
  | [d] => { results := [.lit (.bool false)], args := [d] }
  | _ => none }
def FnPeakWrongFalsely : Prop := fnPeakRow.holds Try.pinned (OpenSpec.ofChange fnPeakWrong)

/-- 'laws.FnRamp': WHATEVER THE INPUT: true; the input reads as it did. -/
def fnRampSpec : ChangeSpec := { name := "fnRamp", fn := fun _ => fun
  | [d] => { results := [.lit (.bool true)], args := [d] }
  | _ => none }
def fnRampRow : OpenClaim := { program := "ytkioodeeadhdaaa", sum := "0bdae5f1d62d02f59bb454ac27262d74bb931d2a17abdbcc35ff5154a3ba4d13", func := "loop.example/g03017/laws.FnRamp", spec := "fnRamp", apart := false }
def FnRampSaid : Prop := fnRampRow.holds Try.pinned (OpenSpec.ofChange fnRampSpec)

/-- ITS FALSE NEIGHBOUR: 'it returns false'. Refute it at one input. -/
def fnRampWrong : ChangeSpec := { name := "fnRamp", fn := fun _ => fun
  | [d] => { results := [.lit (.bool false)], args := [d] }
  | _ => none }
def FnRampWrongFalsely : Prop := fnRampRow.holds Try.pinned (OpenSpec.ofChange fnRampWrong)

/-- 'laws.FnLands': WHATEVER THE INPUT: true; the input reads as it did. -/
def fnLandsSpec : ChangeSpec := { name := "fnLands", fn := fun _ => fun
  | [d] => { results := [.lit (.bool true)], args := [d] }
  | _ => none }
def fnLandsRow : OpenClaim := { program := "ytkioodeeadhdaaa", sum := "0bdae5f1d62d02f59bb454ac27262d74bb931d2a17abdbcc35ff5154a3ba4d13", func := "loop.example/g03017/laws.FnLands", spec := "fnLands", apart := false }
def FnLandsSaid : Prop := fnLandsRow.holds Try.pinned (OpenSpec.ofChange fnLandsSpec)

/-- ITS FALSE NEIGHBOUR: 'it returns false'. Refute it at one input. -/
def fnLandsWrong : ChangeSpec := { name := "fnLands", fn := fun _ => fun
  | [d] => { results := [.lit (.bool false)], args := [d] }
  | _ => none }
def FnLandsWrongFalsely : Prop := fnLandsRow.holds Try.pinned (OpenSpec.ofChange fnLandsWrong)

/-- 'laws.FnDrifts': WHATEVER THE INPUT: true; the input reads as it did. -/
def fnDriftsSpec : ChangeSpec := { name := "fnDrifts", fn := fun _ => fun
  | [d] => { results := [.lit (.bool true)], args := [d] }
  | _ => none }
def fnDriftsRow : OpenClaim := { program := "ytkioodeeadhdaaa", sum := "0bdae5f1d62d02f59bb454ac27262d74bb931d2a17abdbcc35ff5154a3ba4d13", func := "loop.example/g03017/laws.FnDrifts", spec := "fnDrifts", apart := false }
def FnDriftsSaid : Prop := fnDriftsRow.holds Try.pinned (OpenSpec.ofChange fnDriftsSpec)

/-- ITS FALSE NEIGHBOUR: 'it returns false'. Refute it at one input. -/
def fnDriftsWrong : ChangeSpec := { name := "fnDrifts", fn := fun _ => fun
  | [d] => { results := [.lit (.bool false)], args := [d] }
  | _ => none }
def FnDriftsWrongFalsely : Prop := fnDriftsRow.holds Try.pinned (OpenSpec.ofChange fnDriftsWrong)

/-- 'laws.FnTurns': WHATEVER THE INPUT: true; the input reads as it did. -/
def fnTurnsSpec : ChangeSpec := { name := "fnTurns", fn := fun _ => fun
  | [d] => { results := [.lit (.bool true)], args := [d] }
  | _ => none }
def fnTurnsRow : OpenClaim := { program := "ytkioodeeadhdaaa", sum := "0bdae5f1d62d02f59bb454ac27262d74bb931d2a17abdbcc35ff5154a3ba4d13", func := "loop.example/g03017/laws.FnTurns", spec := "fnTurns", apart := false }
def FnTurnsSaid : Prop := fnTurnsRow.holds Try.pinned (OpenSpec.ofChange fnTurnsSpec)

/-- ITS FALSE NEIGHBOUR: 'it returns false'. Refute it at one input. -/
def fnTurnsWrong : ChangeSpec := { name := "fnTurns", fn := fun _ => fun
  | [d] => { results := [.lit (.bool false)], args := [d] }
  | _ => none }
def FnTurnsWrongFalsely : Prop := fnTurnsRow.holds Try.pinned (OpenSpec.ofChange fnTurnsWrong)

/-- 'laws.FnMeasures': WHATEVER THE INPUT: true; the input reads as it did. -/
def fnMeasuresSpec : ChangeSpec := { name := "fnMeasures", fn := fun _ => fun
  | [d] => { results := [.lit (.bool true)], args := [d] }
  | _ => none }
def fnMeasuresRow : OpenClaim := { program := "ytkioodeeadhdaaa", sum := "0bdae5f1d62d02f59bb454ac27262d74bb931d2a17abdbcc35ff5154a3ba4d13", func := "loop.example/g03017/laws.FnMeasures", spec := "fnMeasures", apart := false }
def FnMeasuresSaid : Prop := fnMeasuresRow.holds Try.pinned (OpenSpec.ofChange fnMeasuresSpec)

/-- ITS FALSE NEIGHBOUR: 'it returns false'. Refute it at one input. -/
def fnMeasuresWrong : ChangeSpec := { name := "fnMeasures", fn := fun _ => fun
  | [d] => { results := [.lit (.bool false)], args := [d] }
  | _ => none }
def FnMeasuresWrongFalsely : Prop := fnMeasuresRow.holds Try.pinned (OpenSpec.ofChange fnMeasuresWrong)

/-- 'laws.FnTurnAbout': WHATEVER THE INPUT: true; the input reads as it did. -/
def fnTurnAboutSpec : ChangeSpec := { name := "fnTurnAbout", fn := fun _ => fun
  | [d] => { results := [.lit (.bool true)], args := [d] }
  | _ => none }
def fnTurnAboutRow : OpenClaim := { program := "ytkioodeeadhdaaa", sum := "0bdae5f1d62d02f59bb454ac27262d74bb931d2a17abdbcc35ff5154a3ba4d13", func := "loop.example/g03017/laws.FnTurnAbout", spec := "fnTurnAbout", apart := false }
def FnTurnAboutSaid : Prop := fnTurnAboutRow.holds Try.pinned (OpenSpec.ofChange fnTurnAboutSpec)

/-- ITS FALSE NEIGHBOUR: 'it returns false'. Refute it at one input. -/
def fnTurnAboutWrong : ChangeSpec := { name := "fnTurnAbout", fn := fun _ => fun
  | [d] => { results := [.lit (.bool false)], args := [d] }
  | _ => none }
def FnTurnAboutWrongFalsely : Prop := fnTurnAboutRow.holds Try.pinned (OpenSpec.ofChange fnTurnAboutWrong)

/-- 'laws.FnSteps': WHATEVER THE INPUT: true; the input reads as it did. -/
def fnStepsSpec : ChangeSpec := { name := "fnSteps", fn := fun _ => fun
  | [d] => { results := [.lit (.bool true)], args := [d] }
  | _ => none }
def fnStepsRow : OpenClaim := { program := "ytkioodeeadhdaaa", sum := "0bdae5f1d62d02f59bb454ac27262d74bb931d2a17abdbcc35ff5154a3ba4d13", func := "loop.example/g03017/laws.FnSteps", spec := "fnSteps", apart := false }
def FnStepsSaid : Prop := fnStepsRow.holds Try.pinned (OpenSpec.ofChange fnStepsSpec)

/-- ITS FALSE NEIGHBOUR: 'it returns false'. Refute it at one input. -/
def fnStepsWrong : ChangeSpec := { name := "fnSteps", fn := fun _ => fun
  | [d] => { results := [.lit (.bool false)], args := [d] }
  | _ => none }
def FnStepsWrongFalsely : Prop := fnStepsRow.holds Try.pinned (OpenSpec.ofChange fnStepsWrong)

/-- 'laws.FnBoxes': WHATEVER THE INPUT: true; the input reads as it did. -/
def fnBoxesSpec : ChangeSpec := { name := "fnBoxes", fn := fun _ => fun
  | [d] => { results := [.lit (.bool true)], args := [d] }
  | _ => none }
def fnBoxesRow : OpenClaim := { program := "ytkioodeeadhdaaa", sum := "0bdae5f1d62d02f59bb454ac27262d74bb931d2a17abdbcc35ff5154a3ba4d13", func := "loop.example/g03017/laws.FnBoxes", spec := "fnBoxes", apart := false }
def FnBoxesSaid : Prop := fnBoxesRow.holds Try.pinned (OpenSpec.ofChange fnBoxesSpec)

/-- ITS FALSE NEIGHBOUR: 'it returns false'. Refute it at one input. -/
def fnBoxesWrong : ChangeSpec := { name := "fnBoxes", fn := fun _ => fun
  | [d] => { results := [.lit (.bool false)], args := [d] }
  | _ => none }
def FnBoxesWrongFalsely : Prop := fnBoxesRow.holds Try.pinned (OpenSpec.ofChange fnBoxesWrong)

/-- 'laws.FnAim': WHATEVER THE INPUT: true; the input reads as it did. -/
def fnAimSpec : ChangeSpec := { name := "fnAim", fn := fun _ => fun
  | [d] => { results := [.lit (.bool true)], args := [d] }
  | _ => none }
def fnAimRow : OpenClaim := { program := "ytkioodeeadhdaaa", sum := "0bdae5f1d62d02f59bb454ac27262d74bb931d2a17abdbcc35ff5154a3ba4d13", func := "loop.example/g03017/laws.FnAim", spec := "fnAim", apart := false }
def FnAimSaid : Prop := fnAimRow.holds Try.pinned (OpenSpec.ofChange fnAimSpec)

/-- ITS FALSE NEIGHBOUR: 'it returns false'. Refute it at one input. -/
def fnAimWrong : ChangeSpec := { name := "fnAim", fn := fun _ => fun
  | [d] => { results := [.lit (.bool false)], args := [d] }
  | _ => none }
def FnAimWrongFalsely : Prop := fnAimRow.holds Try.pinned (OpenSpec.ofChange fnAimWrong)

/- THE SECOND FORM. 'bulk': how many values and letters a reading holds, each counted each time it is reached (what is shared counts as often as it is met; a slice's spare places count too). A statement '..UptoSaid' is the law's where the arguments, and the package variables that the reading takes, are together of bulk at most 1048576: NARROWER than '..Said'. Prove '..Said' where nothing that the law and all that it calls make is longer than what came in: it says more and counts as full. Else prove '..UptoSaid'. A law counts once. -/
mutual
def uptoBulk {H : Type} : DataW H → Nat
  | .lit (.string bytes) => bytes.length + 1
  | .lit _ => 1
  | .nil => 1
  | .ptr d => uptoBulk d + 1
  | .slice elems spare => uptoBulkAll elems + uptoBulkAll spare + 1
  | .agg parts => uptoBulkAll parts + 1
  | .iface _ d => uptoBulk d + 1
  | .map entries => uptoBulkEntries entries + 1
  | .held _ => 1
def uptoBulkAll {H : Type} : List (DataW H) → Nat
  | [] => 0
  | d :: r => uptoBulk d + uptoBulkAll r
def uptoBulkEntries {H : Type} : List (Lit × DataW H) → Nat
  | [] => 0
  | x :: r => uptoBulkEntry x + uptoBulkEntries r
def uptoBulkEntry {H : Type} : Lit × DataW H → Nat
  | (.string bytes, d) => bytes.length + uptoBulk d + 1
  | (_, d) => uptoBulk d + 1
 end
def uptoSmall : (H : Type) → List (DataW H) → Bool := fun _ ds => decide (uptoBulkAll ds ≤ 1048576)
def OpenSpec.upto (s : _root_.Go.ChangeSpec) : _root_.Go.OpenSpec := { _root_.Go.OpenSpec.ofChange s with cond := some uptoSmall }

/-- 'laws.FnFlight', WHERE WHAT IT READS IS OF BULK AT MOST 1048576: true; the input reads as it did. -/
def fnFlightUptoRow : OpenClaim := { program := "ytkioodeeadhdaaa", sum := "0bdae5f1d62d02f59bb454ac27262d74bb931d2a17abdbcc35ff5154a3ba4d13", func := "loop.example/g03017/laws.FnFlight", spec := "fnFlight", apart := false, narrowed := true }
def FnFlightUptoSaid : Prop := fnFlightUptoRow.holds Try.pinned (OpenSpec.upto fnFlightSpec)

/-- 'laws.FnPeak', WHERE WHAT IT READS IS OF BULK AT MOST 1048576: true; the input reads as it did. -/
def fnPeakUptoRow : OpenClaim := { program := "ytkioodeeadhdaaa", sum := "0bdae5f1d62d02f59bb454ac27262d74bb931d2a17abdbcc35ff5154a3ba4d13", func := "loop.example/g03017/laws.FnPeak", spec := "fnPeak", apart := false, narrowed := true }
def FnPeakUptoSaid : Prop := fnPeakUptoRow.holds Try.pinned (OpenSpec.upto fnPeakSpec)

/-- 'laws.FnRamp', WHERE WHAT IT READS IS OF BULK AT MOST 1048576: true; the input reads as it did. -/
def fnRampUptoRow : OpenClaim := { program := "ytkioodeeadhdaaa", sum := "0bdae5f1d62d02f59bb454ac27262d74bb931d2a17abdbcc35ff5154a3ba4d13", func := "loop.example/g03017/laws.FnRamp", spec := "fnRamp", apart := false, narrowed := true }
def FnRampUptoSaid : Prop := fnRampUptoRow.holds Try.pinned (OpenSpec.upto fnRampSpec)

/-- 'laws.FnLands', WHERE WHAT IT READS IS OF BULK AT MOST 1048576: true; the input reads as it did. -/
def fnLandsUptoRow : OpenClaim := { program := "ytkioodeeadhdaaa", sum := "0bdae5f1d62d02f59bb454ac27262d74bb931d2a17abdbcc35ff5154a3ba4d13", func := "loop.example/g03017/laws.FnLands", spec := "fnLands", apart := false, narrowed := true }
def FnLandsUptoSaid : Prop := fnLandsUptoRow.holds Try.pinned (OpenSpec.upto fnLandsSpec)

/-- 'laws.FnDrifts', WHERE WHAT IT READS IS OF BULK AT MOST 1048576: true; the input reads as it did. -/
def fnDriftsUptoRow : OpenClaim := { program := "ytkioodeeadhdaaa", sum := "0bdae5f1d62d02f59bb454ac27262d74bb931d2a17abdbcc35ff5154a3ba4d13", func := "loop.example/g03017/laws.FnDrifts", spec := "fnDrifts", apart := false, narrowed := true }
def FnDriftsUptoSaid : Prop := fnDriftsUptoRow.holds Try.pinned (OpenSpec.upto fnDriftsSpec)

/-- 'laws.FnTurns', WHERE WHAT IT READS IS OF BULK AT MOST 1048576: true; the input reads as it did. -/
def fnTurnsUptoRow : OpenClaim := { program := "ytkioodeeadhdaaa", sum := "0bdae5f1d62d02f59bb454ac27262d74bb931d2a17abdbcc35ff5154a3ba4d13", func := "loop.example/g03017/laws.FnTurns", spec := "fnTurns", apart := false, narrowed := true }
def FnTurnsUptoSaid : Prop := fnTurnsUptoRow.holds Try.pinned (OpenSpec.upto fnTurnsSpec)

/-- 'laws.FnMeasures', WHERE WHAT IT READS IS OF BULK AT MOST 1048576: true; the input reads as it did. -/
def fnMeasuresUptoRow : OpenClaim := { program := "ytkioodeeadhdaaa", sum := "0bdae5f1d62d02f59bb454ac27262d74bb931d2a17abdbcc35ff5154a3ba4d13", func := "loop.example/g03017/laws.FnMeasures", spec := "fnMeasures", apart := false, narrowed := true }
def FnMeasuresUptoSaid : Prop := fnMeasuresUptoRow.holds Try.pinned (OpenSpec.upto fnMeasuresSpec)

/-- 'laws.FnTurnAbout', WHERE WHAT IT READS IS OF BULK AT MOST 1048576: true; the input reads as it did. -/
def fnTurnAboutUptoRow : OpenClaim := { program := "ytkioodeeadhdaaa", sum := "0bdae5f1d62d02f59bb454ac27262d74bb931d2a17abdbcc35ff5154a3ba4d13", func := "loop.example/g03017/laws.FnTurnAbout", spec := "fnTurnAbout", apart := false, narrowed := true }
def FnTurnAboutUptoSaid : Prop := fnTurnAboutUptoRow.holds Try.pinned (OpenSpec.upto fnTurnAboutSpec)

/-- 'laws.FnSteps', WHERE WHAT IT READS IS OF BULK AT MOST 1048576: true; the input reads as it did. -/
def fnStepsUptoRow : OpenClaim := { program := "ytkioodeeadhdaaa", sum := "0bdae5f1d62d02f59bb454ac27262d74bb931d2a17abdbcc35ff5154a3ba4d13", func := "loop.example/g03017/laws.FnSteps", spec := "fnSteps", apart := false, narrowed := true }
def FnStepsUptoSaid : Prop := fnStepsUptoRow.holds Try.pinned (OpenSpec.upto fnStepsSpec)

/-- 'laws.FnBoxes', WHERE WHAT IT READS IS OF BULK AT MOST 1048576: true; the input reads as it did. -/
def fnBoxesUptoRow : OpenClaim := { program := "ytkioodeeadhdaaa", sum := "0bdae5f1d62d02f59bb454ac27262d74bb931d2a17abdbcc35ff5154a3ba4d13", func := "loop.example/g03017/laws.FnBoxes", spec := "fnBoxes", apart := false, narrowed := true }
def FnBoxesUptoSaid : Prop := fnBoxesUptoRow.holds Try.pinned (OpenSpec.upto fnBoxesSpec)

/-- 'laws.FnAim', WHERE WHAT IT READS IS OF BULK AT MOST 1048576: true; the input reads as it did. -/
def fnAimUptoRow : OpenClaim := { program := "ytkioodeeadhdaaa", sum := "0bdae5f1d62d02f59bb454ac27262d74bb931d2a17abdbcc35ff5154a3ba4d13", func := "loop.example/g03017/laws.FnAim", spec := "fnAim", apart := false, narrowed := true }
def FnAimUptoSaid : Prop := fnAimUptoRow.holds Try.pinned (OpenSpec.upto fnAimSpec)

end Rows
end Go.Proofs.Ytkioodeeadhdaaa
