/-
  No cell of these rows narrows 'for every input' (looked for: loops, veiled, ifaces, maps, wideKeys, modest, calm, conditions, laid).
  DERIVED. THE GIVEN ROWS OF THIS SEAT. 12 by the template 'for every input the law returns true; each argument reads behind the call as it read before'; 0 by the template 'total and deterministic' (their statements: YtknonhamdjfmlaaTotals.lean).
  GIVEN WITH THE SEED: the statements are not yours to turn. If you find one false, say at which input.
  Laid BY PROGRAM, IN A SANDBOX (cutbox-rows.mjs): the forced cells as the released guide's own fill.sh prints them over the translation 19cb4218e6c6ec0b… (all of the seat's roots in one cut). By AI agents, Wed Nov 11 2026. No macro, syntax, notation, axiom, sorry.
-/
import Derived.Test.YtknonhamdjfmlaaChecked
import GoSem.Claim
import GoSem.ClaimJoined
import GoSem.ClaimMapViews
import Derived.JoinedTies
import Derived.KernelRfl
namespace Go.Proofs.Ytknonhamdjfmlaa
/- THE CELL 'sum', in the pinned program and in every row, IS THE sha256 OF THE DUMP (.gsa) THAT YtknonhamdjfmlaaProg.lean LOADS. Nothing in Lean hashes anything: it is a label: what it is worth is what the hold of that sum in a sandbox is worth. -/
noncomputable def Try.pinned : Pinned := { name := "ytknonhamdjfmlaa", sum := "19cb4218e6c6ec0b259687ca9b7017317077280f616cda14382164becc900db2", checked := Try.checked }
namespace Rows
def none {H : Type} : Left H := { results := [], args := [] }

/-- 'laws.FnExactConstants': WHATEVER THE INPUT: true; the input reads as it did. -/
def fnExactConstantsSpec : ChangeSpec := { name := "fnExactConstants", fn := fun _ => fun
  | [] => { results := [.lit (.bool true)], args := [] }
  | _ => none }
def fnExactConstantsRow : OpenClaim := { program := "ytknonhamdjfmlaa", sum := "19cb4218e6c6ec0b259687ca9b7017317077280f616cda14382164becc900db2", func := "loop.example/g03017/laws.FnExactConstants", spec := "fnExactConstants", apart := false }
def FnExactConstantsSaid : Prop := fnExactConstantsRow.holds Try.pinned (OpenSpec.ofChange fnExactConstantsSpec)

/-- ITS FALSE NEIGHBOUR: 'it returns false'. Refute it at one input. -/
def fnExactConstantsWrong : ChangeSpec := { name := "fnExactConstants", fn := fun _ => fun
  | [] => { results := [.lit (.bool false)], args := [] }
  | _ => none }
def FnExactConstantsWrongFalsely : Prop := fnExactConstantsRow.holds Try.pinned (OpenSpec.ofChange fnExactConstantsWrong)

/-- 'laws.FnExactIsHeading': WHATEVER THE INPUT: true; the input reads as it did. -/
def fnExactIsHeadingSpec : ChangeSpec := { name := "fnExactIsHeading", fn := fun _ => fun
  | [d] => { results := [.lit (.bool true)], args := [d] }
  | _ => none }
def fnExactIsHeadingRow : OpenClaim := { program := "ytknonhamdjfmlaa", sum := "19cb4218e6c6ec0b259687ca9b7017317077280f616cda14382164becc900db2", func := "loop.example/g03017/laws.FnExactIsHeading", spec := "fnExactIsHeading", apart := false }
def FnExactIsHeadingSaid : Prop := fnExactIsHeadingRow.holds Try.pinned (OpenSpec.ofChange fnExactIsHeadingSpec)

/-- ITS FALSE NEIGHBOUR: 'it returns false'. Refute it at one input. -/
def fnExactIsHeadingWrong : ChangeSpec := { name := "fnExactIsHeading", fn := fun _ => fun
  | [d] => { results := [.lit (.bool false)], args := [d] }
  | _ => none }
def FnExactIsHeadingWrongFalsely : Prop := fnExactIsHeadingRow.holds Try.pinned (OpenSpec.ofChange fnExactIsHeadingWrong)

/-- 'laws.FnExactIsMeasure': WHATEVER THE INPUT: true; the input reads as it did. -/
def fnExactIsMeasureSpec : ChangeSpec := { name := "fnExactIsMeasure", fn := fun _ => fun
  | [d] => { results := [.lit (.bool true)], args := [d] }
  | _ => none }
def fnExactIsMeasureRow : OpenClaim := { program := "ytknonhamdjfmlaa", sum := "19cb4218e6c6ec0b259687ca9b7017317077280f616cda14382164becc900db2", func := "loop.example/g03017/laws.FnExactIsMeasure", spec := "fnExactIsMeasure", apart := false }
def FnExactIsMeasureSaid : Prop := fnExactIsMeasureRow.holds Try.pinned (OpenSpec.ofChange fnExactIsMeasureSpec)

/-- ITS FALSE NEIGHBOUR: 'it returns false'. Refute it at one input. -/
def fnExactIsMeasureWrong : ChangeSpec := { name := "fnExactIsMeasure", fn := fun _ => fun
  | [d] => { results := [.lit (.bool false)], args := [d] }
  | _ => none }
def FnExactIsMeasureWrongFalsely : Prop := fnExactIsMeasureRow.holds Try.pinned (OpenSpec.ofChange fnExactIsMeasureWrong)

/-- 'laws.FnExactIsPlace': WHATEVER THE INPUT: true; the input reads as it did. -/
def fnExactIsPlaceSpec : ChangeSpec := { name := "fnExactIsPlace", fn := fun _ => fun
  | [d] => { results := [.lit (.bool true)], args := [d] }
  | _ => none }
def fnExactIsPlaceRow : OpenClaim := { program := "ytknonhamdjfmlaa", sum := "19cb4218e6c6ec0b259687ca9b7017317077280f616cda14382164becc900db2", func := "loop.example/g03017/laws.FnExactIsPlace", spec := "fnExactIsPlace", apart := false }
def FnExactIsPlaceSaid : Prop := fnExactIsPlaceRow.holds Try.pinned (OpenSpec.ofChange fnExactIsPlaceSpec)

/-- ITS FALSE NEIGHBOUR: 'it returns false'. Refute it at one input. -/
def fnExactIsPlaceWrong : ChangeSpec := { name := "fnExactIsPlace", fn := fun _ => fun
  | [d] => { results := [.lit (.bool false)], args := [d] }
  | _ => none }
def FnExactIsPlaceWrongFalsely : Prop := fnExactIsPlaceRow.holds Try.pinned (OpenSpec.ofChange fnExactIsPlaceWrong)

/-- 'laws.FnExactIsName': WHATEVER THE INPUT: true; the input reads as it did. -/
def fnExactIsNameSpec : ChangeSpec := { name := "fnExactIsName", fn := fun _ => fun
  | [d] => { results := [.lit (.bool true)], args := [d] }
  | _ => none }
def fnExactIsNameRow : OpenClaim := { program := "ytknonhamdjfmlaa", sum := "19cb4218e6c6ec0b259687ca9b7017317077280f616cda14382164becc900db2", func := "loop.example/g03017/laws.FnExactIsName", spec := "fnExactIsName", apart := false }
def FnExactIsNameSaid : Prop := fnExactIsNameRow.holds Try.pinned (OpenSpec.ofChange fnExactIsNameSpec)

/-- ITS FALSE NEIGHBOUR: 'it returns false'. Refute it at one input. -/
def fnExactIsNameWrong : ChangeSpec := { name := "fnExactIsName", fn := fun _ => fun
  | [d] => { results := [.lit (.bool false)], args := [d] }
  | _ => none }
def FnExactIsNameWrongFalsely : Prop := fnExactIsNameRow.holds Try.pinned (OpenSpec.ofChange fnExactIsNameWrong)

/-- 'laws.FnExactTurnHeading': WHATEVER THE INPUT: true; the input reads as it did. -/
def fnExactTurnHeadingSpec : ChangeSpec := { name := "fnExactTurnHeading", fn := fun _ => fun
  | [d1, d2] => { results := [.lit (.bool true)], args := [d1, d2] }
  | _ => none }
def fnExactTurnHeadingRow : OpenClaim := { program := "ytknonhamdjfmlaa", sum := "19cb4218e6c6ec0b259687ca9b7017317077280f616cda14382164becc900db2", func := "loop.example/g03017/laws.FnExactTurnHeading", spec := "fnExactTurnHeading", apart := false }
def FnExactTurnHeadingSaid : Prop := fnExactTurnHeadingRow.holds Try.pinned (OpenSpec.ofChange fnExactTurnHeadingSpec)

/-- ITS FALSE NEIGHBOUR: 'it returns false'. Refute it at one input. -/
def fnExactTurnHeadingWrong : ChangeSpec := { name := "fnExactTurnHeading", fn := fun _ => fun
  | [d1, d2] => { results := [.lit (.bool false)], args := [d1, d2] }
  | _ => none }
def FnExactTurnHeadingWrongFalsely : Prop := fnExactTurnHeadingRow.holds Try.pinned (OpenSpec.ofChange fnExactTurnHeadingWrong)

/-- 'laws.FnExactIsBox': WHATEVER THE INPUT: true; the input reads as it did. -/
def fnExactIsBoxSpec : ChangeSpec := { name := "fnExactIsBox", fn := fun _ => fun
  | [d] => { results := [.lit (.bool true)], args := [d] }
  | _ => none }
def fnExactIsBoxRow : OpenClaim := { program := "ytknonhamdjfmlaa", sum := "19cb4218e6c6ec0b259687ca9b7017317077280f616cda14382164becc900db2", func := "loop.example/g03017/laws.FnExactIsBox", spec := "fnExactIsBox", apart := false }
def FnExactIsBoxSaid : Prop := fnExactIsBoxRow.holds Try.pinned (OpenSpec.ofChange fnExactIsBoxSpec)

/-- ITS FALSE NEIGHBOUR: 'it returns false'. Refute it at one input. -/
def fnExactIsBoxWrong : ChangeSpec := { name := "fnExactIsBox", fn := fun _ => fun
  | [d] => { results := [.lit (.bool false)], args := [d] }
  | _ => none }
def FnExactIsBoxWrongFalsely : Prop := fnExactIsBoxRow.holds Try.pinned (OpenSpec.ofChange fnExactIsBoxWrong)

/-- 'laws.FnExactTimesMeasure': WHATEVER THE INPUT: true; the input reads as it did. -/
def fnExactTimesMeasureSpec : ChangeSpec := { name := "fnExactTimesMeasure", fn := fun _ => fun
  | [d1, d2] => { results := [.lit (.bool true)], args := [d1, d2] }
  | _ => none }
def fnExactTimesMeasureRow : OpenClaim := { program := "ytknonhamdjfmlaa", sum := "19cb4218e6c6ec0b259687ca9b7017317077280f616cda14382164becc900db2", func := "loop.example/g03017/laws.FnExactTimesMeasure", spec := "fnExactTimesMeasure", apart := false }
def FnExactTimesMeasureSaid : Prop := fnExactTimesMeasureRow.holds Try.pinned (OpenSpec.ofChange fnExactTimesMeasureSpec)

/-- ITS FALSE NEIGHBOUR: 'it returns false'. Refute it at one input. -/
def fnExactTimesMeasureWrong : ChangeSpec := { name := "fnExactTimesMeasure", fn := fun _ => fun
  | [d1, d2] => { results := [.lit (.bool false)], args := [d1, d2] }
  | _ => none }
def FnExactTimesMeasureWrongFalsely : Prop := fnExactTimesMeasureRow.holds Try.pinned (OpenSpec.ofChange fnExactTimesMeasureWrong)

/-- 'laws.FnExactIsJet': WHATEVER THE INPUT: true; the input reads as it did. -/
def fnExactIsJetSpec : ChangeSpec := { name := "fnExactIsJet", fn := fun _ => fun
  | [d] => { results := [.lit (.bool true)], args := [d] }
  | _ => none }
def fnExactIsJetRow : OpenClaim := { program := "ytknonhamdjfmlaa", sum := "19cb4218e6c6ec0b259687ca9b7017317077280f616cda14382164becc900db2", func := "loop.example/g03017/laws.FnExactIsJet", spec := "fnExactIsJet", apart := false }
def FnExactIsJetSaid : Prop := fnExactIsJetRow.holds Try.pinned (OpenSpec.ofChange fnExactIsJetSpec)

/-- ITS FALSE NEIGHBOUR: 'it returns false'. Refute it at one input. -/
def fnExactIsJetWrong : ChangeSpec := { name := "fnExactIsJet", fn := fun _ => fun
  | [d] => { results := [.lit (.bool false)], args := [d] }
  | _ => none }
def FnExactIsJetWrongFalsely : Prop := fnExactIsJetRow.holds Try.pinned (OpenSpec.ofChange fnExactIsJetWrong)

/-- 'laws.FnExactInBox': WHATEVER THE INPUT: true; the input reads as it did. -/
def fnExactInBoxSpec : ChangeSpec := { name := "fnExactInBox", fn := fun _ => fun
  | [d1, d2] => { results := [.lit (.bool true)], args := [d1, d2] }
  | _ => none }
def fnExactInBoxRow : OpenClaim := { program := "ytknonhamdjfmlaa", sum := "19cb4218e6c6ec0b259687ca9b7017317077280f616cda14382164becc900db2", func := "loop.example/g03017/laws.FnExactInBox", spec := "fnExactInBox", apart := false }
def FnExactInBoxSaid : Prop := fnExactInBoxRow.holds Try.pinned (OpenSpec.ofChange fnExactInBoxSpec)

/-- ITS FALSE NEIGHBOUR: 'it returns false'. Refute it at one input. -/
def fnExactInBoxWrong : ChangeSpec := { name := "fnExactInBox", fn := fun _ => fun
  | [d1, d2] => { results := [.lit (.bool false)], args := [d1, d2] }
  | _ => none }
def FnExactInBoxWrongFalsely : Prop := fnExactInBoxRow.holds Try.pinned (OpenSpec.ofChange fnExactInBoxWrong)

/-- 'laws.FnExactParseNumber': WHATEVER THE INPUT: true; the input reads as it did. -/
def fnExactParseNumberSpec : ChangeSpec := { name := "fnExactParseNumber", fn := fun _ => fun
  | [d] => { results := [.lit (.bool true)], args := [d] }
  | _ => none }
def fnExactParseNumberRow : OpenClaim := { program := "ytknonhamdjfmlaa", sum := "19cb4218e6c6ec0b259687ca9b7017317077280f616cda14382164becc900db2", func := "loop.example/g03017/laws.FnExactParseNumber", spec := "fnExactParseNumber", recurses := true, apart := false }
def FnExactParseNumberSaid : Prop := fnExactParseNumberRow.holds Try.pinned (OpenSpec.ofChange fnExactParseNumberSpec)

/-- ITS FALSE NEIGHBOUR: 'it returns false'. Refute it at one input. -/
def fnExactParseNumberWrong : ChangeSpec := { name := "fnExactParseNumber", fn := fun _ => fun
  | [d] => { results := [.lit (.bool false)], args := [d] }
  | _ => none }
def FnExactParseNumberWrongFalsely : Prop := fnExactParseNumberRow.holds Try.pinned (OpenSpec.ofChange fnExactParseNumberWrong)

/-- 'laws.FnExactRampAt': WHATEVER THE INPUT: true; the input reads as it did. -/
def fnExactRampAtSpec : ChangeSpec := { name := "fnExactRampAt", fn := fun _ => fun
  | [d1, d2, d3, d4] => { results := [.lit (.bool true)], args := [d1, d2, d3, d4] }
  | _ => none }
def fnExactRampAtRow : OpenClaim := { program := "ytknonhamdjfmlaa", sum := "19cb4218e6c6ec0b259687ca9b7017317077280f616cda14382164becc900db2", func := "loop.example/g03017/laws.FnExactRampAt", spec := "fnExactRampAt", apart := false }
def FnExactRampAtSaid : Prop := fnExactRampAtRow.holds Try.pinned (OpenSpec.ofChange fnExactRampAtSpec)

/-- ITS FALSE NEIGHBOUR: 'it returns false'. Refute it at one input. -/
def fnExactRampAtWrong : ChangeSpec := { name := "fnExactRampAt", fn := fun _ => fun
  | [d1, d2, d3, d4] => { results := [.lit (.bool false)], args := [d1, d2, d3, d4] }
  | _ => none }
def FnExactRampAtWrongFalsely : Prop := fnExactRampAtRow.holds Try.pinned (OpenSpec.ofChange fnExactRampAtWrong)

/- THE SECOND FORM. 'bulk': how many values and letters a reading holds, each counted each time it is reached (what is shared counts as often as it is met; a slice's spare places count too). A statement '..UptoSaid' is the law's where the arguments, and the package variables that the reading takes, are together of bulk at most 1048576: NARROWER than '..Said'. Prove '..Said' where nothing that the law and all that it calls make is longer than what came in: it says more and counts as full. Else prove '..UptoSaid'. A law counts once. -/
mutual
def uptoBulk {H : Type} : DataW H → Nat
  | .lit (.string bytes) => bytes.length + 1
  | .lit _ => 1
  | .nil => 1
  | .ptr d => uptoBulk d + 1
  | .slice elems spare => uptoBulkAll elems + uptoBulkAll spare + 1
  | .agg parts => uptoBulkAll parts + 1
  | .iface _ d => uptoBulk d + 1
  | .map entries => uptoBulkEntries entries + 1
  | .held _ => 1
def uptoBulkAll {H : Type} : List (DataW H) → Nat
  | [] => 0
  | d :: r => uptoBulk d + uptoBulkAll r
def uptoBulkEntries {H : Type} : List (Lit × DataW H) → Nat
  | [] => 0
  | x :: r => uptoBulkEntry x + uptoBulkEntries r
def uptoBulkEntry {H : Type} : Lit × DataW H → Nat
  | (.string bytes, d) => bytes.length + uptoBulk d + 1
  | (_, d) => uptoBulk d + 1
 end
def uptoSmall : (H : Type) → List (DataW H) → Bool := fun _ ds => decide (uptoBulkAll ds ≤ 1048576)
def OpenSpec.upto (s : _root_.Go.ChangeSpec) : _root_.Go.OpenSpec := { _root_.Go.OpenSpec.ofChange s with cond := some uptoSmall }

/-- 'laws.FnExactConstants', WHERE WHAT IT READS IS OF BULK AT MOST 1048576: true; the input reads as it did. -/
def fnExactConstantsUptoRow : OpenClaim := { program := "ytknonhamdjfmlaa", sum := "19cb4218e6c6ec0b259687ca9b7017317077280f616cda14382164becc900db2", func := "loop.example/g03017/laws.FnExactConstants", spec := "fnExactConstants", apart := false, narrowed := true }
def FnExactConstantsUptoSaid : Prop := fnExactConstantsUptoRow.holds Try.pinned (OpenSpec.upto fnExactConstantsSpec)

/-- 'laws.FnExactIsHeading', WHERE WHAT IT READS IS OF BULK AT MOST 1048576: true; the input reads as it did. -/
def fnExactIsHeadingUptoRow : OpenClaim := { program := "ytknonhamdjfmlaa", sum := "19cb4218e6c6ec0b259687ca9b7017317077280f616cda14382164becc900db2", func := "loop.example/g03017/laws.FnExactIsHeading", spec := "fnExactIsHeading", apart := false, narrowed := true }
def FnExactIsHeadingUptoSaid : Prop := fnExactIsHeadingUptoRow.holds Try.pinned (OpenSpec.upto fnExactIsHeadingSpec)

/-- 'laws.FnExactIsMeasure', WHERE WHAT IT READS IS OF BULK AT MOST 1048576: true; the input reads as it did. -/
def fnExactIsMeasureUptoRow : OpenClaim := { program := "ytknonhamdjfmlaa", sum := "19cb4218e6c6ec0b259687ca9b7017317077280f616cda14382164becc900db2", func := "loop.example/g03017/laws.FnExactIsMeasure", spec := "fnExactIsMeasure", apart := false, narrowed := true }
def FnExactIsMeasureUptoSaid : Prop := fnExactIsMeasureUptoRow.holds Try.pinned (OpenSpec.upto fnExactIsMeasureSpec)

/-- 'laws.FnExactIsPlace', WHERE WHAT IT READS IS OF BULK AT MOST 1048576: true; the input reads as it did. -/
def fnExactIsPlaceUptoRow : OpenClaim := { program := "ytknonhamdjfmlaa", sum := "19cb4218e6c6ec0b259687ca9b7017317077280f616cda14382164becc900db2", func := "loop.example/g03017/laws.FnExactIsPlace", spec := "fnExactIsPlace", apart := false, narrowed := true }
def FnExactIsPlaceUptoSaid : Prop := fnExactIsPlaceUptoRow.holds Try.pinned (OpenSpec.upto fnExactIsPlaceSpec)

/-- 'laws.FnExactIsName', WHERE WHAT IT READS IS OF BULK AT MOST 1048576: true; the input reads as it did. -/
def fnExactIsNameUptoRow : OpenClaim := { program := "ytknonhamdjfmlaa", sum := "19cb4218e6c6ec0b259687ca9b7017317077280f616cda14382164becc900db2", func := "loop.example/g03017/laws.FnExactIsName", spec := "fnExactIsName", apart := false, narrowed := true }
def FnExactIsNameUptoSaid : Prop := fnExactIsNameUptoRow.holds Try.pinned (OpenSpec.upto fnExactIsNameSpec)

/-- 'laws.FnExactTurnHeading', WHERE WHAT IT READS IS OF BULK AT MOST 1048576: true; the input reads as it did. -/
def fnExactTurnHeadingUptoRow : OpenClaim := { program := "ytknonhamdjfmlaa", sum := "19cb4218e6c6ec0b259687ca9b7017317077280f616cda14382164becc900db2", func := "loop.example/g03017/laws.FnExactTurnHeading", spec := "fnExactTurnHeading", apart := false, narrowed := true }
def FnExactTurnHeadingUptoSaid : Prop := fnExactTurnHeadingUptoRow.holds Try.pinned (OpenSpec.upto fnExactTurnHeadingSpec)

/-- 'laws.FnExactIsBox', WHERE WHAT IT READS IS OF BULK AT MOST 1048576: true; the input reads as it did. -/
def fnExactIsBoxUptoRow : OpenClaim := { program := "ytknonhamdjfmlaa", sum := "19cb4218e6c6ec0b259687ca9b7017317077280f616cda14382164becc900db2", func := "loop.example/g03017/laws.FnExactIsBox", spec := "fnExactIsBox", apart := false, narrowed := true }
def FnExactIsBoxUptoSaid : Prop := fnExactIsBoxUptoRow.holds Try.pinned (OpenSpec.upto fnExactIsBoxSpec)

/-- 'laws.FnExactTimesMeasure', WHERE WHAT IT READS IS OF BULK AT MOST 1048576: true; the input reads as it did. -/
def fnExactTimesMeasureUptoRow : OpenClaim := { program := "ytknonhamdjfmlaa", sum := "19cb4218e6c6ec0b259687ca9b7017317077280f616cda14382164becc900db2", func := "loop.example/g03017/laws.FnExactTimesMeasure", spec := "fnExactTimesMeasure", apart := false, narrowed := true }
def FnExactTimesMeasureUptoSaid : Prop := fnExactTimesMeasureUptoRow.holds Try.pinned (OpenSpec.upto fnExactTimesMeasureSpec)

/-- 'laws.FnExactIsJet', WHERE WHAT IT READS IS OF BULK AT MOST 1048576: true; the input reads as it did. -/
def fnExactIsJetUptoRow : OpenClaim := { program := "ytknonhamdjfmlaa", sum := "19cb4218e6c6ec0b259687ca9b7017317077280f616cda14382164becc900db2", func := "loop.example/g03017/laws.FnExactIsJet", spec := "fnExactIsJet", apart := false, narrowed := true }
def FnExactIsJetUptoSaid : Prop := fnExactIsJetUptoRow.holds Try.pinned (OpenSpec.upto fnExactIsJetSpec)

/-- 'laws.FnExactInBox', WHERE WHAT IT READS IS OF BULK AT MOST 1048576: true; the input reads as it did. -/
def fnExactInBoxUptoRow : OpenClaim := { program := "ytknonhamdjfmlaa", sum := "19cb4218e6c6ec0b259687ca9b7017317077280f616cda14382164becc900db2", func := "loop.example/g03017/laws.FnExactInBox", spec := "fnExactInBox", apart := false, narrowed := true }
def FnExactInBoxUptoSaid : Prop := fnExactInBoxUptoRow.holds Try.pinned (OpenSpec.upto fnExactInBoxSpec)

/-- 'laws.FnExactParseNumber', WHERE WHAT IT READS IS OF BULK AT MOST 1048576: true; the input reads as it did. -/
def fnExactParseNumberUptoRow : OpenClaim := { program := "ytknonhamdjfmlaa", sum := "19cb4218e6c6ec0b259687ca9b7017317077280f616cda14382164becc900db2", func := "loop.example/g03017/laws.FnExactParseNumber", spec := "fnExactParseNumber", recurses := true, apart := false, narrowed := true }
def FnExactParseNumberUptoSaid : Prop := fnExactParseNumberUptoRow.holds Try.pinned (OpenSpec.upto fnExactParseNumberSpec)

/-- 'laws.FnExactRampAt', WHERE WHAT IT READS IS OF BULK AT MOST 1048576: true; the input reads as it did. -/
def fnExactRampAtUptoRow : OpenClaim := { program := "ytknonhamdjfmlaa", sum := "19cb4218e6c6ec0b259687ca9b7017317077280f616cda14382164becc900db2", func := "loop.example/g03017/laws.FnExactRampAt", spec := "fnExactRampAt", apart := false, narrowed := true }
def FnExactRampAtUptoSaid : Prop := fnExactRampAtUptoRow.holds Try.pinned (OpenSpec.upto fnExactRampAtSpec)

end Rows
end Go.Proofs.Ytknonhamdjfmlaa
