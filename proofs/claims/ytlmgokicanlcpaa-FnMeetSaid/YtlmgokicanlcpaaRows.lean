/-
  No cell of these rows narrows 'for every input' (looked for: loops, veiled, ifaces, maps, wideKeys, modest, calm, conditions, laid).
  DERIVED. THE GIVEN ROWS OF THIS SEAT. 12 by the template 'for every input the law returns true; each argument reads behind the call as it read before'; 0 by the template 'total and deterministic' (their statements: YtlmgokicanlcpaaTotals.lean).
  GIVEN WITH THE SEED: the statements are not yours to turn. If you find one false, say at which input.
  Laid BY PROGRAM, IN A SANDBOX (cutbox-rows.mjs): the forced cells as the released guide's own fill.sh prints them over the translation 88c950682025323f… (all of the seat's roots in one cut). By AI agents, Wed Nov 11 2026. No macro, syntax, notation, axiom, sorry.
-/
import Derived.Test.YtlmgokicanlcpaaChecked
import GoSem.Claim
import GoSem.ClaimJoined
import GoSem.ClaimMapViews
import Derived.JoinedTies
import Derived.KernelRfl
namespace Go.Proofs.Ytlmgokicanlcpaa
/- THE CELL 'sum', in the pinned program and in every row, IS THE sha256 OF THE DUMP (.gsa) THAT YtlmgokicanlcpaaProg.lean LOADS. Nothing in Lean hashes anything: it is a label: what it is worth is what the hold of that sum in a sandbox is worth. -/
noncomputable def Try.pinned : Pinned := { name := "ytlmgokicanlcpaa", sum := "88c950682025323f16a9b49ce6d5a8734f1744da192455d40aaaff8c05832bf9", checked := Try.checked }
namespace Rows
def none {H : Type} : Left H := { results := [], args := [] }

/-- 'laws.FnExactTurnJet': WHATEVER THE INPUT: true; the input reads as it did. -/
def fnExactTurnJetSpec : ChangeSpec := { name := "fnExactTurnJet", fn := fun _ => fun
  | [d1, d2] => { results := [.lit (.bool true)], args := [d1, d2] }
  | _ => none }
def fnExactTurnJetRow : OpenClaim := { program := "ytlmgokicanlcpaa", sum := "88c950682025323f16a9b49ce6d5a8734f1744da192455d40aaaff8c05832bf9", func := "loop.example/g03017/laws.FnExactTurnJet", spec := "fnExactTurnJet", apart := false }
def FnExactTurnJetSaid : Prop := fnExactTurnJetRow.holds Try.pinned (OpenSpec.ofChange fnExactTurnJetSpec)

/-- ITS FALSE NEIGHBOUR: 'it returns false'. Refute it at one input. -/
def fnExactTurnJetWrong : ChangeSpec := { name := "fnExactTurnJet", fn := fun _ => fun
  | [d1, d2] => { results := [.lit (.bool false)], args := [d1, d2] }
  | _ => none }
def FnExactTurnJetWrongFalsely : Prop := fnExactTurnJetRow.holds Try.pinned (OpenSpec.ofChange fnExactTurnJetWrong)

/-- 'laws.FnExactBoxOf': WHATEVER THE INPUT: true; the input reads as it did. -/
def fnExactBoxOfSpec : ChangeSpec := { name := "fnExactBoxOf", fn := fun _ => fun
  | [d] => { results := [.lit (.bool true)], args := [d] }
  | _ => none }
def fnExactBoxOfRow : OpenClaim := { program := "ytlmgokicanlcpaa", sum := "88c950682025323f16a9b49ce6d5a8734f1744da192455d40aaaff8c05832bf9", func := "loop.example/g03017/laws.FnExactBoxOf", spec := "fnExactBoxOf", apart := false }
def FnExactBoxOfSaid : Prop := fnExactBoxOfRow.holds Try.pinned (OpenSpec.ofChange fnExactBoxOfSpec)

/-- ITS FALSE NEIGHBOUR: 'it returns false'. Refute it at one input. -/
def fnExactBoxOfWrong : ChangeSpec := { name := "fnExactBoxOf", fn := fun _ => fun
  | [d] => { results := [.lit (.bool false)], args := [d] }
  | _ => none }
def FnExactBoxOfWrongFalsely : Prop := fnExactBoxOfRow.holds Try.pinned (OpenSpec.ofChange fnExactBoxOfWrong)

/-- 'laws.FnExactPlaceAt': WHATEVER THE INPUT: true; the input reads as it did. -/
def fnExactPlaceAtSpec : ChangeSpec := { name := "fnExactPlaceAt", fn := fun _ => fun
  | [d1, d2] => { results := [.lit (.bool true)], args := [d1, d2] }
  | _ => none }
def fnExactPlaceAtRow : OpenClaim := { program := "ytlmgokicanlcpaa", sum := "88c950682025323f16a9b49ce6d5a8734f1744da192455d40aaaff8c05832bf9", func := "loop.example/g03017/laws.FnExactPlaceAt", spec := "fnExactPlaceAt", apart := false }
def FnExactPlaceAtSaid : Prop := fnExactPlaceAtRow.holds Try.pinned (OpenSpec.ofChange fnExactPlaceAtSpec)

/-- ITS FALSE NEIGHBOUR: 'it returns false'. Refute it at one input. -/
def fnExactPlaceAtWrong : ChangeSpec := { name := "fnExactPlaceAt", fn := fun _ => fun
  | [d1, d2] => { results := [.lit (.bool false)], args := [d1, d2] }
  | _ => none }
def FnExactPlaceAtWrongFalsely : Prop := fnExactPlaceAtRow.holds Try.pinned (OpenSpec.ofChange fnExactPlaceAtWrong)

/-- 'laws.FnExactDriftAt': WHATEVER THE INPUT: true; the input reads as it did. -/
def fnExactDriftAtSpec : ChangeSpec := { name := "fnExactDriftAt", fn := fun _ => fun
  | [d1, d2] => { results := [.lit (.bool true)], args := [d1, d2] }
  | _ => none }
def fnExactDriftAtRow : OpenClaim := { program := "ytlmgokicanlcpaa", sum := "88c950682025323f16a9b49ce6d5a8734f1744da192455d40aaaff8c05832bf9", func := "loop.example/g03017/laws.FnExactDriftAt", spec := "fnExactDriftAt", apart := false }
def FnExactDriftAtSaid : Prop := fnExactDriftAtRow.holds Try.pinned (OpenSpec.ofChange fnExactDriftAtSpec)

/-- ITS FALSE NEIGHBOUR: 'it returns false'. Refute it at one input. -/
def fnExactDriftAtWrong : ChangeSpec := { name := "fnExactDriftAt", fn := fun _ => fun
  | [d1, d2] => { results := [.lit (.bool false)], args := [d1, d2] }
  | _ => none }
def FnExactDriftAtWrongFalsely : Prop := fnExactDriftAtRow.holds Try.pinned (OpenSpec.ofChange fnExactDriftAtWrong)

/-- 'laws.FnExactLandingOf': WHATEVER THE INPUT: true; the input reads as it did. -/
def fnExactLandingOfSpec : ChangeSpec := { name := "fnExactLandingOf", fn := fun _ => fun
  | [d] => { results := [.lit (.bool true)], args := [d] }
  | _ => none }
def fnExactLandingOfRow : OpenClaim := { program := "ytlmgokicanlcpaa", sum := "88c950682025323f16a9b49ce6d5a8734f1744da192455d40aaaff8c05832bf9", func := "loop.example/g03017/laws.FnExactLandingOf", spec := "fnExactLandingOf", apart := false }
def FnExactLandingOfSaid : Prop := fnExactLandingOfRow.holds Try.pinned (OpenSpec.ofChange fnExactLandingOfSpec)

/-- ITS FALSE NEIGHBOUR: 'it returns false'. Refute it at one input. -/
def fnExactLandingOfWrong : ChangeSpec := { name := "fnExactLandingOf", fn := fun _ => fun
  | [d] => { results := [.lit (.bool false)], args := [d] }
  | _ => none }
def FnExactLandingOfWrongFalsely : Prop := fnExactLandingOfRow.holds Try.pinned (OpenSpec.ofChange fnExactLandingOfWrong)

/-- 'laws.FnExactIsWind': WHATEVER THE INPUT: true; the input reads as it did. -/
def fnExactIsWindSpec : ChangeSpec := { name := "fnExactIsWind", fn := fun _ => fun
  | [d] => { results := [.lit (.bool true)], args := [d] }
  | _ => none }
def fnExactIsWindRow : OpenClaim := { program := "ytlmgokicanlcpaa", sum := "88c950682025323f16a9b49ce6d5a8734f1744da192455d40aaaff8c05832bf9", func := "loop.example/g03017/laws.FnExactIsWind", spec := "fnExactIsWind", apart := false }
def FnExactIsWindSaid : Prop := fnExactIsWindRow.holds Try.pinned (OpenSpec.ofChange fnExactIsWindSpec)

/-- ITS FALSE NEIGHBOUR: 'it returns false'. Refute it at one input. -/
def fnExactIsWindWrong : ChangeSpec := { name := "fnExactIsWind", fn := fun _ => fun
  | [d] => { results := [.lit (.bool false)], args := [d] }
  | _ => none }
def FnExactIsWindWrongFalsely : Prop := fnExactIsWindRow.holds Try.pinned (OpenSpec.ofChange fnExactIsWindWrong)

/-- 'laws.FnExactTurnBox': WHATEVER THE INPUT: true; the input reads as it did. -/
def fnExactTurnBoxSpec : ChangeSpec := { name := "fnExactTurnBox", fn := fun _ => fun
  | [d1, d2] => { results := [.lit (.bool true)], args := [d1, d2] }
  | _ => none }
def fnExactTurnBoxRow : OpenClaim := { program := "ytlmgokicanlcpaa", sum := "88c950682025323f16a9b49ce6d5a8734f1744da192455d40aaaff8c05832bf9", func := "loop.example/g03017/laws.FnExactTurnBox", spec := "fnExactTurnBox", apart := false }
def FnExactTurnBoxSaid : Prop := fnExactTurnBoxRow.holds Try.pinned (OpenSpec.ofChange fnExactTurnBoxSpec)

/-- ITS FALSE NEIGHBOUR: 'it returns false'. Refute it at one input. -/
def fnExactTurnBoxWrong : ChangeSpec := { name := "fnExactTurnBox", fn := fun _ => fun
  | [d1, d2] => { results := [.lit (.bool false)], args := [d1, d2] }
  | _ => none }
def FnExactTurnBoxWrongFalsely : Prop := fnExactTurnBoxRow.holds Try.pinned (OpenSpec.ofChange fnExactTurnBoxWrong)

/-- 'laws.FnExactAimJet': WHATEVER THE INPUT: true; the input reads as it did. -/
def fnExactAimJetSpec : ChangeSpec := { name := "fnExactAimJet", fn := fun _ => fun
  | [d1, d2, d3] => { results := [.lit (.bool true)], args := [d1, d2, d3] }
  | _ => none }
def fnExactAimJetRow : OpenClaim := { program := "ytlmgokicanlcpaa", sum := "88c950682025323f16a9b49ce6d5a8734f1744da192455d40aaaff8c05832bf9", func := "loop.example/g03017/laws.FnExactAimJet", spec := "fnExactAimJet", apart := false }
def FnExactAimJetSaid : Prop := fnExactAimJetRow.holds Try.pinned (OpenSpec.ofChange fnExactAimJetSpec)

/-- ITS FALSE NEIGHBOUR: 'it returns false'. Refute it at one input. -/
def fnExactAimJetWrong : ChangeSpec := { name := "fnExactAimJet", fn := fun _ => fun
  | [d1, d2, d3] => { results := [.lit (.bool false)], args := [d1, d2, d3] }
  | _ => none }
def FnExactAimJetWrongFalsely : Prop := fnExactAimJetRow.holds Try.pinned (OpenSpec.ofChange fnExactAimJetWrong)

/-- 'laws.FnExactMeetingsOf': WHATEVER THE INPUT: true; the input reads as it did. -/
def fnExactMeetingsOfSpec : ChangeSpec := { name := "fnExactMeetingsOf", fn := fun _ => fun
  | [d1, d2] => { results := [.lit (.bool true)], args := [d1, d2] }
  | _ => none }
def fnExactMeetingsOfRow : OpenClaim := { program := "ytlmgokicanlcpaa", sum := "88c950682025323f16a9b49ce6d5a8734f1744da192455d40aaaff8c05832bf9", func := "loop.example/g03017/laws.FnExactMeetingsOf", spec := "fnExactMeetingsOf", apart := false }
def FnExactMeetingsOfSaid : Prop := fnExactMeetingsOfRow.holds Try.pinned (OpenSpec.ofChange fnExactMeetingsOfSpec)

/-- ITS FALSE NEIGHBOUR: 'it returns false'. Refute it at one input. -/
def fnExactMeetingsOfWrong : ChangeSpec := { name := "fnExactMeetingsOf", fn := fun _ => fun
  | [d1, d2] => { results := [.lit (.bool false)], args := [d1, d2] }
  | _ => none }
def FnExactMeetingsOfWrongFalsely : Prop := fnExactMeetingsOfRow.holds Try.pinned (OpenSpec.ofChange fnExactMeetingsOfWrong)

/-- 'laws.FnExactIsRose': WHATEVER THE INPUT: true; the input reads as it did. -/
def fnExactIsRoseSpec : ChangeSpec := { name := "fnExactIsRose", fn := fun _ => fun
  | [d] => { results := [.lit (.bool true)], args := [d] }
  | _ => none }
def fnExactIsRoseRow : OpenClaim := { program := "ytlmgokicanlcpaa", sum := "88c950682025323f16a9b49ce6d5a8734f1744da192455d40aaaff8c05832bf9", func := "loop.example/g03017/laws.FnExactIsRose", spec := "fnExactIsRose", apart := false }
def FnExactIsRoseSaid : Prop := fnExactIsRoseRow.holds Try.pinned (OpenSpec.ofChange fnExactIsRoseSpec)

/-- ITS FALSE NEIGHBOUR: 'it returns false'. Refute it at one input. -/
def fnExactIsRoseWrong : ChangeSpec := { name := "fnExactIsRose", fn := fun _ => fun
  | [d] => { results := [.lit (.bool false)], args := [d] }
  | _ => none }
def FnExactIsRoseWrongFalsely : Prop := fnExactIsRoseRow.holds Try.pinned (OpenSpec.ofChange fnExactIsRoseWrong)

/-- 'laws.FnMeet': WHATEVER THE INPUT: true; the input reads as it did. -/
def fnMeetSpec : ChangeSpec := { name := "fnMeet", fn := fun _ => fun
  | [d] => { results := [.lit (.bool true)], args := [d] }
  | _ => none }
def fnMeetRow : OpenClaim := { program := "ytlmgokicanlcpaa", sum := "88c950682025323f16a9b49ce6d5a8734f1744da192455d40aaaff8c05832bf9", func := "loop.example/g03017/laws.FnMeet", spec := "fnMeet", apart := false }
def FnMeetSaid : Prop := fnMeetRow.holds Try.pinned (OpenSpec.ofChange fnMeetSpec)

/-- ITS FALSE NEIGHBOUR: 'it returns false'. Refute it at one input. -/
def fnMeetWrong : ChangeSpec := { name := "fnMeet", fn := fun _ => fun
  | [d] => { results := [.lit (.bool false)], args := [d] }
  | _ => none }
def FnMeetWrongFalsely : Prop := fnMeetRow.holds Try.pinned (OpenSpec.ofChange fnMeetWrong)

/-- 'laws.FnMovedJet': WHATEVER THE INPUT: true; the input reads as it did. -/
def fnMovedJetSpec : ChangeSpec := { name := "fnMovedJet", fn := fun _ => fun
  | [d] => { results := [.lit (.bool true)], args := [d] }
  | _ => none }
def fnMovedJetRow : OpenClaim := { program := "ytlmgokicanlcpaa", sum := "88c950682025323f16a9b49ce6d5a8734f1744da192455d40aaaff8c05832bf9", func := "loop.example/g03017/laws.FnMovedJet", spec := "fnMovedJet", apart := false }
def FnMovedJetSaid : Prop := fnMovedJetRow.holds Try.pinned (OpenSpec.ofChange fnMovedJetSpec)

/-- ITS FALSE NEIGHBOUR: 'it returns false'. Refute it at one input. -/
def fnMovedJetWrong : ChangeSpec := { name := "fnMovedJet", fn := fun _ => fun
  | [d] => { results := [.lit (.bool false)], args := [d] }
  | _ => none }
def FnMovedJetWrongFalsely : Prop := fnMovedJetRow.holds Try.pinned (OpenSpec.ofChange fnMovedJetWrong)

/- THE SECOND FORM. 'bulk': how many values and letters a reading holds, each counted each time it is reached (what is shared counts as often as it is met; a slice's spare places count too). A statement '..UptoSaid' is the law's where the arguments, and the package variables that the reading takes, are together of bulk at most 1048576: NARROWER than '..Said'. Prove '..Said' where nothing that the law and all that it calls make is longer than what came in: it says more and counts as full. Else prove '..UptoSaid'. A law counts once. -/
mutual
def uptoBulk {H : Type} : DataW H → Nat
  | .lit (.string bytes) => bytes.length + 1
  | .lit _ => 1
  | .nil => 1
  | .ptr d => uptoBulk d + 1
  | .slice elems spare => uptoBulkAll elems + uptoBulkAll spare + 1
  | .agg parts => uptoBulkAll parts + 1
  | .iface _ d => uptoBulk d + 1
  | .map entries => uptoBulkEntries entries + 1
  | .held _ => 1
def uptoBulkAll {H : Type} : List (DataW H) → Nat
  | [] => 0
  | d :: r => uptoBulk d + uptoBulkAll r
def uptoBulkEntries {H : Type} : List (Lit × DataW H) → Nat
  | [] => 0
  | x :: r => uptoBulkEntry x + uptoBulkEntries r
def uptoBulkEntry {H : Type} : Lit × DataW H → Nat
  | (.string bytes, d) => bytes.length + uptoBulk d + 1
  | (_, d) => uptoBulk d + 1
 end
def uptoSmall : (H : Type) → List (DataW H) → Bool := fun _ ds => decide (uptoBulkAll ds ≤ 1048576)
def OpenSpec.upto (s : _root_.Go.ChangeSpec) : _root_.Go.OpenSpec := { _root_.Go.OpenSpec.ofChange s with cond := some uptoSmall }

/-- 'laws.FnExactTurnJet', WHERE WHAT IT READS IS OF BULK AT MOST 1048576: true; the input reads as it did. -/
def fnExactTurnJetUptoRow : OpenClaim := { program := "ytlmgokicanlcpaa", sum := "88c950682025323f16a9b49ce6d5a8734f1744da192455d40aaaff8c05832bf9", func := "loop.example/g03017/laws.FnExactTurnJet", spec := "fnExactTurnJet", apart := false, narrowed := true }
def FnExactTurnJetUptoSaid : Prop := fnExactTurnJetUptoRow.holds Try.pinned (OpenSpec.upto fnExactTurnJetSpec)

/-- 'laws.FnExactBoxOf', WHERE WHAT IT READS IS OF BULK AT MOST 1048576: true; the input reads as it did. -/
def fnExactBoxOfUptoRow : OpenClaim := { program := "ytlmgokicanlcpaa", sum := "88c950682025323f16a9b49ce6d5a8734f1744da192455d40aaaff8c05832bf9", func := "loop.example/g03017/laws.FnExactBoxOf", spec := "fnExactBoxOf", apart := false, narrowed := true }
def FnExactBoxOfUptoSaid : Prop := fnExactBoxOfUptoRow.holds Try.pinned (OpenSpec.upto fnExactBoxOfSpec)

/-- 'laws.FnExactPlaceAt', WHERE WHAT IT READS IS OF BULK AT MOST 1048576: true; the input reads as it did. -/
def fnExactPlaceAtUptoRow : OpenClaim := { program := "ytlmgokicanlcpaa", sum := "88c950682025323f16a9b49ce6d5a8734f1744da192455d40aaaff8c05832bf9", func := "loop.example/g03017/laws.FnExactPlaceAt", spec := "fnExactPlaceAt", apart := false, narrowed := true }
def FnExactPlaceAtUptoSaid : Prop := fnExactPlaceAtUptoRow.holds Try.pinned (OpenSpec.upto fnExactPlaceAtSpec)

/-- 'laws.FnExactDriftAt', WHERE WHAT IT READS IS OF BULK AT MOST 1048576: true; the input reads as it did. -/
def fnExactDriftAtUptoRow : OpenClaim := { program := "ytlmgokicanlcpaa", sum := "88c950682025323f16a9b49ce6d5a8734f1744da192455d40aaaff8c05832bf9", func := "loop.example/g03017/laws.FnExactDriftAt", spec := "fnExactDriftAt", apart := false, narrowed := true }
def FnExactDriftAtUptoSaid : Prop := fnExactDriftAtUptoRow.holds Try.pinned (OpenSpec.upto fnExactDriftAtSpec)

/-- 'laws.FnExactLandingOf', WHERE WHAT IT READS IS OF BULK AT MOST 1048576: true; the input reads as it did. -/
def fnExactLandingOfUptoRow : OpenClaim := { program := "ytlmgokicanlcpaa", sum := "88c950682025323f16a9b49ce6d5a8734f1744da192455d40aaaff8c05832bf9", func := "loop.example/g03017/laws.FnExactLandingOf", spec := "fnExactLandingOf", apart := false, narrowed := true }
def FnExactLandingOfUptoSaid : Prop := fnExactLandingOfUptoRow.holds Try.pinned (OpenSpec.upto fnExactLandingOfSpec)

/-- 'laws.FnExactIsWind', WHERE WHAT IT READS IS OF BULK AT MOST 1048576: true; the input reads as it did. -/
def fnExactIsWindUptoRow : OpenClaim := { program := "ytlmgokicanlcpaa", sum := "88c950682025323f16a9b49ce6d5a8734f1744da192455d40aaaff8c05832bf9", func := "loop.example/g03017/laws.FnExactIsWind", spec := "fnExactIsWind", apart := false, narrowed := true }
def FnExactIsWindUptoSaid : Prop := fnExactIsWindUptoRow.holds Try.pinned (OpenSpec.upto fnExactIsWindSpec)

/-- 'laws.FnExactTurnBox', WHERE WHAT IT READS IS OF BULK AT MOST 1048576: true; the input reads as it did. -/
def fnExactTurnBoxUptoRow : OpenClaim := { program := "ytlmgokicanlcpaa", sum := "88c950682025323f16a9b49ce6d5a8734f1744da192455d40aaaff8c05832bf9", func := "loop.example/g03017/laws.FnExactTurnBox", spec := "fnExactTurnBox", apart := false, narrowed := true }
def FnExactTurnBoxUptoSaid : Prop := fnExactTurnBoxUptoRow.holds Try.pinned (OpenSpec.upto fnExactTurnBoxSpec)

/-- 'laws.FnExactAimJet', WHERE WHAT IT READS IS OF BULK AT MOST 1048576: true; the input reads as it did. -/
def fnExactAimJetUptoRow : OpenClaim := { program := "ytlmgokicanlcpaa", sum := "88c950682025323f16a9b49ce6d5a8734f1744da192455d40aaaff8c05832bf9", func := "loop.example/g03017/laws.FnExactAimJet", spec := "fnExactAimJet", apart := false, narrowed := true }
def FnExactAimJetUptoSaid : Prop := fnExactAimJetUptoRow.holds Try.pinned (OpenSpec.upto fnExactAimJetSpec)

/-- 'laws.FnExactMeetingsOf', WHERE WHAT IT READS IS OF BULK AT MOST 1048576: true; the input reads as it did. -/
def fnExactMeetingsOfUptoRow : OpenClaim := { program := "ytlmgokicanlcpaa", sum := "88c950682025323f16a9b49ce6d5a8734f1744da192455d40aaaff8c05832bf9", func := "loop.example/g03017/laws.FnExactMeetingsOf", spec := "fnExactMeetingsOf", apart := false, narrowed := true }
def FnExactMeetingsOfUptoSaid : Prop := fnExactMeetingsOfUptoRow.holds Try.pinned (OpenSpec.upto fnExactMeetingsOfSpec)

/-- 'laws.FnExactIsRose', WHERE WHAT IT READS IS OF BULK AT MOST 1048576: true; the input reads as it did. -/
def fnExactIsRoseUptoRow : OpenClaim := { program := "ytlmgokicanlcpaa", sum := "88c950682025323f16a9b49ce6d5a8734f1744da192455d40aaaff8c05832bf9", func := "loop.example/g03017/laws.FnExactIsRose", spec := "fnExactIsRose", apart := false, narrowed := true }
def FnExactIsRoseUptoSaid : Prop := fnExactIsRoseUptoRow.holds Try.pinned (OpenSpec.upto fnExactIsRoseSpec)

/-- 'laws.FnMeet', WHERE WHAT IT READS IS OF BULK AT MOST 1048576: true; the input reads as it did. -/
def fnMeetUptoRow : OpenClaim := { program := "ytlmgokicanlcpaa", sum := "88c950682025323f16a9b49ce6d5a8734f1744da192455d40aaaff8c05832bf9", func := "loop.example/g03017/laws.FnMeet", spec := "fnMeet", apart := false, narrowed := true }
def FnMeetUptoSaid : Prop := fnMeetUptoRow.holds Try.pinned (OpenSpec.upto fnMeetSpec)

/-- 'laws.FnMovedJet', WHERE WHAT IT READS IS OF BULK AT MOST 1048576: true; the input reads as it did. -/
def fnMovedJetUptoRow : OpenClaim := { program := "ytlmgokicanlcpaa", sum := "88c950682025323f16a9b49ce6d5a8734f1744da192455d40aaaff8c05832bf9", func := "loop.example/g03017/laws.FnMovedJet", spec := "fnMovedJet", apart := false, narrowed := true }
def FnMovedJetUptoSaid : Prop := fnMovedJetUptoRow.holds Try.pinned (OpenSpec.upto fnMovedJetSpec)

end Rows
end Go.Proofs.Ytlmgokicanlcpaa
