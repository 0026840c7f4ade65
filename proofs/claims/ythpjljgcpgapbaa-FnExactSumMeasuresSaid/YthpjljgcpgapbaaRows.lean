/-
  No cell of these rows narrows 'for every input' (looked for: loops, veiled, ifaces, maps, wideKeys, modest, calm, conditions, laid).
  DERIVED. THE GIVEN ROWS OF THIS SEAT. 12 by the template 'for every input the law returns true; each argument reads behind the call as it read before'; 0 by the template 'total and deterministic' (their statements: YthpjljgcpgapbaaTotals.lean).
  GIVEN WITH THE SEED: the statements are not yours to turn. If you find one false, say at which input.
  Laid BY PROGRAM, IN A SANDBOX (cutbox-rows.mjs): the forced cells as the released guide's own fill.sh prints them over the translation 3fb94a61a4d6ca82… (all of the seat's roots in one cut). By AI agents, Wed Nov 11 2026. No macro, syntax, notation, axiom, sorry.
-/
import Derived.Test.YthpjljgcpgapbaaChecked
import GoSem.Claim
import GoSem.ClaimJoined
import GoSem.ClaimMapViews
import Derived.JoinedTies
import Derived.KernelRfl
namespace Go.Proofs.Ythpjljgcpgapbaa
/- THE CELL 'sum', in the pinned program and in every row, IS THE sha256 OF THE DUMP (.gsa) THAT YthpjljgcpgapbaaProg.lean LOADS. Nothing in Lean hashes anything: it is a label: what it is worth is what the hold of that sum in a sandbox is worth. -/
noncomputable def Try.pinned : Pinned := { name := "ythpjljgcpgapbaa", sum := "3fb94a61a4d6ca82cabd0dca7c8a86956c59b9627cb515069f85b8caa9874037", checked := Try.checked }
namespace Rows
def none {H : Type} : Left H := { results := [], args := [] }

/-- 'laws.FnExactAddPlaces': WHATEVER THE INPUT: true; the input reads as it did. -/
def fnExactAddPlacesSpec : ChangeSpec := { name := "fnExactAddPlaces", fn := fun _ => fun
  | [d1, d2] => { results := [.lit (.bool true)], args := [d1, d2] }
  | _ => none }
def fnExactAddPlacesRow : OpenClaim := { program := "ythpjljgcpgapbaa", sum := "3fb94a61a4d6ca82cabd0dca7c8a86956c59b9627cb515069f85b8caa9874037", func := "loop.example/g03017/laws.FnExactAddPlaces", spec := "fnExactAddPlaces", apart := false }
def FnExactAddPlacesSaid : Prop := fnExactAddPlacesRow.holds Try.pinned (OpenSpec.ofChange fnExactAddPlacesSpec)

/-- ITS FALSE NEIGHBOUR: 'it returns false'. Refute it at one input. -/
def fnExactAddPlacesWrong : ChangeSpec := { name := "fnExactAddPlaces", fn := fun _ => fun
  | [d1, d2] => { results := [.lit (.bool false)], args := [d1, d2] }
  | _ => none }
def FnExactAddPlacesWrongFalsely : Prop := fnExactAddPlacesRow.holds Try.pinned (OpenSpec.ofChange fnExactAddPlacesWrong)

/-- 'laws.FnExactFlightOf': WHATEVER THE INPUT: true; the input reads as it did. -/
def fnExactFlightOfSpec : ChangeSpec := { name := "fnExactFlightOf", fn := fun _ => fun
  | [d] => { results := [.lit (.bool true)], args := [d] }
  | _ => none }
def fnExactFlightOfRow : OpenClaim := { program := "ythpjljgcpgapbaa", sum := "3fb94a61a4d6ca82cabd0dca7c8a86956c59b9627cb515069f85b8caa9874037", func := "loop.example/g03017/laws.FnExactFlightOf", spec := "fnExactFlightOf", apart := false }
def FnExactFlightOfSaid : Prop := fnExactFlightOfRow.holds Try.pinned (OpenSpec.ofChange fnExactFlightOfSpec)

/-- ITS FALSE NEIGHBOUR: 'it returns false'. Refute it at one input. -/
def fnExactFlightOfWrong : ChangeSpec := { name := "fnExactFlightOf", fn := fun _ => fun
  | [d] => { results := [.lit (.bool false)], args := [d] }
  | _ => none }
def FnExactFlightOfWrongFalsely : Prop := fnExactFlightOfRow.holds Try.pinned (OpenSpec.ofChange fnExactFlightOfWrong)

/-- 'laws.FnExactReachOf': WHATEVER THE INPUT: true; the input reads as it did. -/
def fnExactReachOfSpec : ChangeSpec := { name := "fnExactReachOf", fn := fun _ => fun
  | [d] => { results := [.lit (.bool true)], args := [d] }
  | _ => none }
def fnExactReachOfRow : OpenClaim := { program := "ythpjljgcpgapbaa", sum := "3fb94a61a4d6ca82cabd0dca7c8a86956c59b9627cb515069f85b8caa9874037", func := "loop.example/g03017/laws.FnExactReachOf", spec := "fnExactReachOf", apart := false }
def FnExactReachOfSaid : Prop := fnExactReachOfRow.holds Try.pinned (OpenSpec.ofChange fnExactReachOfSpec)

/-- ITS FALSE NEIGHBOUR: 'it returns false'. Refute it at one input. -/
def fnExactReachOfWrong : ChangeSpec := { name := "fnExactReachOf", fn := fun _ => fun
  | [d] => { results := [.lit (.bool false)], args := [d] }
  | _ => none }
def FnExactReachOfWrongFalsely : Prop := fnExactReachOfRow.holds Try.pinned (OpenSpec.ofChange fnExactReachOfWrong)

/-- 'laws.FnExactSumMeasures': WHATEVER THE INPUT: true; the input reads as it did. -/
def fnExactSumMeasuresSpec : ChangeSpec := { name := "fnExactSumMeasures", fn := fun _ => fun
  | [d] => { results := [.lit (.bool true)], args := [d] }
  | _ => none }
def fnExactSumMeasuresRow : OpenClaim := { program := "ythpjljgcpgapbaa", sum := "3fb94a61a4d6ca82cabd0dca7c8a86956c59b9627cb515069f85b8caa9874037", func := "loop.example/g03017/laws.FnExactSumMeasures", spec := "fnExactSumMeasures", apart := false }
def FnExactSumMeasuresSaid : Prop := fnExactSumMeasuresRow.holds Try.pinned (OpenSpec.ofChange fnExactSumMeasuresSpec)

/-- ITS FALSE NEIGHBOUR: 'it returns false'. Refute it at one input. -/
def fnExactSumMeasuresWrong : ChangeSpec := { name := "fnExactSumMeasures", fn := fun _ => fun
  | [d] => { results := [.lit (.bool false)], args := [d] }
  | _ => none }
def FnExactSumMeasuresWrongFalsely : Prop := fnExactSumMeasuresRow.holds Try.pinned (OpenSpec.ofChange fnExactSumMeasuresWrong)

/-- 'laws.FnExactComparePlaces': WHATEVER THE INPUT: true; the input reads as it did. -/
def fnExactComparePlacesSpec : ChangeSpec := { name := "fnExactComparePlaces", fn := fun _ => fun
  | [d1, d2] => { results := [.lit (.bool true)], args := [d1, d2] }
  | _ => none }
def fnExactComparePlacesRow : OpenClaim := { program := "ythpjljgcpgapbaa", sum := "3fb94a61a4d6ca82cabd0dca7c8a86956c59b9627cb515069f85b8caa9874037", func := "loop.example/g03017/laws.FnExactComparePlaces", spec := "fnExactComparePlaces", apart := false }
def FnExactComparePlacesSaid : Prop := fnExactComparePlacesRow.holds Try.pinned (OpenSpec.ofChange fnExactComparePlacesSpec)

/-- ITS FALSE NEIGHBOUR: 'it returns false'. Refute it at one input. -/
def fnExactComparePlacesWrong : ChangeSpec := { name := "fnExactComparePlaces", fn := fun _ => fun
  | [d1, d2] => { results := [.lit (.bool false)], args := [d1, d2] }
  | _ => none }
def FnExactComparePlacesWrongFalsely : Prop := fnExactComparePlacesRow.holds Try.pinned (OpenSpec.ofChange fnExactComparePlacesWrong)

/-- 'laws.FnExactTurnPlace': WHATEVER THE INPUT: true; the input reads as it did. -/
def fnExactTurnPlaceSpec : ChangeSpec := { name := "fnExactTurnPlace", fn := fun _ => fun
  | [d1, d2] => { results := [.lit (.bool true)], args := [d1, d2] }
  | _ => none }
def fnExactTurnPlaceRow : OpenClaim := { program := "ythpjljgcpgapbaa", sum := "3fb94a61a4d6ca82cabd0dca7c8a86956c59b9627cb515069f85b8caa9874037", func := "loop.example/g03017/laws.FnExactTurnPlace", spec := "fnExactTurnPlace", apart := false }
def FnExactTurnPlaceSaid : Prop := fnExactTurnPlaceRow.holds Try.pinned (OpenSpec.ofChange fnExactTurnPlaceSpec)

/-- ITS FALSE NEIGHBOUR: 'it returns false'. Refute it at one input. -/
def fnExactTurnPlaceWrong : ChangeSpec := { name := "fnExactTurnPlace", fn := fun _ => fun
  | [d1, d2] => { results := [.lit (.bool false)], args := [d1, d2] }
  | _ => none }
def FnExactTurnPlaceWrongFalsely : Prop := fnExactTurnPlaceRow.holds Try.pinned (OpenSpec.ofChange fnExactTurnPlaceWrong)

/-- 'laws.FnExactHeightAt': WHATEVER THE INPUT: true; the input reads as it did. -/
def fnExactHeightAtSpec : ChangeSpec := { name := "fnExactHeightAt", fn := fun _ => fun
  | [d1, d2] => { results := [.lit (.bool true)], args := [d1, d2] }
  | _ => none }
def fnExactHeightAtRow : OpenClaim := { program := "ythpjljgcpgapbaa", sum := "3fb94a61a4d6ca82cabd0dca7c8a86956c59b9627cb515069f85b8caa9874037", func := "loop.example/g03017/laws.FnExactHeightAt", spec := "fnExactHeightAt", apart := false }
def FnExactHeightAtSaid : Prop := fnExactHeightAtRow.holds Try.pinned (OpenSpec.ofChange fnExactHeightAtSpec)

/-- ITS FALSE NEIGHBOUR: 'it returns false'. Refute it at one input. -/
def fnExactHeightAtWrong : ChangeSpec := { name := "fnExactHeightAt", fn := fun _ => fun
  | [d1, d2] => { results := [.lit (.bool false)], args := [d1, d2] }
  | _ => none }
def FnExactHeightAtWrongFalsely : Prop := fnExactHeightAtRow.holds Try.pinned (OpenSpec.ofChange fnExactHeightAtWrong)

/-- 'laws.FnExactTurnAbout': WHATEVER THE INPUT: true; the input reads as it did. -/
def fnExactTurnAboutSpec : ChangeSpec := { name := "fnExactTurnAbout", fn := fun _ => fun
  | [d1, d2, d3] => { results := [.lit (.bool true)], args := [d1, d2, d3] }
  | _ => none }
def fnExactTurnAboutRow : OpenClaim := { program := "ythpjljgcpgapbaa", sum := "3fb94a61a4d6ca82cabd0dca7c8a86956c59b9627cb515069f85b8caa9874037", func := "loop.example/g03017/laws.FnExactTurnAbout", spec := "fnExactTurnAbout", apart := false }
def FnExactTurnAboutSaid : Prop := fnExactTurnAboutRow.holds Try.pinned (OpenSpec.ofChange fnExactTurnAboutSpec)

/-- ITS FALSE NEIGHBOUR: 'it returns false'. Refute it at one input. -/
def fnExactTurnAboutWrong : ChangeSpec := { name := "fnExactTurnAbout", fn := fun _ => fun
  | [d1, d2, d3] => { results := [.lit (.bool false)], args := [d1, d2, d3] }
  | _ => none }
def FnExactTurnAboutWrongFalsely : Prop := fnExactTurnAboutRow.holds Try.pinned (OpenSpec.ofChange fnExactTurnAboutWrong)

/-- 'laws.FnExactStepFrom': WHATEVER THE INPUT: true; the input reads as it did. -/
def fnExactStepFromSpec : ChangeSpec := { name := "fnExactStepFrom", fn := fun _ => fun
  | [d1, d2, d3] => { results := [.lit (.bool true)], args := [d1, d2, d3] }
  | _ => none }
def fnExactStepFromRow : OpenClaim := { program := "ythpjljgcpgapbaa", sum := "3fb94a61a4d6ca82cabd0dca7c8a86956c59b9627cb515069f85b8caa9874037", func := "loop.example/g03017/laws.FnExactStepFrom", spec := "fnExactStepFrom", apart := false }
def FnExactStepFromSaid : Prop := fnExactStepFromRow.holds Try.pinned (OpenSpec.ofChange fnExactStepFromSpec)

/-- ITS FALSE NEIGHBOUR: 'it returns false'. Refute it at one input. -/
def fnExactStepFromWrong : ChangeSpec := { name := "fnExactStepFrom", fn := fun _ => fun
  | [d1, d2, d3] => { results := [.lit (.bool false)], args := [d1, d2, d3] }
  | _ => none }
def FnExactStepFromWrongFalsely : Prop := fnExactStepFromRow.holds Try.pinned (OpenSpec.ofChange fnExactStepFromWrong)

/-- 'laws.FnExactPeakOf': WHATEVER THE INPUT: true; the input reads as it did. -/
def fnExactPeakOfSpec : ChangeSpec := { name := "fnExactPeakOf", fn := fun _ => fun
  | [d] => { results := [.lit (.bool true)], args := [d] }
  | _ => none }
def fnExactPeakOfRow : OpenClaim := { program := "ythpjljgcpgapbaa", sum := "3fb94a61a4d6ca82cabd0dca7c8a86956c59b9627cb515069f85b8caa9874037", func := "loop.example/g03017/laws.FnExactPeakOf", spec := "fnExactPeakOf", apart := false }
def FnExactPeakOfSaid : Prop := fnExactPeakOfRow.holds Try.pinned (OpenSpec.ofChange fnExactPeakOfSpec)

/-- ITS FALSE NEIGHBOUR: 'it returns false'. Refute it at one input. -/
def fnExactPeakOfWrong : ChangeSpec := { name := "fnExactPeakOf", fn := fun _ => fun
  | [d] => { results := [.lit (.bool false)], args := [d] }
  | _ => none }
def FnExactPeakOfWrongFalsely : Prop := fnExactPeakOfRow.holds Try.pinned (OpenSpec.ofChange fnExactPeakOfWrong)

/-- 'laws.FnExactLiftFor': WHATEVER THE INPUT: true; the input reads as it did. -/
def fnExactLiftForSpec : ChangeSpec := { name := "fnExactLiftFor", fn := fun _ => fun
  | [d] => { results := [.lit (.bool true)], args := [d] }
  | _ => none }
def fnExactLiftForRow : OpenClaim := { program := "ythpjljgcpgapbaa", sum := "3fb94a61a4d6ca82cabd0dca7c8a86956c59b9627cb515069f85b8caa9874037", func := "loop.example/g03017/laws.FnExactLiftFor", spec := "fnExactLiftFor", apart := false }
def FnExactLiftForSaid : Prop := fnExactLiftForRow.holds Try.pinned (OpenSpec.ofChange fnExactLiftForSpec)

/-- ITS FALSE NEIGHBOUR: 'it returns false'. Refute it at one input. -/
def fnExactLiftForWrong : ChangeSpec := { name := "fnExactLiftFor", fn := fun _ => fun
  | [d] => { results := [.lit (.bool false)], args := [d] }
  | _ => none }
def FnExactLiftForWrongFalsely : Prop := fnExactLiftForRow.holds Try.pinned (OpenSpec.ofChange fnExactLiftForWrong)

/-- 'laws.FnExactShiftJet': WHATEVER THE INPUT: true; the input reads as it did. -/
def fnExactShiftJetSpec : ChangeSpec := { name := "fnExactShiftJet", fn := fun _ => fun
  | [d1, d2] => { results := [.lit (.bool true)], args := [d1, d2] }
  | _ => none }
def fnExactShiftJetRow : OpenClaim := { program := "ythpjljgcpgapbaa", sum := "3fb94a61a4d6ca82cabd0dca7c8a86956c59b9627cb515069f85b8caa9874037", func := "loop.example/g03017/laws.FnExactShiftJet", spec := "fnExactShiftJet", apart := false }
def FnExactShiftJetSaid : Prop := fnExactShiftJetRow.holds Try.pinned (OpenSpec.ofChange fnExactShiftJetSpec)

/-- ITS FALSE NEIGHBOUR: 'it returns false'. Refute it at one input. -/
def fnExactShiftJetWrong : ChangeSpec := { name := "fnExactShiftJet", fn := fun _ => fun
  | [d1, d2] => { results := [.lit (.bool false)], args := [d1, d2] }
  | _ => none }
def FnExactShiftJetWrongFalsely : Prop := fnExactShiftJetRow.holds Try.pinned (OpenSpec.ofChange fnExactShiftJetWrong)

/- THE SECOND FORM. 'bulk': how many values and letters a reading holds, each counted each time it is reached (what is shared counts as often as it is met; a slice's spare places count too). A statement '..UptoSaid' is the law's where the arguments, and the package variables that the reading takes, are together of bulk at most 1048576: NARROWER than '..Said'. Prove '..Said' where nothing that the law and all that it calls make is longer than what came in: it says more and counts as full. Else prove '..UptoSaid'. A law counts once. -/
mutual
def uptoBulk {H : Type} : DataW H → Nat
  | .lit (.string bytes) => bytes.length + 1
  | .lit _ => 1
  | .nil => 1
  | .ptr d => uptoBulk d + 1
  | .slice elems spare => uptoBulkAll elems + uptoBulkAll spare + 1
  | .agg parts => uptoBulkAll parts + 1
  | .iface _ d => uptoBulk d + 1
  | .map entries => uptoBulkEntries entries + 1
  | .held _ => 1
def uptoBulkAll {H : Type} : List (DataW H) → Nat
  | [] => 0
  | d :: r => uptoBulk d + uptoBulkAll r
def uptoBulkEntries {H : Type} : List (Lit × DataW H) → Nat
  | [] => 0
  | x :: r => uptoBulkEntry x + uptoBulkEntries r
def uptoBulkEntry {H : Type} : Lit × DataW H → Nat
  | (.string bytes, d) => bytes.length + uptoBulk d + 1
  | (_, d) => uptoBulk d + 1
 end
def uptoSmall : (H : Type) → List (DataW H) → Bool := fun _ ds => decide (uptoBulkAll ds ≤ 1048576)
def OpenSpec.upto (s : _root_.Go.ChangeSpec) : _root_.Go.OpenSpec := { _root_.Go.OpenSpec.ofChange s with cond := some uptoSmall }

/-- 'laws.FnExactAddPlaces', WHERE WHAT IT READS IS OF BULK AT MOST 1048576: true; the input reads as it did. -/
def fnExactAddPlacesUptoRow : OpenClaim := { program := "ythpjljgcpgapbaa", sum := "3fb94a61a4d6ca82cabd0dca7c8a86956c59b9627cb515069f85b8caa9874037", func := "loop.example/g03017/laws.FnExactAddPlaces", spec := "fnExactAddPlaces", apart := false, narrowed := true }
def FnExactAddPlacesUptoSaid : Prop := fnExactAddPlacesUptoRow.holds Try.pinned (OpenSpec.upto fnExactAddPlacesSpec)

/-- 'laws.FnExactFlightOf', WHERE WHAT IT READS IS OF BULK AT MOST 1048576: true; the input reads as it did. -/
def fnExactFlightOfUptoRow : OpenClaim := { program := "ythpjljgcpgapbaa", sum := "3fb94a61a4d6ca82cabd0dca7c8a86956c59b9627cb515069f85b8caa9874037", func := "loop.example/g03017/laws.FnExactFlightOf", spec := "fnExactFlightOf", apart := false, narrowed := true }
def FnExactFlightOfUptoSaid : Prop := fnExactFlightOfUptoRow.holds Try.pinned (OpenSpec.upto fnExactFlightOfSpec)

/-- 'laws.FnExactReachOf', WHERE WHAT IT READS IS OF BULK AT MOST 1048576: true; the input reads as it did. -/
def fnExactReachOfUptoRow : OpenClaim := { program := "ythpjljgcpgapbaa", sum := "3fb94a61a4d6ca82cabd0dca7c8a86956c59b9627cb515069f85b8caa9874037", func := "loop.example/g03017/laws.FnExactReachOf", spec := "fnExactReachOf", apart := false, narrowed := true }
def FnExactReachOfUptoSaid : Prop := fnExactReachOfUptoRow.holds Try.pinned (OpenSpec.upto fnExactReachOfSpec)

/-- 'laws.FnExactSumMeasures', WHERE WHAT IT READS IS OF BULK AT MOST 1048576: true; the input reads as it did. -/
def fnExactSumMeasuresUptoRow : OpenClaim := { program := "ythpjljgcpgapbaa", sum := "3fb94a61a4d6ca82cabd0dca7c8a86956c59b9627cb515069f85b8caa9874037", func := "loop.example/g03017/laws.FnExactSumMeasures", spec := "fnExactSumMeasures", apart := false, narrowed := true }
def FnExactSumMeasuresUptoSaid : Prop := fnExactSumMeasuresUptoRow.holds Try.pinned (OpenSpec.upto fnExactSumMeasuresSpec)

/-- 'laws.FnExactComparePlaces', WHERE WHAT IT READS IS OF BULK AT MOST 1048576: true; the input reads as it did. -/
def fnExactComparePlacesUptoRow : OpenClaim := { program := "ythpjljgcpgapbaa", sum := "3fb94a61a4d6ca82cabd0dca7c8a86956c59b9627cb515069f85b8caa9874037", func := "loop.example/g03017/laws.FnExactComparePlaces", spec := "fnExactComparePlaces", apart := false, narrowed := true }
def FnExactComparePlacesUptoSaid : Prop := fnExactComparePlacesUptoRow.holds Try.pinned (OpenSpec.upto fnExactComparePlacesSpec)

/-- 'laws.FnExactTurnPlace', WHERE WHAT IT READS IS OF BULK AT MOST 1048576: true; the input reads as it did. -/
def fnExactTurnPlaceUptoRow : OpenClaim := { program := "ythpjljgcpgapbaa", sum := "3fb94a61a4d6ca82cabd0dca7c8a86956c59b9627cb515069f85b8caa9874037", func := "loop.example/g03017/laws.FnExactTurnPlace", spec := "fnExactTurnPlace", apart := false, narrowed := true }
def FnExactTurnPlaceUptoSaid : Prop := fnExactTurnPlaceUptoRow.holds Try.pinned (OpenSpec.upto fnExactTurnPlaceSpec)

/-- 'laws.FnExactHeightAt', WHERE WHAT IT READS IS OF BULK AT MOST 1048576: true; the input reads as it did. -/
def fnExactHeightAtUptoRow : OpenClaim := { program := "ythpjljgcpgapbaa", sum := "3fb94a61a4d6ca82cabd0dca7c8a86956c59b9627cb515069f85b8caa9874037", func := "loop.example/g03017/laws.FnExactHeightAt", spec := "fnExactHeightAt", apart := false, narrowed := true }
def FnExactHeightAtUptoSaid : Prop := fnExactHeightAtUptoRow.holds Try.pinned (OpenSpec.upto fnExactHeightAtSpec)

/-- 'laws.FnExactTurnAbout', WHERE WHAT IT READS IS OF BULK AT MOST 1048576: true; the input reads as it did. -/
def fnExactTurnAboutUptoRow : OpenClaim := { program := "ythpjljgcpgapbaa", sum := "3fb94a61a4d6ca82cabd0dca7c8a86956c59b9627cb515069f85b8caa9874037", func := "loop.example/g03017/laws.FnExactTurnAbout", spec := "fnExactTurnAbout", apart := false, narrowed := true }
def FnExactTurnAboutUptoSaid : Prop := fnExactTurnAboutUptoRow.holds Try.pinned (OpenSpec.upto fnExactTurnAboutSpec)

/-- 'laws.FnExactStepFrom', WHERE WHAT IT READS IS OF BULK AT MOST 1048576: true; the input reads as it did. -/
def fnExactStepFromUptoRow : OpenClaim := { program := "ythpjljgcpgapbaa", sum := "3fb94a61a4d6ca82cabd0dca7c8a86956c59b9627cb515069f85b8caa9874037", func := "loop.example/g03017/laws.FnExactStepFrom", spec := "fnExactStepFrom", apart := false, narrowed := true }
def FnExactStepFromUptoSaid : Prop := fnExactStepFromUptoRow.holds Try.pinned (OpenSpec.upto fnExactStepFromSpec)

/-- 'laws.FnExactPeakOf', WHERE WHAT IT READS IS OF BULK AT MOST 1048576: true; the input reads as it did. -/
def fnExactPeakOfUptoRow : OpenClaim := { program := "ythpjljgcpgapbaa", sum := "3fb94a61a4d6ca82cabd0dca7c8a86956c59b9627cb515069f85b8caa9874037", func := "loop.example/g03017/laws.FnExactPeakOf", spec := "fnExactPeakOf", apart := false, narrowed := true }
def FnExactPeakOfUptoSaid : Prop := fnExactPeakOfUptoRow.holds Try.pinned (OpenSpec.upto fnExactPeakOfSpec)

/-- 'laws.FnExactLiftFor', WHERE WHAT IT READS IS OF BULK AT MOST 1048576: true; the input reads as it did. -/
def fnExactLiftForUptoRow : OpenClaim := { program := "ythpjljgcpgapbaa", sum := "3fb94a61a4d6ca82cabd0dca7c8a86956c59b9627cb515069f85b8caa9874037", func := "loop.example/g03017/laws.FnExactLiftFor", spec := "fnExactLiftFor", apart := false, narrowed := true }
def FnExactLiftForUptoSaid : Prop := fnExactLiftForUptoRow.holds Try.pinned (OpenSpec.upto fnExactLiftForSpec)

/-- 'laws.FnExactShiftJet', WHERE WHAT IT READS IS OF BULK AT MOST 1048576: true; the input reads as it did. -/
def fnExactShiftJetUptoRow : OpenClaim := { program := "ythpjljgcpgapbaa", sum := "3fb94a61a4d6ca82cabd0dca7c8a86956c59b9627cb515069f85b8caa9874037", func := "loop.example/g03017/laws.FnExactShiftJet", spec := "fnExactShiftJet", apart := false, narrowed := true }
def FnExactShiftJetUptoSaid : Prop := fnExactShiftJetUptoRow.holds Try.pinned (OpenSpec.upto fnExactShiftJetSpec)

end Rows
end Go.Proofs.Ythpjljgcpgapbaa
