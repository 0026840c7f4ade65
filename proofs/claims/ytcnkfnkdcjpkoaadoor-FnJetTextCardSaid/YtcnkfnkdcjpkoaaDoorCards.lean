/-
  DERIVED. GIVEN WITH THE SEED: THE CARDS: each row of YtcnkfnkdcjpkoaaDoorRows.lean that lists a variable, with what it lists TIED to the program's text (the seventh form; the later family's looks); each row that meets fmt, with fmt's text TOLD by the authors' own Lean function (tested against real Go, not proved from fmt's source: count such statements apart). THE CARD IS WHAT COUNTS. Prove the row's statement (the work); the ties are given (YtcnkfnkdcjpkoaaDoorTie.lean); close each card by the builder's one call (the guide's Derived/Test/ToyasCard.lean, 'card_holds'). Laid BY PROGRAM, IN A SANDBOX (cutbox-door.mjs). By AI agents, Wed Nov 11 2026. No macro, syntax, notation, axiom, sorry.
-/
import Derived.Test.YtcnkfnkdcjpkoaaDoorRows
import GoSem.ClaimSeven
namespace Go.Proofs.YtcnkfnkdcjpkoaaDoor
namespace Rows

/-- THE TIED CARD OF 'laws.FnExactFormatNumber'. -/
def fnExactFormatNumberCard : Claim7 := { stood := { row := fnExactFormatNumberRow, standIns := [], harness := (true, "543c829c0e8745fa6c54c24d73afb23dcc2bebc666f47e2486273e08927e5292"), looks := false }, kinds := [], alts := [], laidByText := true, laidKinds := [.data, .data, .data], laidTests := true, laidLooks := .later }
def FnExactFormatNumberCardSaid : Prop := Claim7.holds Tryd.pinned (.plain (OpenSpec.ofChange fnExactFormatNumberSpec)) fnExactFormatNumberCard

/-- THE TIED CARD OF 'laws.FnExactSplitAt'. -/
def fnExactSplitAtCard : Claim7 := { stood := { row := fnExactSplitAtRow, standIns := [], harness := (true, "543c829c0e8745fa6c54c24d73afb23dcc2bebc666f47e2486273e08927e5292"), looks := false }, kinds := [], alts := [], laidByText := true, laidKinds := [.data, .pinned], laidTests := true, laidLooks := .later }
def FnExactSplitAtCardSaid : Prop := Claim7.holds Tryd.pinned (.plain (OpenSpec.ofChange fnExactSplitAtSpec)) fnExactSplitAtCard

/-- THE TIED CARD OF 'laws.FnExactFormatMeasure'. -/
def fnExactFormatMeasureCard : Claim7 := { stood := { row := fnExactFormatMeasureRow, standIns := [], harness := (true, "543c829c0e8745fa6c54c24d73afb23dcc2bebc666f47e2486273e08927e5292"), looks := false }, kinds := [], alts := [], laidByText := true, laidKinds := [.data, .data, .data, .data, .pinned], laidTests := true, laidLooks := .later }
def FnExactFormatMeasureCardSaid : Prop := Claim7.holds Tryd.pinned (.plain (OpenSpec.ofChange fnExactFormatMeasureSpec)) fnExactFormatMeasureCard

/-- THE TIED CARD OF 'laws.FnExactParseMeasure'. -/
def fnExactParseMeasureCard : Claim7 := { stood := { row := fnExactParseMeasureRow, standIns := [], harness := (true, "543c829c0e8745fa6c54c24d73afb23dcc2bebc666f47e2486273e08927e5292"), looks := false }, kinds := [], alts := [], laidByText := true, laidKinds := [.data, .data, .data, .data, .pinned], laidTests := true, laidLooks := .later }
def FnExactParseMeasureCardSaid : Prop := Claim7.holds Tryd.pinned (.plain (OpenSpec.ofChange fnExactParseMeasureSpec)) fnExactParseMeasureCard

/-- THE TIED CARD OF 'laws.FnExactFormatPlace'. -/
def fnExactFormatPlaceCard : Claim7 := { stood := { row := fnExactFormatPlaceRow, standIns := [], harness := (true, "543c829c0e8745fa6c54c24d73afb23dcc2bebc666f47e2486273e08927e5292"), looks := false }, kinds := [], alts := [], laidByText := true, laidKinds := [.data, .data, .data, .data, .pinned], laidTests := true, laidLooks := .later }
def FnExactFormatPlaceCardSaid : Prop := Claim7.holds Tryd.pinned (.plain (OpenSpec.ofChange fnExactFormatPlaceSpec)) fnExactFormatPlaceCard

/-- THE TIED CARD OF 'laws.FnExactParsePlace'. -/
def fnExactParsePlaceCard : Claim7 := { stood := { row := fnExactParsePlaceRow, standIns := [], harness := (true, "543c829c0e8745fa6c54c24d73afb23dcc2bebc666f47e2486273e08927e5292"), looks := false }, kinds := [], alts := [], laidByText := true, laidKinds := [.data, .data, .data, .data, .pinned], laidTests := true, laidLooks := .later }
def FnExactParsePlaceCardSaid : Prop := Claim7.holds Tryd.pinned (.plain (OpenSpec.ofChange fnExactParsePlaceSpec)) fnExactParsePlaceCard

/-- THE TIED CARD OF 'laws.FnExactFormatJet'. -/
def fnExactFormatJetCard : Claim7 := { stood := { row := fnExactFormatJetRow, standIns := [], harness := (true, "543c829c0e8745fa6c54c24d73afb23dcc2bebc666f47e2486273e08927e5292"), looks := false }, kinds := [], alts := [], laidByText := true, laidKinds := [.data, .data, .data, .data, .pinned], laidTests := true, laidLooks := .later }
def FnExactFormatJetCardSaid : Prop := Claim7.holds Tryd.pinned (.plain (OpenSpec.ofChange fnExactFormatJetSpec)) fnExactFormatJetCard

/-- THE TIED CARD OF 'laws.FnExactParseJet'. -/
def fnExactParseJetCard : Claim7 := { stood := { row := fnExactParseJetRow, standIns := [], harness := (true, "543c829c0e8745fa6c54c24d73afb23dcc2bebc666f47e2486273e08927e5292"), looks := false }, kinds := [], alts := [], laidByText := true, laidKinds := [.data, .data, .data, .data, .pinned], laidTests := true, laidLooks := .later }
def FnExactParseJetCardSaid : Prop := Claim7.holds Tryd.pinned (.plain (OpenSpec.ofChange fnExactParseJetSpec)) fnExactParseJetCard

/-- THE TIED CARD OF 'laws.FnNumbers'. -/
def fnNumbersCard : Claim7 := { stood := { row := fnNumbersRow, standIns := [], harness := (true, "543c829c0e8745fa6c54c24d73afb23dcc2bebc666f47e2486273e08927e5292"), looks := false }, kinds := [], alts := [], laidByText := true, laidKinds := [.data, .data, .data, .data, .pinned], laidTests := true, laidLooks := .later }
def FnNumbersCardSaid : Prop := Claim7.holds Tryd.pinned (.plain (OpenSpec.ofChange fnNumbersSpec)) fnNumbersCard

/-- THE TIED CARD OF 'laws.FnMeasureText'. -/
def fnMeasureTextCard : Claim7 := { stood := { row := fnMeasureTextRow, standIns := [], harness := (true, "543c829c0e8745fa6c54c24d73afb23dcc2bebc666f47e2486273e08927e5292"), looks := false }, kinds := [], alts := [], laidByText := true, laidKinds := [.data, .data, .data, .data, .pinned], laidTests := true, laidLooks := .later }
def FnMeasureTextCardSaid : Prop := Claim7.holds Tryd.pinned (.plain (OpenSpec.ofChange fnMeasureTextSpec)) fnMeasureTextCard

/-- THE TIED CARD OF 'laws.FnPlaceText'. -/
def fnPlaceTextCard : Claim7 := { stood := { row := fnPlaceTextRow, standIns := [], harness := (true, "543c829c0e8745fa6c54c24d73afb23dcc2bebc666f47e2486273e08927e5292"), looks := false }, kinds := [], alts := [], laidByText := true, laidKinds := [.data, .data, .data, .data, .pinned], laidTests := true, laidLooks := .later }
def FnPlaceTextCardSaid : Prop := Claim7.holds Tryd.pinned (.plain (OpenSpec.ofChange fnPlaceTextSpec)) fnPlaceTextCard

/-- THE TIED CARD OF 'laws.FnJetText'. -/
def fnJetTextCard : Claim7 := { stood := { row := fnJetTextRow, standIns := [], harness := (true, "543c829c0e8745fa6c54c24d73afb23dcc2bebc666f47e2486273e08927e5292"), looks := false }, kinds := [], alts := [], laidByText := true, laidKinds := [.data, .data, .data, .data, .pinned], laidTests := true, laidLooks := .later }
def FnJetTextCardSaid : Prop := Claim7.holds Tryd.pinned (.plain (OpenSpec.ofChange fnJetTextSpec)) fnJetTextCard

/-- THE SECOND FORM's CARD OF 'laws.FnExactFormatNumber'. -/
def fnExactFormatNumberUptoCard : Claim7 := { stood := { row := fnExactFormatNumberUptoRow, standIns := [], harness := (true, "543c829c0e8745fa6c54c24d73afb23dcc2bebc666f47e2486273e08927e5292"), looks := false }, kinds := [], alts := [], laidByText := true, laidKinds := [.data, .data, .data], laidTests := true, laidLooks := .later }
def FnExactFormatNumberUptoCardSaid : Prop := Claim7.holds Tryd.pinned (.plain (OpenSpec.upto fnExactFormatNumberSpec)) fnExactFormatNumberUptoCard

/-- THE SECOND FORM's CARD OF 'laws.FnExactSplitAt'. -/
def fnExactSplitAtUptoCard : Claim7 := { stood := { row := fnExactSplitAtUptoRow, standIns := [], harness := (true, "543c829c0e8745fa6c54c24d73afb23dcc2bebc666f47e2486273e08927e5292"), looks := false }, kinds := [], alts := [], laidByText := true, laidKinds := [.data, .pinned], laidTests := true, laidLooks := .later }
def FnExactSplitAtUptoCardSaid : Prop := Claim7.holds Tryd.pinned (.plain (OpenSpec.upto fnExactSplitAtSpec)) fnExactSplitAtUptoCard

/-- THE SECOND FORM's CARD OF 'laws.FnExactFormatMeasure'. -/
def fnExactFormatMeasureUptoCard : Claim7 := { stood := { row := fnExactFormatMeasureUptoRow, standIns := [], harness := (true, "543c829c0e8745fa6c54c24d73afb23dcc2bebc666f47e2486273e08927e5292"), looks := false }, kinds := [], alts := [], laidByText := true, laidKinds := [.data, .data, .data, .data, .pinned], laidTests := true, laidLooks := .later }
def FnExactFormatMeasureUptoCardSaid : Prop := Claim7.holds Tryd.pinned (.plain (OpenSpec.upto fnExactFormatMeasureSpec)) fnExactFormatMeasureUptoCard

/-- THE SECOND FORM's CARD OF 'laws.FnExactParseMeasure'. -/
def fnExactParseMeasureUptoCard : Claim7 := { stood := { row := fnExactParseMeasureUptoRow, standIns := [], harness := (true, "543c829c0e8745fa6c54c24d73afb23dcc2bebc666f47e2486273e08927e5292"), looks := false }, kinds := [], alts := [], laidByText := true, laidKinds := [.data, .data, .data, .data, .pinned], laidTests := true, laidLooks := .later }
def FnExactParseMeasureUptoCardSaid : Prop := Claim7.holds Tryd.pinned (.plain (OpenSpec.upto fnExactParseMeasureSpec)) fnExactParseMeasureUptoCard

/-- THE SECOND FORM's CARD OF 'laws.FnExactFormatPlace'. -/
def fnExactFormatPlaceUptoCard : Claim7 := { stood := { row := fnExactFormatPlaceUptoRow, standIns := [], harness := (true, "543c829c0e8745fa6c54c24d73afb23dcc2bebc666f47e2486273e08927e5292"), looks := false }, kinds := [], alts := [], laidByText := true, laidKinds := [.data, .data, .data, .data, .pinned], laidTests := true, laidLooks := .later }
def FnExactFormatPlaceUptoCardSaid : Prop := Claim7.holds Tryd.pinned (.plain (OpenSpec.upto fnExactFormatPlaceSpec)) fnExactFormatPlaceUptoCard

/-- THE SECOND FORM's CARD OF 'laws.FnExactParsePlace'. -/
def fnExactParsePlaceUptoCard : Claim7 := { stood := { row := fnExactParsePlaceUptoRow, standIns := [], harness := (true, "543c829c0e8745fa6c54c24d73afb23dcc2bebc666f47e2486273e08927e5292"), looks := false }, kinds := [], alts := [], laidByText := true, laidKinds := [.data, .data, .data, .data, .pinned], laidTests := true, laidLooks := .later }
def FnExactParsePlaceUptoCardSaid : Prop := Claim7.holds Tryd.pinned (.plain (OpenSpec.upto fnExactParsePlaceSpec)) fnExactParsePlaceUptoCard

/-- THE SECOND FORM's CARD OF 'laws.FnExactFormatJet'. -/
def fnExactFormatJetUptoCard : Claim7 := { stood := { row := fnExactFormatJetUptoRow, standIns := [], harness := (true, "543c829c0e8745fa6c54c24d73afb23dcc2bebc666f47e2486273e08927e5292"), looks := false }, kinds := [], alts := [], laidByText := true, laidKinds := [.data, .data, .data, .data, .pinned], laidTests := true, laidLooks := .later }
def FnExactFormatJetUptoCardSaid : Prop := Claim7.holds Tryd.pinned (.plain (OpenSpec.upto fnExactFormatJetSpec)) fnExactFormatJetUptoCard

/-- THE SECOND FORM's CARD OF 'laws.FnExactParseJet'. -/
def fnExactParseJetUptoCard : Claim7 := { stood := { row := fnExactParseJetUptoRow, standIns := [], harness := (true, "543c829c0e8745fa6c54c24d73afb23dcc2bebc666f47e2486273e08927e5292"), looks := false }, kinds := [], alts := [], laidByText := true, laidKinds := [.data, .data, .data, .data, .pinned], laidTests := true, laidLooks := .later }
def FnExactParseJetUptoCardSaid : Prop := Claim7.holds Tryd.pinned (.plain (OpenSpec.upto fnExactParseJetSpec)) fnExactParseJetUptoCard

/-- THE SECOND FORM's CARD OF 'laws.FnNumbers'. -/
def fnNumbersUptoCard : Claim7 := { stood := { row := fnNumbersUptoRow, standIns := [], harness := (true, "543c829c0e8745fa6c54c24d73afb23dcc2bebc666f47e2486273e08927e5292"), looks := false }, kinds := [], alts := [], laidByText := true, laidKinds := [.data, .data, .data, .data, .pinned], laidTests := true, laidLooks := .later }
def FnNumbersUptoCardSaid : Prop := Claim7.holds Tryd.pinned (.plain (OpenSpec.upto fnNumbersSpec)) fnNumbersUptoCard

/-- THE SECOND FORM's CARD OF 'laws.FnMeasureText'. -/
def fnMeasureTextUptoCard : Claim7 := { stood := { row := fnMeasureTextUptoRow, standIns := [], harness := (true, "543c829c0e8745fa6c54c24d73afb23dcc2bebc666f47e2486273e08927e5292"), looks := false }, kinds := [], alts := [], laidByText := true, laidKinds := [.data, .data, .data, .data, .pinned], laidTests := true, laidLooks := .later }
def FnMeasureTextUptoCardSaid : Prop := Claim7.holds Tryd.pinned (.plain (OpenSpec.upto fnMeasureTextSpec)) fnMeasureTextUptoCard

/-- THE SECOND FORM's CARD OF 'laws.FnPlaceText'. -/
def fnPlaceTextUptoCard : Claim7 := { stood := { row := fnPlaceTextUptoRow, standIns := [], harness := (true, "543c829c0e8745fa6c54c24d73afb23dcc2bebc666f47e2486273e08927e5292"), looks := false }, kinds := [], alts := [], laidByText := true, laidKinds := [.data, .data, .data, .data, .pinned], laidTests := true, laidLooks := .later }
def FnPlaceTextUptoCardSaid : Prop := Claim7.holds Tryd.pinned (.plain (OpenSpec.upto fnPlaceTextSpec)) fnPlaceTextUptoCard

/-- THE SECOND FORM's CARD OF 'laws.FnJetText'. -/
def fnJetTextUptoCard : Claim7 := { stood := { row := fnJetTextUptoRow, standIns := [], harness := (true, "543c829c0e8745fa6c54c24d73afb23dcc2bebc666f47e2486273e08927e5292"), looks := false }, kinds := [], alts := [], laidByText := true, laidKinds := [.data, .data, .data, .data, .pinned], laidTests := true, laidLooks := .later }
def FnJetTextUptoCardSaid : Prop := Claim7.holds Tryd.pinned (.plain (OpenSpec.upto fnJetTextSpec)) fnJetTextUptoCard
end Rows
end Go.Proofs.YtcnkfnkdcjpkoaaDoor
