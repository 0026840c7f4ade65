/- The row FnExactFormatJetSaid: the law FnExactFormatJet answers true for every input, and its arguments read as before. Conditions: none of ours. By program (wip/tools/rowgen.py). -/
import Derived.Test.YtcnkfnkdcjpkoaaDoorRows
import Derived.Test.YtcnkfnkdcjpkoaaDoorK
import Derived.Test.YtcnkfnkdcjpkoaaDoorTie
import Derived.Test.YtcnkfnkdcjpkoaaDoorCards
import Derived.SevenTiedAt
import Derived.Test.YtcnkfnkdcjpkoaaDoorIFnExactFormatJetx4
import Derived.Test.YtcnkfnkdcjpkoaaDoorPureFnExactFormatJet
import Derived.WalkKit
import Derived.ProofKit
import Derived.OpenShut
import Derived.ShutString
import Derived.ChangeOld
import Derived.Below
import Derived.SizedLaws
import Derived.Carry
import Derived.ChangeArms
import Derived.WideShapes
import Derived.Deep.Slices
namespace Go.Proofs.YtcnkfnkdcjpkoaaDoor.fnExactFormatJet
open Go.ChangeShapes Go.WideShapes Go.ChangeAt Go.RowKit
open Go.ChangeMaps (open_string shut_string)
set_option linter.unusedVariables false
theorem laidOut : laidOutB Tryd.prog = true := by kernel_rfl
theorem cellsInt : Tryd.prog.cellsOf 3 = 1 := by kernel_rfl
section
variable {H : Type} {enc : TypeId × Value → H} {w : World} {base : Nat} {spare : Nat → Bool} {held : Bool}
theorem cellsPlace : Tryd.prog.cellsOf 33 = 2 := by kernel_rfl
set_option maxRecDepth 100000 in
theorem trodPlace {fuel : Nat} {cs : List Value} {x : DataW H × List MemPlace} (h : DataW.trod enc Tryd.prog w base spare held fuel 33 cs = some x) :
    ∃ a0 a1 : Int, cs = [.int .i64 a0, .int .i64 a1] ∧ (Lit.int .i64 a0).wf = true ∧ (Lit.int .i64 a1).wf = true := by
  obtain ⟨xs, n, _, rfl, hl, hlen, hg⟩ := DataW.trod_struct Tryd.underlying33 h
  rw [cellsPlace] at hl
  match cs, hl with
  | [c0, c1], _ =>
  match xs, hlen with
  | [y0, y1], _ =>
  have g0 := hg 0 _ rfl
  obtain ⟨a0, e0, _, wa0⟩ := DataW.trod_int Tryd.underlying3 g0
  simp [cellsInt] at e0
  obtain rfl := e0
  have g1 := hg 1 _ rfl
  obtain ⟨a1, e1, _, wa1⟩ := DataW.trod_int Tryd.underlying3 g1
  simp [cellsInt] at e1
  obtain rfl := e1
  exact ⟨a0, a1, rfl, wa0, wa1⟩
set_option maxRecDepth 100000 in
theorem openPlace {r : Reach} {b0 : Nat} {v : Value} {d : DataW H} {p : List MemPlace} (hv : Value.okWide Tryd.prog w r b0 33 v) (h : DataW.Trod enc Tryd.prog w base spare held 33 v d p) :
    ∃ a0 a1 : Int, v = .agg #[.int .i64 a0, .int .i64 a1] ∧ (Lit.int .i64 a0).wf = true ∧ (Lit.int .i64 a1).wf = true := by
  obtain ⟨cs, rfl, hsz⟩ := okWide_struct Tryd.underlying33 hv
  obtain ⟨l⟩ := cs
  obtain ⟨fuel, hf⟩ := h
  obtain ⟨a0, a1, e, wa0, wa1⟩ := trodPlace hf
  have e2 : l = [.int .i64 a0, .int .i64 a1] := by simpa [Value.cells] using e
  subst e2
  exact ⟨a0, a1, rfl, wa0, wa1⟩
end
section
variable {H : Type} {enc : TypeId × Value → H} {w : World} {base : Nat} {spare : Nat → Bool} {held : Bool}
theorem cellsJet : Tryd.prog.cellsOf 42 = 5 := by kernel_rfl
set_option maxRecDepth 100000 in
theorem trodJet {fuel : Nat} {cs : List Value} {x : DataW H × List MemPlace} (h : DataW.trod enc Tryd.prog w base spare held fuel 42 cs = some x) :
    ∃ a0 a1 a2 a3 a4 : Int, cs = [.int .i64 a0, .int .i64 a1, .int .i64 a2, .int .i64 a3, .int .i64 a4] ∧ (Lit.int .i64 a0).wf = true ∧ (Lit.int .i64 a1).wf = true ∧ (Lit.int .i64 a2).wf = true ∧ (Lit.int .i64 a3).wf = true ∧ (Lit.int .i64 a4).wf = true := by
  obtain ⟨xs, n, _, rfl, hl, hlen, hg⟩ := DataW.trod_struct Tryd.underlying42 h
  rw [cellsJet] at hl
  match cs, hl with
  | [c0, c1, c2, c3, c4], _ =>
  match xs, hlen with
  | [y0, y1, y2, y3], _ =>
  have g0 := hg 0 _ rfl
  obtain ⟨a0, a1, e0, wa0, wa1⟩ := trodPlace g0
  simp [cellsPlace] at e0
  obtain ⟨rfl, rfl⟩ := e0
  have g1 := hg 1 _ rfl
  obtain ⟨a2, e1, _, wa2⟩ := DataW.trod_int Tryd.underlying3 g1
  simp [cellsInt] at e1
  obtain rfl := e1
  have g2 := hg 2 _ rfl
  obtain ⟨a3, e2, _, wa3⟩ := DataW.trod_int Tryd.underlying3 g2
  simp [cellsInt] at e2
  obtain rfl := e2
  have g3 := hg 3 _ rfl
  obtain ⟨a4, e3, _, wa4⟩ := DataW.trod_int Tryd.underlying3 g3
  simp [cellsInt] at e3
  obtain rfl := e3
  exact ⟨a0, a1, a2, a3, a4, rfl, wa0, wa1, wa2, wa3, wa4⟩
set_option maxRecDepth 100000 in
theorem openJet {r : Reach} {b0 : Nat} {v : Value} {d : DataW H} {p : List MemPlace} (hv : Value.okWide Tryd.prog w r b0 42 v) (h : DataW.Trod enc Tryd.prog w base spare held 42 v d p) :
    ∃ a0 a1 a2 a3 a4 : Int, v = .agg #[.int .i64 a0, .int .i64 a1, .int .i64 a2, .int .i64 a3, .int .i64 a4] ∧ (Lit.int .i64 a0).wf = true ∧ (Lit.int .i64 a1).wf = true ∧ (Lit.int .i64 a2).wf = true ∧ (Lit.int .i64 a3).wf = true ∧ (Lit.int .i64 a4).wf = true := by
  obtain ⟨cs, rfl, hsz⟩ := okWide_struct Tryd.underlying42 hv
  obtain ⟨l⟩ := cs
  obtain ⟨fuel, hf⟩ := h
  obtain ⟨a0, a1, a2, a3, a4, e, wa0, wa1, wa2, wa3, wa4⟩ := trodJet hf
  have e2 : l = [.int .i64 a0, .int .i64 a1, .int .i64 a2, .int .i64 a3, .int .i64 a4] := by simpa [Value.cells] using e
  subst e2
  exact ⟨a0, a1, a2, a3, a4, rfl, wa0, wa1, wa2, wa3, wa4⟩
end
abbrev laidL : List (String × DataW Unit) := [("math/bits.deBruijn32tab", Rows.laid_math_bits_deBruijn32tab), ("math/bits.deBruijn64tab", Rows.laid_math_bits_deBruijn64tab), ("internal/strconv.uint64pow10", Rows.laid_internal_strconv_uint64pow10), ("unicode/utf8.acceptRanges", Rows.laid_unicode_utf8_acceptRanges), ("unicode/utf8.first", Rows.laid_unicode_utf8_first)]
theorem door_met (os : Os) (args : Array Value) : laidMetH Tryd.prog laidL ((YtcnkfnkdcjpkoaaDoorK.laidWorld os).forCall (fun _ _ => 0) ⟨#[], args, []⟩).memory :=
  laidMetH_of_parts3 (fuel := 8) (laidMet_of_run' 8 (by kernel_rfl) (by kernel_rfl)) (by kernel_rfl) (by kernel_rfl)
theorem tabs_of {W : World} (h0 : laidMetH Tryd.prog laidL W) (hs : W.ShapedOpen Tryd.prog) : YtcnkfnkdcjpkoaaDoorV.Tabs W := by
  have h : laidMet Tryd.prog laidL W := h0
  have ep : (Rows.laid_internal_strconv_uint64pow10 : DataW Unit) = Lib.tabData .u64 Lib.pow10Tab := by kernel_rfl
  have hp := Lib.laidMet.reads h (n := "internal/strconv.uint64pow10") (d := Rows.laid_internal_strconv_uint64pow10) (.tail _ (.tail _ (.head _)))
  rw [ep] at hp
  have e1 : (Rows.laid_unicode_utf8_first : DataW Unit) = Lib.firstData := by kernel_rfl
  have e2 : (Rows.laid_unicode_utf8_acceptRanges : DataW Unit) = Lib.acceptData := by kernel_rfl
  have h1 := Lib.laidMet.reads h (n := "unicode/utf8.first") (d := Rows.laid_unicode_utf8_first) (.tail _ (.tail _ (.tail _ (.tail _ (.head _)))))
  have h2 := Lib.laidMet.reads h (n := "unicode/utf8.acceptRanges") (d := Rows.laid_unicode_utf8_acceptRanges) (.tail _ (.tail _ (.tail _ (.head _))))
  rw [e1] at h1
  rw [e2] at h2
  exact ⟨YtcnkfnkdcjpkoaaDoorK.tab_of_reads (g := 1) (t := 120) (e := 110) (n := 20) (by kernel_rfl) (by kernel_rfl) (by kernel_rfl) (by kernel_rfl) (by kernel_rfl) (by kernel_rfl) hp, utf8Tabs_of_reads (ρ := Tryd.lays260_ren) Tryd.lays260 ⟨by kernel_rfl, by kernel_rfl, by kernel_rfl, by kernel_rfl, by kernel_rfl, by kernel_rfl, by kernel_rfl⟩ h1 h2, YtcnkfnkdcjpkoaaDoorK.max_of hs⟩
set_option maxRecDepth 100000 in
theorem lifted (os : Os) (started : os.Started) (H : Type) (enc : TypeId × Value → H) :
    ReturnsInHanded {} Tryd.checked os 9 .any (fun w args => (Rows.fnExactFormatJetSpec.pre enc Tryd.prog Tryd.f9 [] false w args ∧ laidMetH Tryd.prog laidL w) ∧ sizedMet enc Tryd.prog Tryd.f9 (OpenSpec.ofChange Rows.fnExactFormatJetSpec) false w args)
      (Rows.fnExactFormatJetSpec.post enc Tryd.prog Tryd.f9 false true false false) := by
  refine YtcnkfnkdcjpkoaaDoorK.lift (C := Tryd.checked) (X := fun w _ => laidMetH Tryd.prog laidL w) (fun _ _ _ hh h => h.of_heap hh) YtcnkfnkdcjpkoaaDoorK.own started (by kernel_rfl) Tryd.func9
    (ChangeSpec.witness_shaped (enc := enc) (C := Tryd.checked) (os := os) (X := fun w _ => laidMetH Tryd.prog laidL w) false (YtcnkfnkdcjpkoaaDoorK.laidWorld os) #[.agg #[.int .i64 0, .int .i64 0, .int .i64 0, .int .i64 0, .int .i64 0]] 8 rfl (World.shaped_of_RefB (by kernel_rfl) (by kernel_rfl)) (by kernel_rfl) (by kernel_rfl) (by kernel_rfl) (door_met os _)) ?_
  intro W base args ds gs before hval0 hW hsz0 hL hSh
  have hT := tabs_of hL hSh
  have hsz : (DataW.weightsEach Tryd.prog (Tryd.f9.params.toList ++ Rows.fnExactFormatJetSpec.plain.varTypes Tryd.prog) (ds ++ gs)).all (· ≤ reachBytes) = true := hsz0
  have hval : ∀ (j : Nat) t v, Tryd.f9.params[j]? = some t → args[j]? = some v → Value.okWide Tryd.prog W .any base t v := hval0
  have hW' := hW
  obtain ⟨p, q, hA0, hV, rfl, hfz, hnd⟩ := hW
  have hA : DataW.TrodAll enc Tryd.prog W 0 (fun _ => true) true Tryd.f9.params.toList args.toList ds p := hA0
  rw [Tryd.params9] at hA hval hsz
  obtain ⟨v0, vs0, d0, ds0, p0, q0, hargs, rfl, rfl, h0, r0⟩ := trodAll_cons hA
  obtain ⟨rfl, rfl, rfl⟩ := trodAll_nil r0
  obtain rfl : args = #[v0] := by cases args; simp_all
  obtain ⟨rfl, rfl⟩ := trodVars_none hV
  have k0 := h0
  have lt0 : ∀ x ∈ p0, x.block < W.heap.size := by obtain ⟨m, hm⟩ := k0; exact DataW.trod_lt m _ _ _ hm
  obtain ⟨a0_0, a0_1, a0_2, a0_3, a0_4, rfl, wa0_0, wa0_1, wa0_2, wa0_3, wa0_4⟩ := openJet (hval 0 42 v0 rfl rfl) h0
  clear hA0 hval0 hsz0 hsz
  obtain ⟨k, hp⟩ := Pure.FnExactFormatJet a0_0 a0_1 a0_2 a0_3 a0_4 wa0_0 wa0_1 wa0_2 wa0_3 wa0_4
  refine (PFnExactFormatJet.laws_FnExactFormatJet.calls k a0_0 a0_1 a0_2 a0_3 a0_4 true W hp hT).mono fun e W' ⟨he, bel0⟩ => ?_
  have bel : Below W.heap.size W W' := bel0
  subst he
  exact ⟨_, rfl, _, _, _, [], _, [], hW', trodAll_mk1 (shut_bool Tryd.underlying4 _), (trodAll_cons_mk (Below.trod laidOut (by kernel_rfl) (of_decide_eq_true (by kernel_rfl)) k0 bel lt0) trodAll_mk0), rfl, bel.frame _, fun h => by cases h⟩
theorem over : Rows.fnExactFormatJetRow.holds Tryd.pinned (OpenSpec.ofChange Rows.fnExactFormatJetSpec) :=
  OpenClaim.holds_of_wide 9 Tryd.f9 rfl rfl rfl rfl rfl rfl rfl ⟨rfl, rfl, rfl, rfl, rfl⟩ rfl rfl rfl rfl rfl (by kernel_rfl) Tryd.func9 (by kernel_rfl)
    (of_decide_eq_true (by kernel_rfl)) (by unfold Func.isWrapper; first | (rw [if_pos (by decide +kernel)]; kernel_rfl) | (rw [if_neg (by decide +kernel)]; exact ⟨rfl, rfl⟩))
    (fun os started H enc _ => lifted os started H enc)
theorem over_said : Rows.FnExactFormatJetSaid := over
/-- The tied card. -/
theorem proved : Rows.FnExactFormatJetCardSaid :=
  Claim7.holds_tied_plain_at .later [] [.data, .data, .data, .data, .pinned] true (true, "543c829c0e8745fa6c54c24d73afb23dcc2bebc666f47e2486273e08927e5292") false
    over_said (fun _ h => by cases h) (by kernel_rfl) (fun _ h => by cases h) fnExactFormatJet_row_tie rfl ⟨rfl, rfl⟩ (by kernel_rfl) rfl
    (fun f fn hf hfn => by
      obtain rfl : f = 9 := Option.some.inj ((show Tryd.prog.funcNamed "loop.example/g03017/laws.FnExactFormatJet" = some 9 by kernel_rfl).symm.trans hf) |>.symm
      obtain rfl : fn = Tryd.f9 := (Option.some.inj (Tryd.func9.symm.trans hfn)).symm
      exact ⟨by kernel_rfl, fun j t ht => by
        rw [Tryd.params9] at ht
        have hm : t ∈ [42] := by simpa using Array.mem_of_getElem? ht
        have hall : ([42].all fun u => !Tryd.prog.wantsStandIn u) = true := by kernel_rfl
        exact (show Tryd.prog.wantsStandIn t = false by simpa using List.all_eq_true.1 hall t hm)⟩)
    (by kernel_rfl)
#print axioms proved
end Go.Proofs.YtcnkfnkdcjpkoaaDoor.fnExactFormatJet
namespace Go.Proofs.YtcnkfnkdcjpkoaaDoor
/-- The row, under a short name, for the claim. -/
theorem fnExactFormatJet_card_holds : Rows.FnExactFormatJetCardSaid := fnExactFormatJet.proved
end Go.Proofs.YtcnkfnkdcjpkoaaDoor
