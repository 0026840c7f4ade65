/- The row FnExactSortedPlacesSaid: the law FnExactSortedPlaces answers true for every input, and its arguments read as before. Conditions: none of ours. By program (wip/tools/rowgen.py). -/
import Derived.Test.YtcggonofidgchaaRows
import Derived.Test.YtcggonofidgchaaIFnExactSortedPlacesx5
import Derived.Test.YtcggonofidgchaaPureFnExactSortedPlaces
import Derived.WalkKit
import Derived.ProofKit
import Derived.OpenShut
import Derived.ShutString
import Derived.ChangeOld
import Derived.Below
import Derived.SizedLaws
import Derived.Carry
import Derived.ChangeArms
import Derived.WideShapes
import Derived.Deep.Slices
import Derived.Test.YtcggonofidgchaaWSized
namespace Go.Proofs.Ytcggonofidgchaa.fnExactSortedPlaces
open Go.ChangeShapes Go.WideShapes Go.ChangeAt Go.RowKit
open Go.ChangeMaps (open_string shut_string)
open Go.Proofs.YtcggonofidgchaaW
set_option linter.unusedVariables false
theorem own : ownKnob Try.prog.godebug = none := by kernel_rfl
theorem laidOut : laidOutB Try.prog = true := by kernel_rfl
theorem cellsInt : Try.prog.cellsOf 3 = 1 := by kernel_rfl
section
variable {H : Type} {enc : TypeId × Value → H} {w : World} {base : Nat} {spare : Nat → Bool} {held : Bool}
theorem cellsPlace : Try.prog.cellsOf 45 = 2 := by kernel_rfl
set_option maxRecDepth 100000 in
theorem trodPlace {fuel : Nat} {cs : List Value} {x : DataW H × List MemPlace} (h : DataW.trod enc Try.prog w base spare held fuel 45 cs = some x) :
    ∃ a0 a1 : Int, cs = [.int .i64 a0, .int .i64 a1] ∧ (Lit.int .i64 a0).wf = true ∧ (Lit.int .i64 a1).wf = true := by
  obtain ⟨xs, n, _, rfl, hl, hlen, hg⟩ := DataW.trod_struct Try.underlying45 h
  rw [cellsPlace] at hl
  match cs, hl with
  | [c0, c1], _ =>
  match xs, hlen with
  | [y0, y1], _ =>
  have g0 := hg 0 _ rfl
  obtain ⟨a0, e0, _, wa0⟩ := DataW.trod_int Try.underlying3 g0
  simp [cellsInt] at e0
  obtain rfl := e0
  have g1 := hg 1 _ rfl
  obtain ⟨a1, e1, _, wa1⟩ := DataW.trod_int Try.underlying3 g1
  simp [cellsInt] at e1
  obtain rfl := e1
  exact ⟨a0, a1, rfl, wa0, wa1⟩
set_option maxRecDepth 100000 in
theorem openPlace {r : Reach} {b0 : Nat} {v : Value} {d : DataW H} {p : List MemPlace} (hv : Value.okWide Try.prog w r b0 45 v) (h : DataW.Trod enc Try.prog w base spare held 45 v d p) :
    ∃ a0 a1 : Int, v = .agg #[.int .i64 a0, .int .i64 a1] ∧ (Lit.int .i64 a0).wf = true ∧ (Lit.int .i64 a1).wf = true := by
  obtain ⟨cs, rfl, hsz⟩ := okWide_struct Try.underlying45 hv
  obtain ⟨l⟩ := cs
  obtain ⟨fuel, hf⟩ := h
  obtain ⟨a0, a1, e, wa0, wa1⟩ := trodPlace hf
  have e2 : l = [.int .i64 a0, .int .i64 a1] := by simpa [Value.cells] using e
  subst e2
  exact ⟨a0, a1, rfl, wa0, wa1⟩
end
section
variable {H : Type} {enc : TypeId × Value → H} {W : World}
set_option maxRecDepth 100000 in
theorem openSPlace {fuel : Nat} {a0 : Option Addr} {len cap : Nat} {x : DataW H × List MemPlace} (h : DataW.trod enc Try.prog W 0 (fun _ => true) true fuel 28 [.slice a0 len cap] = some x) :
    ∃ xs : List PFnExactSortedPlaces.S45, xs.length = len ∧ len ≤ cap ∧ (PFnExactSortedPlaces.k45).C W a0 xs.length xs ∧ ∀ x ∈ xs, (Lit.int .i64 x.f0).wf = true ∧ (Lit.int .i64 x.f1).wf = true := by
  rcases Go.Deep.open_slice Try.underlying28 h with ⟨hcs, hx⟩ | ⟨a, len1, cap1, m, n, D, Pl, hcs, hb, hl, hm, hmm, hx, hi⟩
  · simp at hcs
    obtain ⟨rfl, rfl, rfl⟩ := hcs
    exact ⟨[], rfl, Nat.le_refl _, PrintWords.Kd.C_nil _ _, fun x hx => by cases hx⟩
  · simp at hcs
    obtain ⟨rfl, rfl, rfl⟩ := hcs
    have hmc : m = cap := by simpa using hmm
    have hel : ∀ i, i < len → ∃ q : Int × Int, (∀ (j : Nat) (u : Value), [Value.int .i64 q.1, Value.int .i64 q.2][j]? = some u → W.cell? (a.add (i * 2 + j)) = some u) ∧ (Lit.int .i64 q.1).wf = true ∧ (Lit.int .i64 q.2).wf = true := by
      intro i hil
      obtain ⟨cs1, hc, ht⟩ := hi i (by omega)
      obtain ⟨a0, a1, rfl, wa0, wa1⟩ := trodPlace ht
      rw [cellsPlace] at hc
      obtain ⟨_, _, hat⟩ := World.cells?_some hc
      refine ⟨(a0, a1), fun j u hj => ?_, wa0, wa1⟩
      have hjl : j < 2 := by have := (List.getElem?_eq_some_iff.1 hj).1; simpa using this
      have := hat j hjl
      rw [Go.Deep.add_add] at this
      rw [this]
      exact hj
    obtain ⟨f, hf⟩ := Go.Deep.choose_lt hel
    refine ⟨(List.range len).map fun i => (⟨(f i).1, (f i).2⟩ : PFnExactSortedPlaces.S45), by simp, hl, ⟨rfl, by have := hm; unfold maxLen at this; simp; omega, fun hp => ⟨a, rfl, fun j p hj => ?_⟩⟩, fun x hx => ?_⟩
    · have hjl : j < len := by have := (List.getElem?_eq_some_iff.1 hj).1; simpa using this
      have hp2 : p = (⟨(f j).1, (f j).2⟩ : PFnExactSortedPlaces.S45) := by simpa [hjl] using hj.symm
      subst hp2
      exact ⟨[Value.int .i64 (f j).1, Value.int .i64 (f j).2], rfl, ⟨_, _, rfl, rfl, rfl⟩, (hf j hjl).1⟩
    · obtain ⟨i, hir, rfl⟩ := List.mem_map.1 hx
      exact (hf i (List.mem_range.1 hir)).2
end
set_option maxRecDepth 100000 in
theorem lifted (os : Os) (started : os.Started) (H : Type) (enc : TypeId × Value → H) :
    ReturnsInHanded {} Try.checked os 4 .any (Rows.fnExactSortedPlacesSpec.pre6 enc Try.prog Try.f4 Rows.fnExactSortedPlacesRow.domain false) (Rows.fnExactSortedPlacesSpec.post enc Try.prog Try.f4 false true false false) := by
  refine returnsInHanded_of_change_sized (C := Try.checked) own started (by kernel_rfl) Try.func4
    (ChangeSpec.witness6 (enc := enc) (C := Try.checked) false ⟨#[], #[.slice none 0 0], []⟩ 8 (by kernel_rfl) (by kernel_rfl) (by kernel_rfl) (by kernel_rfl)) ?_
  intro W base args ds gs before hval0 hW hcnd hsz0 _
  have hsz : (DataW.weightsEach Try.prog (Try.f4.params.toList ++ Rows.fnExactSortedPlacesSpec.plain.varTypes Try.prog) (ds ++ gs)).all (· ≤ reachBytes) = true := hsz0
  have hval : ∀ (j : Nat) t v, Try.f4.params[j]? = some t → args[j]? = some v → Value.okWide Try.prog W .any base t v := hval0
  have hW' := hW
  obtain ⟨p, q, hA0, hV, rfl, hfz, hnd⟩ := hW
  have hA : DataW.TrodAll enc Try.prog W 0 (fun _ => true) true Try.f4.params.toList args.toList ds p := hA0
  rw [Try.params4] at hA hval hsz
  obtain ⟨v0, vs0, d0, ds0, p0, q0, hargs, rfl, rfl, h0, r0⟩ := trodAll_cons hA
  obtain ⟨rfl, rfl, rfl⟩ := trodAll_nil r0
  obtain rfl : args = #[v0] := by cases args; simp_all
  obtain ⟨rfl, rfl⟩ := trodVars_none hV
  obtain ⟨a0, len0, cap0, rfl⟩ := okWide_slice Try.underlying28 (hval 0 28 v0 rfl rfl)
  have k0 := h0
  have lt0 : ∀ x ∈ p0, x.block < W.heap.size := by obtain ⟨m, hm⟩ := k0; exact DataW.trod_lt m _ _ _ hm
  obtain ⟨fuel0, hf0⟩ := h0
  obtain ⟨l0, hl0, hlc0, hC0, wl0⟩ := openSPlace (by simpa [Value.cells] using hf0)
  subst hl0
  have ml0 : l0.length ≤ 9223372036854775807 := hC0.2.1
  clear hA0 hval0 hsz0 hsz
  obtain ⟨k, hp⟩ := Pure.FnExactSortedPlaces l0 ml0 wl0
  refine (PFnExactSortedPlaces.laws_FnExactSortedPlaces.calls k a0 cap0 l0 true W hC0 hlc0 hp).mono fun e W' ⟨he, bel0⟩ => ?_
  have bel : Below W.heap.size W W' := bel0
  subst he
  exact ⟨_, rfl, _, _, _, [], _, [], hW', trodAll_mk1 (shut_bool Try.underlying4 _), (trodAll_cons_mk (Below.trod laidOut (by kernel_rfl) (of_decide_eq_true (by kernel_rfl)) k0 bel lt0) trodAll_mk0), rfl, bel.frame _, fun h => by cases h⟩
theorem over : Rows.fnExactSortedPlacesRow.holds Try.pinned (OpenSpec.ofChange Rows.fnExactSortedPlacesSpec) :=
  OpenClaim.holds_of_wide 4 Try.f4 rfl rfl rfl rfl rfl rfl rfl ⟨rfl, rfl, rfl, rfl, rfl⟩ rfl rfl rfl rfl rfl (by kernel_rfl) Try.func4 (by kernel_rfl)
    (of_decide_eq_true (by kernel_rfl)) (by unfold Func.isWrapper; first | (rw [if_pos (by decide +kernel)]; kernel_rfl) | (rw [if_neg (by decide +kernel)]; exact ⟨rfl, rfl⟩))
    (fun os started H enc _ => lifted os started H enc)
theorem proved : Rows.FnExactSortedPlacesSaid := over
#print axioms proved
end Go.Proofs.Ytcggonofidgchaa.fnExactSortedPlaces
namespace Go.Proofs.Ytcggonofidgchaa
/-- The row, under a short name, for the claim. -/
theorem fnExactSortedPlaces_holds : Rows.FnExactSortedPlacesSaid := fnExactSortedPlaces.proved
end Go.Proofs.Ytcggonofidgchaa
