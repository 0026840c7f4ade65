/- The plain law behind FnExactReachOf: for every input that the row lets in, the printed function of the law answers true. No condition beyond the bounds that the statement names. -/
import Derived.Test.YthpjljgcpgapbaaPFnExactReachOfx1
namespace Go.Proofs.Ythpjljgcpgapbaa.Pure
open Go.RowKit Go.Proofs.Ythpjljgcpgapbaa.PFnExactReachOf Go.Proofs.YthpjljgcpgapbaaW.PrintWords Go.Proofs.YthpjljgcpgapbaaW.PrintLast
set_option linter.unusedVariables false
set_option linter.unusedSimpArgs false

theorem w64 {x : Int} (h0 : -9223372036854775808 ≤ x) (h1 : x ≤ 9223372036854775807) : wrap64 x = x := by unfold wrap64; omega
theorem wfb {a : Int} (h : (Lit.int .i64 a).wf = true) : -9223372036854775808 ≤ a ∧ a ≤ 9223372036854775807 := by
  simp [Lit.wf, IntKind.min, IntKind.max, IntKind.signed, IntKind.bits] at h
  omega
theorem dec_congr {p q : Prop} [Decidable p] [Decidable q] (h : p ↔ q) : decide p = decide q := by simp [h]

theorem iWithin (a b c : Int) : impl_isWithin.f a b c = some (decide (b ≤ a ∧ a ≤ c)) := by
  unfold impl_isWithin.f
  split <;> simp <;> omega

theorem sIsHeading (x : Int) : spec_IsHeading.f x = some (decide (0 ≤ x ∧ x ≤ 3)) := by
  unfold spec_IsHeading.f
  split <;> simp <;> omega

theorem iIsHeading (x : Int) : impl_IsHeading.f x = some (decide (0 ≤ x ∧ x ≤ 3)) := by
  unfold impl_IsHeading.f
  rw [iWithin]
  rfl

def JetOK (x y h t l : Int) : Prop := (-1024 ≤ x ∧ x ≤ 1024) ∧ (-1024 ≤ y ∧ y ≤ 1024) ∧ (0 ≤ h ∧ h ≤ 3) ∧ (0 ≤ t ∧ t ≤ 16) ∧ (1 ≤ l ∧ l ≤ 32)
instance (x y h t l : Int) : Decidable (JetOK x y h t l) := by unfold JetOK; infer_instance

theorem sIn (a b c : Int) : spec_l1In.f a b c = some (decide (b ≤ a ∧ a ≤ c)) := by
  unfold spec_l1In.f
  split <;> simp <;> omega

theorem sIsJet (x y h t l : Int) : spec_IsJet.f x y h t l = some (decide (JetOK x y h t l)) := by
  unfold spec_IsJet.f
  simp only [JetOK]
  simp only [sIn, sIsHeading, Option.bind_some]
  by_cases h1 : -1024 ≤ x ∧ x ≤ 1024 <;> by_cases h2 : -1024 ≤ y ∧ y ≤ 1024 <;> by_cases h3 : 0 ≤ h ∧ h ≤ 3 <;> by_cases h4 : 0 ≤ t ∧ t ≤ 16 <;> simp [h1, h2, h3, h4]

theorem iIsJet (x y h t l : Int) : impl_IsJet.f x y h t l = some (decide (JetOK x y h t l)) := by
  unfold impl_IsJet.f
  simp only [JetOK]
  simp only [iWithin, iIsHeading, Option.bind_some]
  by_cases h1 : -1024 ≤ x ∧ x ≤ 1024 <;> by_cases h2 : -1024 ≤ y ∧ y ≤ 1024 <;> by_cases h3 : 0 ≤ h ∧ h ≤ 3 <;> by_cases h4 : 0 ≤ t ∧ t ≤ 16 <;> simp [h1, h2, h3, h4]

theorem toP (x y : Int) : laws_toPlace.f x y = some (x, y) := rfl

theorem toJ (x y h t l : Int) : laws_toJet.f x y h t l = some (x, y, h, t, l) := rfl

def flV (x y h t l : Int) : Int := if JetOK x y h t l then l + 1 else 0
theorem pb {t u : Int} (ht : 0 ≤ t ∧ t ≤ 1000) (hu : 0 ≤ u ∧ u ≤ 1000) : 0 ≤ t * u ∧ t * u ≤ 1000000 :=
  ⟨Int.mul_nonneg ht.1 hu.1, by have := Int.mul_le_mul ht.2 hu.2 hu.1 (by omega : (0 : Int) ≤ 1000); omega⟩

theorem iFlight (x y h t l : Int) : impl_FlightOf.f x y h t l = some (flV x y h t l) := by
  unfold impl_FlightOf.f flV
  simp only [iIsJet, Option.bind_some]
  by_cases hj : JetOK x y h t l
  · have := hj
    unfold JetOK at this
    rw [w64 (by omega) (by omega)]
    simp [hj]
  · simp [hj]

theorem flight_loop (l : Int) (hl : 1 ≤ l ∧ l ≤ 32) (d : Nat) : ∀ t : Int, 1 ≤ t → l + 1 - t = d → Ev (fun k => spec_FlightOf.l0 k t (t * (l + 1 - t)) (l - 2 * t)) (l + 1) := by
  induction d with
  | zero =>
    intro t h1 hd
    have e : l + 1 - t = 0 := by omega
    refine Ev.step (f := fun _ => some (l + 1)) (fun k => ?_) (Ev.now _)
    simp only [spec_FlightOf.l0]
    rw [e, if_neg (by omega)]
    congr 1; omega
  | succ d ih =>
    intro t h1 hd
    have hp : 0 < t * (l + 1 - t) := Int.mul_pos (by omega) (by omega)
    have hb := pb (t := t) (u := l + 1 - t) (by omega) (by omega)
    have hs : t * (l + 1 - t) + (l - 2 * t) = (t + 1) * (l + 1 - (t + 1)) := by grind
    have hb2 := pb (t := t + 1) (u := l + 1 - (t + 1)) (by omega) (by omega)
    refine Ev.step (fun k => ?_) (ih (t + 1) (by omega) (by omega))
    simp only [spec_FlightOf.l0]
    rw [if_pos hp, w64 (x := t + 1) (by omega) (by omega), hs, w64 (x := (t + 1) * _) (by omega) (by omega), w64 (x := l - 2 * t - 2) (by omega) (by omega), show l - 2 * t - 2 = l - 2 * (t + 1) by omega]
theorem sFlight (x y h t l : Int) : Ev (fun k => spec_FlightOf.f k x y h t l) (flV x y h t l) := by
  unfold spec_FlightOf.f flV
  simp only [sIsJet, Option.bind_some]
  by_cases hj : JetOK x y h t l
  · simp only [hj, decide_true, if_true]
    unfold JetOK at hj
    rw [w64 (by omega) (by omega)]
    have := flight_loop l (by omega) l.toNat 1 (by omega) (by omega)
    rw [show (1 : Int) * (l + 1 - 1) = l by omega, show l - 2 * 1 = l - 2 by omega] at this
    exact this
  · simp only [hj, decide_false, if_false, Bool.false_eq_true]
    exact Ev.now _

theorem FnExactReachOf : ∀ (a0_0 : Int) (a0_1 : Int) (a0_2 : Int) (a0_3 : Int) (a0_4 : Int), (Lit.int .i64 a0_0).wf = true → (Lit.int .i64 a0_1).wf = true → (Lit.int .i64 a0_2).wf = true → (Lit.int .i64 a0_3).wf = true → (Lit.int .i64 a0_4).wf = true → ∃ k, laws_FnExactReachOf.f k a0_0 a0_1 a0_2 a0_3 a0_4 = some true := by
  intro x y h t l _ _ _ _ _
  refine Ev.rounds (r := true) ?_
  unfold laws_FnExactReachOf.f
  simp only [toJ, Option.bind_some]
  refine Ev.bind (a := wrap64 (flV x y h t l * t)) ?_ ?_
  · unfold spec_ReachOf.f
    exact Ev.bind (sFlight x y h t l) (Ev.now _)
  · unfold impl_ReachOf.f
    simp only [iFlight, Option.bind_some, Int.mul_comm t, if_true]
    exact Ev.now _

end Go.Proofs.Ythpjljgcpgapbaa.Pure
