/- The plain law behind FnExactRampAt: for every input that the row lets in, the printed function of the law answers true. No condition beyond the bounds that the statement names. -/
import Derived.Test.YtknonhamdjfmlaaPFnExactRampAtx1
namespace Go.Proofs.Ytknonhamdjfmlaa.Pure
open Go.RowKit Go.Proofs.Ytknonhamdjfmlaa.PFnExactRampAt Go.Proofs.YtknonhamdjfmlaaW.PrintWords Go.Proofs.YtknonhamdjfmlaaW.PrintLast
set_option linter.unusedVariables false
set_option linter.unusedSimpArgs false

theorem w64 {x : Int} (h0 : -9223372036854775808 ≤ x) (h1 : x ≤ 9223372036854775807) : wrap64 x = x := by unfold wrap64; omega
theorem wfb {a : Int} (h : (Lit.int .i64 a).wf = true) : -9223372036854775808 ≤ a ∧ a ≤ 9223372036854775807 := by
  simp [Lit.wf, IntKind.min, IntKind.max, IntKind.signed, IntKind.bits] at h
  omega
theorem dec_congr {p q : Prop} [Decidable p] [Decidable q] (h : p ↔ q) : decide p = decide q := by simp [h]

theorem sIsMeasure (x : Int) : spec_IsMeasure.f x = some (decide (-4096 ≤ x ∧ x ≤ 4096)) := by
  unfold spec_IsMeasure.f
  split <;> simp <;> omega

theorem iWithin (a b c : Int) : impl_isWithin.f a b c = some (decide (b ≤ a ∧ a ≤ c)) := by
  unfold impl_isWithin.f
  split <;> simp <;> omega

theorem iIsMeasure (x : Int) : impl_IsMeasure.f x = some (decide (-4096 ≤ x ∧ x ≤ 4096)) := by
  unfold impl_IsMeasure.f
  rw [iWithin]
  rfl

theorem floor_eq (a b : Int) : spec_l1Floor.f a b = impl_floorDiv.f a b := rfl
theorem ramp_eq (k : Nat) (a b i n : Int) : spec_RampAt.f k a b i n = impl_RampAt.f k a b i n := by
  unfold spec_RampAt.f impl_RampAt.f
  simp only [sIsMeasure, iIsMeasure, Option.bind_some]
  have hj : ∀ t, spec_RampAt.j0 k a b i n t = impl_RampAt.j0 k a b i n t := by
    intro t
    cases k with
    | zero => rfl
    | succ k => simp only [spec_RampAt.j0, impl_RampAt.j0, floor_eq, Int.mul_comm (wrap64 (b - a)) i]
  simp only [hj]
theorem floor_some (a b : Int) (h : b ≠ 0) : ∃ q, impl_floorDiv.f a b = some q := by
  unfold impl_floorDiv.f
  rw [if_neg h]
  split <;> exact ⟨_, rfl⟩
theorem ramp_some (k : Nat) (a b i n : Int) : ∃ r, impl_RampAt.f (k + 1) a b i n = some r := by
  unfold impl_RampAt.f
  simp only [iIsMeasure, Option.bind_some, impl_RampAt.j0]
  split
  · split
    · exact ⟨_, rfl⟩
    · split
      · exact ⟨_, rfl⟩
      · split
        · exact ⟨_, rfl⟩
        · split
          · exact ⟨_, rfl⟩
          · obtain ⟨q, hq⟩ := floor_some (wrap64 (i * wrap64 (b - a))) n (by omega)
            rw [hq]
            exact ⟨_, rfl⟩
  · exact ⟨0, by simp⟩

theorem FnExactRampAt : laws_FnExactRampAt.Pure := by
  intro a b i n _ _ _ _
  refine ⟨1, ?_⟩
  unfold laws_FnExactRampAt.f
  rw [ramp_eq]
  obtain ⟨r, hr⟩ := ramp_some 0 a b i n
  simp [hr]

end Go.Proofs.Ytknonhamdjfmlaa.Pure
