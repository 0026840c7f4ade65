/- The plain law behind FnExactTimesMeasure: for every input that the row lets in, the printed function of the law answers true. No condition beyond the bounds that the statement names. -/
import Derived.Test.YtknonhamdjfmlaaPFnExactTimesMeasurex1
namespace Go.Proofs.Ytknonhamdjfmlaa.Pure
open Go.RowKit Go.Proofs.Ytknonhamdjfmlaa.PFnExactTimesMeasure Go.Proofs.YtknonhamdjfmlaaW.PrintWords Go.Proofs.YtknonhamdjfmlaaW.PrintLast
set_option linter.unusedVariables false
set_option linter.unusedSimpArgs false

theorem w64 {x : Int} (h0 : -9223372036854775808 ≤ x) (h1 : x ≤ 9223372036854775807) : wrap64 x = x := by unfold wrap64; omega
theorem wfb {a : Int} (h : (Lit.int .i64 a).wf = true) : -9223372036854775808 ≤ a ∧ a ≤ 9223372036854775807 := by
  simp [Lit.wf, IntKind.min, IntKind.max, IntKind.signed, IntKind.bits] at h
  omega
theorem dec_congr {p q : Prop} [Decidable p] [Decidable q] (h : p ↔ q) : decide p = decide q := by simp [h]

theorem sIsMeasure (x : Int) : spec_IsMeasure.f x = some (decide (-4096 ≤ x ∧ x ≤ 4096)) := by
  unfold spec_IsMeasure.f
  split <;> simp <;> omega

theorem iWithin (a b c : Int) : impl_isWithin.f a b c = some (decide (b ≤ a ∧ a ≤ c)) := by
  unfold impl_isWithin.f
  split <;> simp <;> omega

theorem iIsMeasure (x : Int) : impl_IsMeasure.f x = some (decide (-4096 ≤ x ∧ x ≤ 4096)) := by
  unfold impl_IsMeasure.f
  rw [iWithin]
  rfl

theorem sTimes (k : Nat) (x n : Int) : spec_TimesMeasure.f (k + 2) x n = some (if ¬ (-4096 ≤ x ∧ x ≤ 4096) ∨ x ≠ 0 ∧ ¬ (-4096 ≤ n ∧ n ≤ 4096) then (0, false) else if x = 0 then (0, true) else if -4096 ≤ wrap64 (x * n) ∧ wrap64 (x * n) ≤ 4096 then (wrap64 (x * n), true) else (0, false)) := by
  unfold spec_TimesMeasure.f
  simp only [spec_TimesMeasure.j0, spec_TimesMeasure.j1, sIsMeasure, Option.bind_some]
  generalize wrap64 (x * n) = z
  by_cases h1 : -4096 ≤ x ∧ x ≤ 4096
  · by_cases h2 : x = 0
    · subst h2
      by_cases h3 : n < -4096 <;> simp [h3]
    · by_cases h3 : -4096 ≤ n ∧ n ≤ 4096
      · by_cases h5 : -4096 ≤ z ∧ z ≤ 4096 <;> simp [h1, h2, h3, h5, show ¬ n < -4096 by omega, show ¬ n > 4096 by omega]
      · by_cases h4 : n < -4096
        · simp [h1, h2, h3, h4]
        · simp [h1, h2, h3, h4, show n > 4096 by omega]
  · by_cases h3 : n < -4096 <;> simp [h1, h3]

theorem iTimes (x n : Int) : impl_TimesMeasure.f x n = some (if ¬ (-4096 ≤ x ∧ x ≤ 4096) ∨ x ≠ 0 ∧ ¬ (-4096 ≤ n ∧ n ≤ 4096) then (0, false) else if x = 0 then (0, true) else if -4096 ≤ wrap64 (x * n) ∧ wrap64 (x * n) ≤ 4096 then (wrap64 (x * n), true) else (0, false)) := by
  unfold impl_TimesMeasure.f
  simp only [iIsMeasure, Option.bind_some]
  generalize wrap64 (x * n) = z
  by_cases h2 : x = 0
  · subst h2
    simp
  · by_cases h1 : -4096 ≤ x ∧ x ≤ 4096
    · by_cases h3 : -4096 ≤ n ∧ n ≤ 4096
      · by_cases h5 : -4096 ≤ z ∧ z ≤ 4096 <;> simp [h1, h2, h3, h5]
      · simp [h1, h2, h3]
    · simp [h1, h2]

theorem FnExactTimesMeasure : laws_FnExactTimesMeasure.Pure := by
  intro x n _ _
  refine ⟨2, ?_⟩
  unfold laws_FnExactTimesMeasure.f
  simp only [sTimes 0, iTimes, Option.bind_some]
  simp

end Go.Proofs.Ytknonhamdjfmlaa.Pure
