/- The plain law behind FnExactIsHeading: for every input that the row lets in, the printed function of the law answers true. No condition beyond the bounds that the statement names. -/
import Derived.Test.YtknonhamdjfmlaaPFnExactIsHeadingx1
namespace Go.Proofs.Ytknonhamdjfmlaa.Pure
open Go.RowKit Go.Proofs.Ytknonhamdjfmlaa.PFnExactIsHeading Go.Proofs.YtknonhamdjfmlaaW.PrintWords Go.Proofs.YtknonhamdjfmlaaW.PrintLast
set_option linter.unusedVariables false
set_option linter.unusedSimpArgs false

theorem w64 {x : Int} (h0 : -9223372036854775808 ≤ x) (h1 : x ≤ 9223372036854775807) : wrap64 x = x := by unfold wrap64; omega
theorem wfb {a : Int} (h : (Lit.int .i64 a).wf = true) : -9223372036854775808 ≤ a ∧ a ≤ 9223372036854775807 := by
  simp [Lit.wf, IntKind.min, IntKind.max, IntKind.signed, IntKind.bits] at h
  omega
theorem dec_congr {p q : Prop} [Decidable p] [Decidable q] (h : p ↔ q) : decide p = decide q := by simp [h]

theorem iWithin (a b c : Int) : impl_isWithin.f a b c = some (decide (b ≤ a ∧ a ≤ c)) := by
  unfold impl_isWithin.f
  split <;> simp <;> omega

theorem sIsHeading (x : Int) : spec_IsHeading.f x = some (decide (0 ≤ x ∧ x ≤ 3)) := by
  unfold spec_IsHeading.f
  split <;> simp <;> omega

theorem iIsHeading (x : Int) : impl_IsHeading.f x = some (decide (0 ≤ x ∧ x ≤ 3)) := by
  unfold impl_IsHeading.f
  rw [iWithin]
  rfl

theorem FnExactIsHeading : laws_FnExactIsHeading.Pure := by
  intro a0 w0
  unfold laws_FnExactIsHeading.f
  simp only [sIsHeading, iIsHeading, Option.bind_some]
  simp

end Go.Proofs.Ytknonhamdjfmlaa.Pure
