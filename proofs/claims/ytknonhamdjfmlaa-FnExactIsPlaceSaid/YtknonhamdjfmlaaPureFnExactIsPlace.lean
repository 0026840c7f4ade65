/- The plain law behind FnExactIsPlace: for every input that the row lets in, the printed function of the law answers true. No condition beyond the bounds that the statement names. -/
import Derived.Test.YtknonhamdjfmlaaPFnExactIsPlacex1
namespace Go.Proofs.Ytknonhamdjfmlaa.Pure
open Go.RowKit Go.Proofs.Ytknonhamdjfmlaa.PFnExactIsPlace Go.Proofs.YtknonhamdjfmlaaW.PrintWords Go.Proofs.YtknonhamdjfmlaaW.PrintLast
set_option linter.unusedVariables false
set_option linter.unusedSimpArgs false

theorem w64 {x : Int} (h0 : -9223372036854775808 ≤ x) (h1 : x ≤ 9223372036854775807) : wrap64 x = x := by unfold wrap64; omega
theorem wfb {a : Int} (h : (Lit.int .i64 a).wf = true) : -9223372036854775808 ≤ a ∧ a ≤ 9223372036854775807 := by
  simp [Lit.wf, IntKind.min, IntKind.max, IntKind.signed, IntKind.bits] at h
  omega
theorem dec_congr {p q : Prop} [Decidable p] [Decidable q] (h : p ↔ q) : decide p = decide q := by simp [h]

theorem sIsMeasure (x : Int) : spec_IsMeasure.f x = some (decide (-4096 ≤ x ∧ x ≤ 4096)) := by
  unfold spec_IsMeasure.f
  split <;> simp <;> omega

theorem iWithin (a b c : Int) : impl_isWithin.f a b c = some (decide (b ≤ a ∧ a ≤ c)) := by
  unfold impl_isWithin.f
  split <;> simp <;> omega

theorem iIsMeasure (x : Int) : impl_IsMeasure.f x = some (decide (-4096 ≤ x ∧ x ≤ 4096)) := by
  unfold impl_IsMeasure.f
  rw [iWithin]
  rfl

theorem sIsPlace (x y : Int) : spec_IsPlace.f x y = some (decide ((-4096 ≤ x ∧ x ≤ 4096) ∧ (-4096 ≤ y ∧ y ≤ 4096))) := by
  unfold spec_IsPlace.f
  simp only [sIsMeasure, Option.bind_some]
  split <;> rename_i h <;> simp at h ⊢ <;> omega

theorem iIsPlace (x y : Int) : impl_IsPlace.f x y = some (decide ((-4096 ≤ x ∧ x ≤ 4096) ∧ (-4096 ≤ y ∧ y ≤ 4096))) := by
  unfold impl_IsPlace.f
  simp only [iIsMeasure, Option.bind_some]
  split <;> rename_i h <;> simp at h ⊢ <;> omega

theorem FnExactIsPlace : ∀ (a0_0 : Int) (a0_1 : Int), (Lit.int .i64 a0_0).wf = true → (Lit.int .i64 a0_1).wf = true → laws_FnExactIsPlace.f a0_0 a0_1 = some true := by
  intro x y hx hy
  unfold laws_FnExactIsPlace.f laws_toPlace.f
  simp only [sIsPlace, iIsPlace, Option.bind_some]
  simp

end Go.Proofs.Ytknonhamdjfmlaa.Pure
