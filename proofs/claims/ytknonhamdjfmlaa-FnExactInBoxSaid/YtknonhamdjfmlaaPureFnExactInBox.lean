/- The plain law behind FnExactInBox: for every input that the row lets in, the printed function of the law answers true. No condition beyond the bounds that the statement names. -/
import Derived.Test.YtknonhamdjfmlaaPFnExactInBoxx2
namespace Go.Proofs.Ytknonhamdjfmlaa.Pure
open Go.RowKit Go.Proofs.Ytknonhamdjfmlaa.PFnExactInBox Go.Proofs.YtknonhamdjfmlaaW.PrintWords Go.Proofs.YtknonhamdjfmlaaW.PrintLast
set_option linter.unusedVariables false
set_option linter.unusedSimpArgs false

theorem w64 {x : Int} (h0 : -9223372036854775808 ≤ x) (h1 : x ≤ 9223372036854775807) : wrap64 x = x := by unfold wrap64; omega
theorem wfb {a : Int} (h : (Lit.int .i64 a).wf = true) : -9223372036854775808 ≤ a ∧ a ≤ 9223372036854775807 := by
  simp [Lit.wf, IntKind.min, IntKind.max, IntKind.signed, IntKind.bits] at h
  omega
theorem dec_congr {p q : Prop} [Decidable p] [Decidable q] (h : p ↔ q) : decide p = decide q := by simp [h]

theorem sIsMeasure (x : Int) : spec_IsMeasure.f x = some (decide (-4096 ≤ x ∧ x ≤ 4096)) := by
  unfold spec_IsMeasure.f
  split <;> simp <;> omega

theorem iWithin (a b c : Int) : impl_isWithin.f a b c = some (decide (b ≤ a ∧ a ≤ c)) := by
  unfold impl_isWithin.f
  split <;> simp <;> omega

theorem iIsMeasure (x : Int) : impl_IsMeasure.f x = some (decide (-4096 ≤ x ∧ x ≤ 4096)) := by
  unfold impl_IsMeasure.f
  rw [iWithin]
  rfl

theorem sIsPlace (x y : Int) : spec_IsPlace.f x y = some (decide ((-4096 ≤ x ∧ x ≤ 4096) ∧ (-4096 ≤ y ∧ y ≤ 4096))) := by
  unfold spec_IsPlace.f
  simp only [sIsMeasure, Option.bind_some]
  split <;> rename_i h <;> simp at h ⊢ <;> omega

theorem iIsPlace (x y : Int) : impl_IsPlace.f x y = some (decide ((-4096 ≤ x ∧ x ≤ 4096) ∧ (-4096 ≤ y ∧ y ≤ 4096))) := by
  unfold impl_IsPlace.f
  simp only [iIsMeasure, Option.bind_some]
  split <;> rename_i h <;> simp at h ⊢ <;> omega

def BoxOK (x y u v : Int) : Prop := ((-4096 ≤ x ∧ x ≤ 4096) ∧ (-4096 ≤ y ∧ y ≤ 4096)) ∧ ((-4096 ≤ u ∧ u ≤ 4096) ∧ (-4096 ≤ v ∧ v ≤ 4096)) ∧ x ≤ u ∧ y ≤ v
instance (x y u v : Int) : Decidable (BoxOK x y u v) := by unfold BoxOK; infer_instance

theorem sIsBox (x y u v : Int) : spec_IsBox.f x y u v = some (decide (BoxOK x y u v)) := by
  unfold spec_IsBox.f
  simp only [BoxOK]
  simp only [sIsPlace, Option.bind_some]
  by_cases h1 : (-4096 ≤ x ∧ x ≤ 4096) ∧ (-4096 ≤ y ∧ y ≤ 4096) <;> by_cases h2 : (-4096 ≤ u ∧ u ≤ 4096) ∧ (-4096 ≤ v ∧ v ≤ 4096) <;> by_cases h3 : x ≤ u <;> simp [h1, h2, h3]

theorem iIsBox (x y u v : Int) : impl_IsBox.f x y u v = some (decide (BoxOK x y u v)) := by
  unfold impl_IsBox.f
  simp only [BoxOK]
  simp only [iIsPlace, Option.bind_some]
  by_cases h1 : (-4096 ≤ x ∧ x ≤ 4096) ∧ (-4096 ≤ y ∧ y ≤ 4096) <;> by_cases h2 : (-4096 ≤ u ∧ u ≤ 4096) ∧ (-4096 ≤ v ∧ v ≤ 4096) <;> by_cases h3 : x ≤ u <;> simp [h1, h2, h3]

theorem sInBox (x y u v p q : Int) : spec_InBox.f x y u v p q = some (decide (BoxOK x y u v ∧ (x ≤ p ∧ p ≤ u) ∧ (y ≤ q ∧ q ≤ v))) := by
  unfold spec_InBox.f
  simp only [sIsBox, Option.bind_some]
  by_cases h : BoxOK x y u v
  · simp only [h, decide_true, if_true, true_and]
    by_cases h1 : x ≤ p <;> by_cases h2 : p ≤ u <;> by_cases h3 : y ≤ q <;> simp [h1, h2, h3]
  · simp [h]

theorem iInBox (x y u v p q : Int) : impl_InBox.f x y u v p q = some (decide (BoxOK x y u v ∧ (x ≤ p ∧ p ≤ u) ∧ (y ≤ q ∧ q ≤ v))) := by
  unfold impl_InBox.f
  simp only [iIsBox, iWithin, Option.bind_some]
  by_cases h : BoxOK x y u v
  · simp only [h, decide_true, if_true, true_and]
    by_cases h1 : x ≤ p <;> by_cases h2 : p ≤ u <;> by_cases h3 : y ≤ q <;> simp [h1, h2, h3]
  · simp [h]

theorem toP (x y : Int) : laws_toPlace.f x y = some (x, y) := rfl

theorem toB (x y u v : Int) : laws_toBox.f x y u v = some (x, y, u, v) := rfl

theorem FnExactInBox : ∀ (a0_0 : Int) (a0_1 : Int) (a0_2 : Int) (a0_3 : Int) (a1_0 : Int) (a1_1 : Int), (Lit.int .i64 a0_0).wf = true → (Lit.int .i64 a0_1).wf = true → (Lit.int .i64 a0_2).wf = true → (Lit.int .i64 a0_3).wf = true → (Lit.int .i64 a1_0).wf = true → (Lit.int .i64 a1_1).wf = true → laws_FnExactInBox.f a0_0 a0_1 a0_2 a0_3 a1_0 a1_1 = some true := by
  intro x y u v p q _ _ _ _ _ _
  unfold laws_FnExactInBox.f
  simp only [toB, toP, sInBox, iInBox, Option.bind_some]
  simp

end Go.Proofs.Ytknonhamdjfmlaa.Pure
