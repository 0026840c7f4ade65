/- The plain law behind FnExactIsJet: for every input that the row lets in, the printed function of the law answers true. No condition beyond the bounds that the statement names. -/
import Derived.Test.YtknonhamdjfmlaaPFnExactIsJetx1
namespace Go.Proofs.Ytknonhamdjfmlaa.Pure
open Go.RowKit Go.Proofs.Ytknonhamdjfmlaa.PFnExactIsJet Go.Proofs.YtknonhamdjfmlaaW.PrintWords Go.Proofs.YtknonhamdjfmlaaW.PrintLast
set_option linter.unusedVariables false
set_option linter.unusedSimpArgs false

theorem w64 {x : Int} (h0 : -9223372036854775808 ≤ x) (h1 : x ≤ 9223372036854775807) : wrap64 x = x := by unfold wrap64; omega
theorem wfb {a : Int} (h : (Lit.int .i64 a).wf = true) : -9223372036854775808 ≤ a ∧ a ≤ 9223372036854775807 := by
  simp [Lit.wf, IntKind.min, IntKind.max, IntKind.signed, IntKind.bits] at h
  omega
theorem dec_congr {p q : Prop} [Decidable p] [Decidable q] (h : p ↔ q) : decide p = decide q := by simp [h]

theorem iWithin (a b c : Int) : impl_isWithin.f a b c = some (decide (b ≤ a ∧ a ≤ c)) := by
  unfold impl_isWithin.f
  split <;> simp <;> omega

theorem sIsHeading (x : Int) : spec_IsHeading.f x = some (decide (0 ≤ x ∧ x ≤ 3)) := by
  unfold spec_IsHeading.f
  split <;> simp <;> omega

theorem iIsHeading (x : Int) : impl_IsHeading.f x = some (decide (0 ≤ x ∧ x ≤ 3)) := by
  unfold impl_IsHeading.f
  rw [iWithin]
  rfl

def JetOK (x y h t l : Int) : Prop := (-1024 ≤ x ∧ x ≤ 1024) ∧ (-1024 ≤ y ∧ y ≤ 1024) ∧ (0 ≤ h ∧ h ≤ 3) ∧ (0 ≤ t ∧ t ≤ 16) ∧ (1 ≤ l ∧ l ≤ 32)
instance (x y h t l : Int) : Decidable (JetOK x y h t l) := by unfold JetOK; infer_instance

theorem sIn (a b c : Int) : spec_l1In.f a b c = some (decide (b ≤ a ∧ a ≤ c)) := by
  unfold spec_l1In.f
  split <;> simp <;> omega

theorem sIsJet (x y h t l : Int) : spec_IsJet.f x y h t l = some (decide (JetOK x y h t l)) := by
  unfold spec_IsJet.f
  simp only [JetOK]
  simp only [sIn, sIsHeading, Option.bind_some]
  by_cases h1 : -1024 ≤ x ∧ x ≤ 1024 <;> by_cases h2 : -1024 ≤ y ∧ y ≤ 1024 <;> by_cases h3 : 0 ≤ h ∧ h ≤ 3 <;> by_cases h4 : 0 ≤ t ∧ t ≤ 16 <;> simp [h1, h2, h3, h4]

theorem iIsJet (x y h t l : Int) : impl_IsJet.f x y h t l = some (decide (JetOK x y h t l)) := by
  unfold impl_IsJet.f
  simp only [JetOK]
  simp only [iWithin, iIsHeading, Option.bind_some]
  by_cases h1 : -1024 ≤ x ∧ x ≤ 1024 <;> by_cases h2 : -1024 ≤ y ∧ y ≤ 1024 <;> by_cases h3 : 0 ≤ h ∧ h ≤ 3 <;> by_cases h4 : 0 ≤ t ∧ t ≤ 16 <;> simp [h1, h2, h3, h4]

theorem toP (x y : Int) : laws_toPlace.f x y = some (x, y) := rfl

theorem toJ (x y h t l : Int) : laws_toJet.f x y h t l = some (x, y, h, t, l) := rfl

theorem FnExactIsJet : ∀ (a0_0 : Int) (a0_1 : Int) (a0_2 : Int) (a0_3 : Int) (a0_4 : Int), (Lit.int .i64 a0_0).wf = true → (Lit.int .i64 a0_1).wf = true → (Lit.int .i64 a0_2).wf = true → (Lit.int .i64 a0_3).wf = true → (Lit.int .i64 a0_4).wf = true → laws_FnExactIsJet.f a0_0 a0_1 a0_2 a0_3 a0_4 = some true := by
  intro x y h t l _ _ _ _ _
  unfold laws_FnExactIsJet.f
  simp only [toJ, sIsJet, iIsJet, Option.bind_some]
  simp

end Go.Proofs.Ytknonhamdjfmlaa.Pure
