/- The plain law behind FnExactTurnHeading: for every input that the row lets in, the printed function of the law answers true. No condition beyond the bounds that the statement names. -/
import Derived.Test.YtknonhamdjfmlaaPFnExactTurnHeadingx1
namespace Go.Proofs.Ytknonhamdjfmlaa.Pure
open Go.RowKit Go.Proofs.Ytknonhamdjfmlaa.PFnExactTurnHeading Go.Proofs.YtknonhamdjfmlaaW.PrintWords Go.Proofs.YtknonhamdjfmlaaW.PrintLast
set_option linter.unusedVariables false
set_option linter.unusedSimpArgs false

theorem w64 {x : Int} (h0 : -9223372036854775808 ≤ x) (h1 : x ≤ 9223372036854775807) : wrap64 x = x := by unfold wrap64; omega
theorem wfb {a : Int} (h : (Lit.int .i64 a).wf = true) : -9223372036854775808 ≤ a ∧ a ≤ 9223372036854775807 := by
  simp [Lit.wf, IntKind.min, IntKind.max, IntKind.signed, IntKind.bits] at h
  omega
theorem dec_congr {p q : Prop} [Decidable p] [Decidable q] (h : p ↔ q) : decide p = decide q := by simp [h]

theorem iWithin (a b c : Int) : impl_isWithin.f a b c = some (decide (b ≤ a ∧ a ≤ c)) := by
  unfold impl_isWithin.f
  split <;> simp <;> omega

theorem sIsHeading (x : Int) : spec_IsHeading.f x = some (decide (0 ≤ x ∧ x ≤ 3)) := by
  unfold spec_IsHeading.f
  split <;> simp <;> omega

theorem iIsHeading (x : Int) : impl_IsHeading.f x = some (decide (0 ≤ x ∧ x ≤ 3)) := by
  unfold impl_IsHeading.f
  rw [iWithin]
  rfl

theorem tmod_pos {a b : Int} (h : 0 ≤ a) : Int.tmod a b = a % b := Int.tmod_eq_emod_of_nonneg h
theorem tmod_neg' (a b : Int) : Int.tmod (-a) b = -(Int.tmod a b) := Int.neg_tmod a b
theorem tdiv_pos {a b : Int} (h : 0 ≤ a) : Int.tdiv a b = a / b := Int.tdiv_eq_ediv_of_nonneg h
theorem tmod4 (n : Int) : (Int.tmod n 4 < 0 → Int.tmod n 4 + 4 = n % 4) ∧ (¬ Int.tmod n 4 < 0 → Int.tmod n 4 = n % 4) ∧ -3 ≤ Int.tmod n 4 ∧ Int.tmod n 4 ≤ 3 := by
  rcases Int.le_total 0 n with h | h
  · rw [tmod_pos h]; omega
  · obtain ⟨m, rfl⟩ : ∃ m, n = -m := ⟨-n, by omega⟩
    rw [tmod_neg', tmod_pos (by omega)]; omega

theorem sMod (n : Int) : spec_l2Mod.f n = some (n % 4) := by
  have h := tmod4 n
  unfold spec_l2Mod.f
  split
  · rw [w64 (by omega) (by omega)]; simp; omega
  · simp; omega

theorem iTurns (n : Int) : impl_turns.f n = some (n % 4) := by
  have h := tmod4 n
  unfold impl_turns.f
  rw [w64 (by omega) (by omega), tmod_pos (by omega)]
  simp
  by_cases h1 : Int.tmod n 4 < 0 <;> omega

theorem sTurnHeading (h n : Int) : spec_TurnHeading.f h n = some (if 0 ≤ h ∧ h ≤ 3 then (h + n) % 4 else 0) := by
  unfold spec_TurnHeading.f
  simp only [sIsHeading, sMod, Option.bind_some]
  by_cases hh : 0 ≤ h ∧ h ≤ 3
  · rw [if_pos (by simpa using hh), if_pos hh, w64 (by omega) (by omega)]; simp
  · rw [if_neg (by simpa using hh), if_neg hh]

theorem iTurnHeading (h n : Int) : impl_TurnHeading.f h n = some (if 0 ≤ h ∧ h ≤ 3 then (h + n) % 4 else 0) := by
  unfold impl_TurnHeading.f
  simp only [iIsHeading, iTurns, Option.bind_some]
  by_cases hh : 0 ≤ h ∧ h ≤ 3
  · rw [if_pos (by simpa using hh), if_pos hh, w64 (by omega) (by omega), tmod_pos (by omega)]; simp
  · rw [if_neg (by simpa using hh), if_neg hh]

theorem FnExactTurnHeading : laws_FnExactTurnHeading.Pure := by
  intro h n _ _
  unfold laws_FnExactTurnHeading.f
  simp only [sTurnHeading, iTurnHeading, Option.bind_some]
  simp

end Go.Proofs.Ytknonhamdjfmlaa.Pure
