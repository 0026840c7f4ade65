/- The plain law behind FnExactIsName: for every input that the row lets in, the printed function of the law answers true. No condition beyond the bounds that the statement names. -/
import Derived.Test.YtknonhamdjfmlaaPFnExactIsNamex1
namespace Go.Proofs.Ytknonhamdjfmlaa.Pure
open Go.RowKit Go.Proofs.Ytknonhamdjfmlaa.PFnExactIsName Go.Proofs.YtknonhamdjfmlaaW.PrintWords Go.Proofs.YtknonhamdjfmlaaW.PrintLast
set_option linter.unusedVariables false
set_option linter.unusedSimpArgs false

theorem w64 {x : Int} (h0 : -9223372036854775808 ≤ x) (h1 : x ≤ 9223372036854775807) : wrap64 x = x := by unfold wrap64; omega
theorem wfb {a : Int} (h : (Lit.int .i64 a).wf = true) : -9223372036854775808 ≤ a ∧ a ≤ 9223372036854775807 := by
  simp [Lit.wf, IntKind.min, IntKind.max, IntKind.signed, IntKind.bits] at h
  omega
theorem dec_congr {p q : Prop} [Decidable p] [Decidable q] (h : p ↔ q) : decide p = decide q := by simp [h]

theorem iWithin (a b c : Int) : impl_isWithin.f a b c = some (decide (b ≤ a ∧ a ≤ c)) := by
  unfold impl_isWithin.f
  split <;> simp <;> omega

theorem isname_ev (s : ByteArray) (hs : s.size ≤ 140737488351232) (d : Nat) : ∀ i : Int, 0 ≤ i → (s.size : Int) - i = d →
    ∃ r, Ev (fun k => spec_IsName.l0 k s i) r ∧ Ev (fun k => impl_IsName.l0 k s (s.size : Int) i) r := by
  induction d with
  | zero =>
    intro i h0 hd
    refine ⟨decide (1 ≤ (s.size : Int) ∧ (s.size : Int) ≤ 8), Ev.step (f := fun _ => some _) (fun k => ?_) (Ev.now _), Ev.step (f := fun _ => some _) (fun k => ?_) (Ev.now _)⟩
    · simp only [spec_IsName.l0]
      rw [if_neg (by omega)]
      split <;> simp <;> omega
    · simp only [impl_IsName.l0]
      rw [if_neg (by omega), iWithin]
      simp
  | succ d ih =>
    intro i h0 hd
    have hlt : i < (s.size : Int) := by omega
    have hw : wrap64 (i + 1) = i + 1 := w64 (by omega) (by omega)
    obtain ⟨r, h1, h2⟩ := ih (i + 1) (by omega) (by omega)
    by_cases hc : (97 ≤ bt s i ∧ bt s i ≤ 122) ∨ ((48 ≤ bt s i ∧ bt s i ≤ 57) ∧ i ≠ 0)
    · refine ⟨r, Ev.step (f := fun k => spec_IsName.l0 k s (i + 1)) (fun k => ?_) h1, Ev.step (f := fun k => impl_IsName.l0 k s (s.size : Int) (i + 1)) (fun k => ?_) h2⟩
      · simp only [spec_IsName.l0, hw]
        rw [if_pos hlt, if_pos h0]
        repeat' split
        all_goals first | rfl | omega
      · simp only [impl_IsName.l0, hw]
        rw [if_pos hlt, if_pos h0, if_pos hlt]
        repeat' split
        all_goals first | rfl | omega
    · refine ⟨false, Ev.step (f := fun _ => some false) (fun k => ?_) (Ev.now _), Ev.step (f := fun _ => some false) (fun k => ?_) (Ev.now _)⟩
      · simp only [spec_IsName.l0, hw]
        rw [if_pos hlt, if_pos h0]
        repeat' split
        all_goals first | rfl | omega
      · simp only [impl_IsName.l0, hw]
        rw [if_pos hlt, if_pos h0, if_pos hlt]
        repeat' split
        all_goals first | rfl | omega

theorem FnExactIsName : laws_FnExactIsName.Pure := by
  intro s hs
  obtain ⟨r, h1, h2⟩ := isname_ev s hs s.size 0 (by omega) (by omega)
  refine Ev.rounds (r := true) ?_
  unfold laws_FnExactIsName.f
  split
  · exact Ev.now _
  · refine Ev.bind (a := r) h1 (Ev.bind (a := r) h2 ?_)
    simp only [bne_self_eq_false]
    exact Ev.now _

end Go.Proofs.Ytknonhamdjfmlaa.Pure
