/- The plain law behind FnExactSumMeasures: for every input that the row lets in, the printed function of the law answers true. No condition beyond the bounds that the statement names. -/
import Derived.Test.YthpjljgcpgapbaaPFnExactSumMeasuresx1
namespace Go.Proofs.Ythpjljgcpgapbaa.Pure
open Go.RowKit Go.Proofs.Ythpjljgcpgapbaa.PFnExactSumMeasures Go.Proofs.YthpjljgcpgapbaaW.PrintWords Go.Proofs.YthpjljgcpgapbaaW.PrintLast
open Go.Proofs.YthpjljgcpgapbaaW.PrintMore
set_option linter.unusedVariables false
set_option linter.unusedSimpArgs false

theorem w64 {x : Int} (h0 : -9223372036854775808 ≤ x) (h1 : x ≤ 9223372036854775807) : wrap64 x = x := by unfold wrap64; omega
theorem wfb {a : Int} (h : (Lit.int .i64 a).wf = true) : -9223372036854775808 ≤ a ∧ a ≤ 9223372036854775807 := by
  simp [Lit.wf, IntKind.min, IntKind.max, IntKind.signed, IntKind.bits] at h
  omega
theorem Ev.succ' {α : Type} {g : Nat → Option α} {r : α} (h : Ev (fun k => g (k + 1)) r) : Ev g r := Ev.step (fun _ => rfl) h
theorem dec_congr {p q : Prop} [Decidable p] [Decidable q] (h : p ↔ q) : decide p = decide q := by simp [h]

theorem sIsMeasure (x : Int) : spec_IsMeasure.f x = some (decide (-4096 ≤ x ∧ x ≤ 4096)) := by
  unfold spec_IsMeasure.f
  split <;> simp <;> omega

theorem iWithin (a b c : Int) : impl_isWithin.f a b c = some (decide (b ≤ a ∧ a ≤ c)) := by
  unfold impl_isWithin.f
  split <;> simp <;> omega

theorem iIsMeasure (x : Int) : impl_IsMeasure.f x = some (decide (-4096 ≤ x ∧ x ≤ 4096)) := by
  unfold impl_IsMeasure.f
  rw [iWithin]
  rfl

theorem rd_get (l : List Int) (i : Int) (h0 : 0 ≤ i) (h1 : i < l.length) : l[i.toNat]? = some (rd l i) := by
  unfold rd
  rw [List.getD_eq_getElem?_getD]
  obtain ⟨v, hv⟩ : ∃ v, l[i.toNat]? = some v := ⟨_, List.getElem?_eq_getElem (by omega)⟩
  rw [hv]; rfl

theorem toIntS_loop (l : List Int) (hl : l.length ≤ 35184372088832) (d : Nat) : ∀ (i : Int) (acc : List Int), 0 ≤ i → acc.length = l.length → (∀ j : Nat, (j : Int) < i → acc[j]? = l[j]?) → (l.length : Int) - i = d → Ev (fun k => laws_toIntS.l0 k l acc i) l := by
  induction d with
  | zero =>
    intro i acc h0 hlen hacc hd
    have e : acc = l := List.ext_getElem? fun j => by
      by_cases hj : j < l.length
      · exact hacc j (by omega)
      · rw [List.getElem?_eq_none (by omega), List.getElem?_eq_none (by omega)]
    subst e
    refine Ev.step (f := fun _ => some acc) (fun k => ?_) (Ev.now _)
    simp only [laws_toIntS.l0]
    rw [if_neg (by omega)]
  | succ d ih =>
    intro i acc h0 hlen hacc hd
    refine Ev.step (fun k => ?_) (ih (i + 1) (acc.set i.toNat (rd l i)) (by omega) (by rw [List.length_set]; exact hlen) (fun j hj => ?_) (by omega))
    · simp only [laws_toIntS.l0]
      rw [if_pos (by omega), if_pos h0, if_pos (by omega), w64 (by omega) (by omega)]
    · rw [List.getElem?_set]
      by_cases hji : i.toNat = j
      · rw [if_pos hji, if_pos (by omega), ← hji, rd_get l i h0 (by omega)]
      · rw [if_neg hji]; exact hacc j (by omega)
theorem toIntS_ev (l : List Int) (hl : l.length ≤ 35184372088832) : Ev (fun k => laws_toIntS.f k l) l := by
  unfold laws_toIntS.f
  simp only [if_pos (show (0 : Int) ≤ (l.length : Int) by omega), if_pos (show (((l.length : Int) : Int)).toNat ≤ 35184372088832 by omega)]
  exact toIntS_loop l hl l.length 0 _ (by omega) (by simp) (fun j hj => by omega) (by omega)

theorem eqIntS_loop (l : List Int) (hl : l.length ≤ 35184372088832) (d : Nat) : ∀ (i : Int), 0 ≤ i → (l.length : Int) - i = d → Ev (fun k => laws_eqIntS.l0 k l l i) true := by
  induction d with
  | zero =>
    intro i h0 hd
    refine Ev.step (f := fun _ => some true) (fun k => ?_) (Ev.now _)
    simp only [laws_eqIntS.l0]
    rw [if_neg (by omega)]
  | succ d ih =>
    intro i h0 hd
    refine Ev.step (fun k => ?_) (ih (i + 1) (by omega) (by omega))
    simp only [laws_eqIntS.l0]
    rw [if_pos (by omega), if_pos h0, if_pos (by omega), if_pos trivial, w64 (by omega) (by omega)]
theorem eqIntS_ev (l : List Int) (hl : l.length ≤ 35184372088832) : Ev (fun k => laws_eqIntS.f k l l) true := by
  unfold laws_eqIntS.f
  simp only [if_true]
  exact eqIntS_loop l hl l.length 0 (by omega) (by omega)

theorem sum_both (l : List Int) (hl : l.length ≤ 35184372088832) (d : Nat) : ∀ (i n : Int), 0 ≤ i → (l.length : Int) - i = d → ∃ r, Ev (fun k => spec_SumMeasures.l0 k n l (l.length : Int) i) r ∧ Ev (fun k => impl_SumMeasures.l0 k n l (l.length : Int) i) r := by
  induction d with
  | zero =>
    intro i n h0 hd
    refine ⟨if -4096 ≤ n ∧ n ≤ 4096 then (n, true) else (0, false), Ev.step (f := fun _ => some _) (fun k => ?_) (Ev.now _), Ev.step (f := fun _ => some _) (fun k => ?_) (Ev.now _)⟩
    · simp only [spec_SumMeasures.l0, sIsMeasure, Option.bind_some, decide_eq_true_eq]
      rw [if_neg (by omega)]
      split <;> rfl
    · simp only [impl_SumMeasures.l0, iIsMeasure, Option.bind_some, decide_eq_true_eq]
      rw [if_neg (by omega)]
      split <;> rfl
  | succ d ih =>
    intro i n h0 hd
    by_cases hm : -4096 ≤ rd l i ∧ rd l i ≤ 4096
    · obtain ⟨r, h1, h2⟩ := ih (i + 1) (wrap64 (n + rd l i)) (by omega) (by omega)
      refine ⟨r, Ev.step (fun k => ?_) h1, Ev.step (fun k => ?_) h2⟩
      · simp only [spec_SumMeasures.l0, sIsMeasure, Option.bind_some, decide_eq_true_eq]
        rw [if_pos (by omega), if_pos h0, if_pos (by omega), if_pos hm, w64 (x := i + 1) (by omega) (by omega)]
      · simp only [impl_SumMeasures.l0, iIsMeasure, Option.bind_some, decide_eq_true_eq]
        rw [if_pos (by omega), if_pos h0, if_pos (by omega), if_pos hm, w64 (x := i + 1) (by omega) (by omega)]
    · refine ⟨(0, false), Ev.step (f := fun _ => some _) (fun k => ?_) (Ev.now _), Ev.step (f := fun _ => some _) (fun k => ?_) (Ev.now _)⟩
      · simp only [spec_SumMeasures.l0, sIsMeasure, Option.bind_some, decide_eq_true_eq]
        rw [if_pos (by omega), if_pos h0, if_pos (by omega), if_neg hm]
      · simp only [impl_SumMeasures.l0, iIsMeasure, Option.bind_some, decide_eq_true_eq]
        rw [if_pos (by omega), if_pos h0, if_pos (by omega), if_neg hm]

theorem FnExactSumMeasures : laws_FnExactSumMeasures.Pure := by
  intro l _ _ _
  refine Ev.rounds (r := true) ?_
  unfold laws_FnExactSumMeasures.f
  by_cases hb : (l.length : Int) > 1048576
  · simp only [if_pos hb]
    exact Ev.now _
  · simp only [if_neg hb]
    have ht := toIntS_ev l (by omega)
    obtain ⟨r, h1, h2⟩ := sum_both l (by omega) l.length 0 0 (by omega) (by omega)
    refine Ev.bind ht (Ev.bind h1 (Ev.bind ht (Ev.bind h2 ?_)))
    simp only [if_true, bne_self_eq_false]
    refine Ev.succ' ?_
    simp only [laws_FnExactSumMeasures.j0, Bool.false_eq_true, if_false]
    refine Ev.bind ht (Ev.bind (eqIntS_ev l (by omega)) ?_)
    simp only [if_true]
    exact Ev.now _

end Go.Proofs.Ythpjljgcpgapbaa.Pure
