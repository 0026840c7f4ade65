/- The plain law behind FnExactLiftFor: for every input that the row lets in, the printed function of the law answers true. No condition beyond the bounds that the statement names. -/
import Derived.Test.YthpjljgcpgapbaaPFnExactLiftForx2
namespace Go.Proofs.Ythpjljgcpgapbaa.Pure
open Go.RowKit Go.Proofs.Ythpjljgcpgapbaa.PFnExactLiftFor Go.Proofs.YthpjljgcpgapbaaW.PrintWords Go.Proofs.YthpjljgcpgapbaaW.PrintLast
set_option linter.unusedVariables false
set_option linter.unusedSimpArgs false

theorem w64 {x : Int} (h0 : -9223372036854775808 ≤ x) (h1 : x ≤ 9223372036854775807) : wrap64 x = x := by unfold wrap64; omega
theorem wfb {a : Int} (h : (Lit.int .i64 a).wf = true) : -9223372036854775808 ≤ a ∧ a ≤ 9223372036854775807 := by
  simp [Lit.wf, IntKind.min, IntKind.max, IntKind.signed, IntKind.bits] at h
  omega
theorem Ev.succ' {α : Type} {g : Nat → Option α} {r : α} (h : Ev (fun k => g (k + 1)) r) : Ev g r := Ev.step (fun _ => rfl) h
theorem dec_congr {p q : Prop} [Decidable p] [Decidable q] (h : p ↔ q) : decide p = decide q := by simp [h]

theorem iWithin (a b c : Int) : impl_isWithin.f a b c = some (decide (b ≤ a ∧ a ≤ c)) := by
  unfold impl_isWithin.f
  split <;> simp <;> omega

theorem sIsHeading (x : Int) : spec_IsHeading.f x = some (decide (0 ≤ x ∧ x ≤ 3)) := by
  unfold spec_IsHeading.f
  split <;> simp <;> omega

theorem iIsHeading (x : Int) : impl_IsHeading.f x = some (decide (0 ≤ x ∧ x ≤ 3)) := by
  unfold impl_IsHeading.f
  rw [iWithin]
  rfl

def JetOK (x y h t l : Int) : Prop := (-1024 ≤ x ∧ x ≤ 1024) ∧ (-1024 ≤ y ∧ y ≤ 1024) ∧ (0 ≤ h ∧ h ≤ 3) ∧ (0 ≤ t ∧ t ≤ 16) ∧ (1 ≤ l ∧ l ≤ 32)
instance (x y h t l : Int) : Decidable (JetOK x y h t l) := by unfold JetOK; infer_instance

theorem sIn (a b c : Int) : spec_l1In.f a b c = some (decide (b ≤ a ∧ a ≤ c)) := by
  unfold spec_l1In.f
  split <;> simp <;> omega

theorem sIsJet (x y h t l : Int) : spec_IsJet.f x y h t l = some (decide (JetOK x y h t l)) := by
  unfold spec_IsJet.f
  simp only [JetOK]
  simp only [sIn, sIsHeading, Option.bind_some]
  by_cases h1 : -1024 ≤ x ∧ x ≤ 1024 <;> by_cases h2 : -1024 ≤ y ∧ y ≤ 1024 <;> by_cases h3 : 0 ≤ h ∧ h ≤ 3 <;> by_cases h4 : 0 ≤ t ∧ t ≤ 16 <;> simp [h1, h2, h3, h4]

theorem iIsJet (x y h t l : Int) : impl_IsJet.f x y h t l = some (decide (JetOK x y h t l)) := by
  unfold impl_IsJet.f
  simp only [JetOK]
  simp only [iWithin, iIsHeading, Option.bind_some]
  by_cases h1 : -1024 ≤ x ∧ x ≤ 1024 <;> by_cases h2 : -1024 ≤ y ∧ y ≤ 1024 <;> by_cases h3 : 0 ≤ h ∧ h ≤ 3 <;> by_cases h4 : 0 ≤ t ∧ t ≤ 16 <;> simp [h1, h2, h3, h4]

theorem tmod_pos {a b : Int} (h : 0 ≤ a) : Int.tmod a b = a % b := Int.tmod_eq_emod_of_nonneg h
theorem tmod_neg' (a b : Int) : Int.tmod (-a) b = -(Int.tmod a b) := Int.neg_tmod a b
theorem tdiv_pos {a b : Int} (h : 0 ≤ a) : Int.tdiv a b = a / b := Int.tdiv_eq_ediv_of_nonneg h
theorem tmod4 (n : Int) : (Int.tmod n 4 < 0 → Int.tmod n 4 + 4 = n % 4) ∧ (¬ Int.tmod n 4 < 0 → Int.tmod n 4 = n % 4) ∧ -3 ≤ Int.tmod n 4 ∧ Int.tmod n 4 ≤ 3 := by
  rcases Int.le_total 0 n with h | h
  · rw [tmod_pos h]; omega
  · obtain ⟨m, rfl⟩ : ∃ m, n = -m := ⟨-n, by omega⟩
    rw [tmod_neg', tmod_pos (by omega)]; omega

def flV (x y h t l : Int) : Int := if JetOK x y h t l then l + 1 else 0
theorem pb {t u : Int} (ht : 0 ≤ t ∧ t ≤ 1000) (hu : 0 ≤ u ∧ u ≤ 1000) : 0 ≤ t * u ∧ t * u ≤ 1000000 :=
  ⟨Int.mul_nonneg ht.1 hu.1, by have := Int.mul_le_mul ht.2 hu.2 hu.1 (by omega : (0 : Int) ≤ 1000); omega⟩

theorem iFlight (x y h t l : Int) : impl_FlightOf.f x y h t l = some (flV x y h t l) := by
  unfold impl_FlightOf.f flV
  simp only [iIsJet, Option.bind_some]
  by_cases hj : JetOK x y h t l
  · have := hj
    unfold JetOK at this
    rw [w64 (by omega) (by omega)]
    simp [hj]
  · simp [hj]

theorem flight_loop (l : Int) (hl : 1 ≤ l ∧ l ≤ 32) (d : Nat) : ∀ t : Int, 1 ≤ t → l + 1 - t = d → Ev (fun k => spec_FlightOf.l0 k t (t * (l + 1 - t)) (l - 2 * t)) (l + 1) := by
  induction d with
  | zero =>
    intro t h1 hd
    have e : l + 1 - t = 0 := by omega
    refine Ev.step (f := fun _ => some (l + 1)) (fun k => ?_) (Ev.now _)
    simp only [spec_FlightOf.l0]
    rw [e, if_neg (by omega)]
    congr 1; omega
  | succ d ih =>
    intro t h1 hd
    have hp : 0 < t * (l + 1 - t) := Int.mul_pos (by omega) (by omega)
    have hb := pb (t := t) (u := l + 1 - t) (by omega) (by omega)
    have hs : t * (l + 1 - t) + (l - 2 * t) = (t + 1) * (l + 1 - (t + 1)) := by grind
    have hb2 := pb (t := t + 1) (u := l + 1 - (t + 1)) (by omega) (by omega)
    refine Ev.step (fun k => ?_) (ih (t + 1) (by omega) (by omega))
    simp only [spec_FlightOf.l0]
    rw [if_pos hp, w64 (x := t + 1) (by omega) (by omega), hs, w64 (x := (t + 1) * _) (by omega) (by omega), w64 (x := l - 2 * t - 2) (by omega) (by omega), show l - 2 * t - 2 = l - 2 * (t + 1) by omega]
theorem sFlight (x y h t l : Int) : Ev (fun k => spec_FlightOf.f k x y h t l) (flV x y h t l) := by
  unfold spec_FlightOf.f flV
  simp only [sIsJet, Option.bind_some]
  by_cases hj : JetOK x y h t l
  · simp only [hj, decide_true, if_true]
    unfold JetOK at hj
    rw [w64 (by omega) (by omega)]
    have := flight_loop l (by omega) l.toNat 1 (by omega) (by omega)
    rw [show (1 : Int) * (l + 1 - 1) = l by omega, show l - 2 * 1 = l - 2 by omega] at this
    exact this
  · simp only [hj, decide_false, if_false, Bool.false_eq_true]
    exact Ev.now _

def htV (x y h t l T : Int) : Int := if JetOK x y h t l ∧ 0 ≤ T ∧ T ≤ l + 1 then T * (l + 1 - T) else 0

theorem height_loop (x y h t l : Int) (hl : 1 ≤ l ∧ l ≤ 32) (T : Int) (hT : T ≤ l + 1) (d : Nat) : ∀ i : Int, 0 ≤ i → T - i = d → Ev (fun k => spec_HeightAt.l0 k T (i * (l + 1 - i)) i x y h t l) (T * (l + 1 - T)) := by
  induction d with
  | zero =>
    intro i h0 hd
    have e : i = T := by omega
    subst e
    refine Ev.step (f := fun _ => some _) (fun k => ?_) (Ev.now _)
    simp only [spec_HeightAt.l0]
    rw [if_neg (by omega)]
  | succ d ih =>
    intro i h0 hd
    have hb := pb (t := i) (u := l + 1 - i) (by omega) (by omega)
    have hs : i * (l + 1 - i) + l - 2 * i = (i + 1) * (l + 1 - (i + 1)) := by grind
    have hb2 := pb (t := i + 1) (u := l + 1 - (i + 1)) (by omega) (by omega)
    refine Ev.step (fun k => ?_) (ih (i + 1) (by omega) (by omega))
    simp only [spec_HeightAt.l0]
    rw [if_pos (by omega), w64 (x := i * (l + 1 - i) + l) (by omega) (by omega), w64 (x := 2 * i) (by omega) (by omega), hs, w64 (x := (i + 1) * _) (by omega) (by omega), w64 (x := i + 1) (by omega) (by omega)]
theorem sHeight (x y h t l T : Int) : Ev (fun k => spec_HeightAt.f k x y h t l T) (htV x y h t l T) := by
  unfold spec_HeightAt.f
  refine Ev.bind (sFlight x y h t l) ?_
  unfold htV flV
  by_cases hj : JetOK x y h t l
  · rw [if_pos hj]
    have hj' := hj
    unfold JetOK at hj'
    by_cases h1 : T > l + 1
    · simp only [if_pos h1]
      rw [if_neg (by omega)]
      exact Ev.now _
    · simp only [if_neg h1]
      by_cases h0 : 0 ≤ T
      · rw [if_pos ⟨hj, h0, by omega⟩]
        have := height_loop x y h t l (by omega) T (by omega) T.toNat 0 (by omega) (by omega)
        rw [Int.zero_mul] at this
        exact this
      · rw [if_neg (by omega)]
        refine Ev.step (f := fun _ => some 0) (fun k => ?_) (Ev.now _)
        simp only [spec_HeightAt.l0]
        rw [if_neg (by omega)]
  · rw [if_neg hj]
    simp only [hj, false_and, if_false]
    by_cases h1 : T > 0
    · simp only [if_pos h1]
      exact Ev.now _
    · simp only [if_neg h1]
      refine Ev.step (f := fun _ => some 0) (fun k => ?_) (Ev.now _)
      simp only [spec_HeightAt.l0]
      rw [if_neg (by omega)]

theorem iAir (x y h t l T : Int) : impl_isInAir.f x y h t l T = some (decide (JetOK x y h t l ∧ 0 ≤ T ∧ T ≤ l + 1)) := by
  unfold impl_isInAir.f
  simp only [iIsJet, iFlight, iWithin, Option.bind_some, flV]
  by_cases hj : JetOK x y h t l <;> simp [hj]
theorem iHeight (x y h t l T : Int) : impl_HeightAt.f x y h t l T = some (htV x y h t l T) := by
  unfold impl_HeightAt.f htV
  simp only [iAir, Option.bind_some]
  by_cases hj : JetOK x y h t l ∧ 0 ≤ T ∧ T ≤ l + 1
  · have hj' := hj
    unfold JetOK at hj'
    have hb := pb (t := T) (u := l + 1 - T) (by omega) (by omega)
    rw [w64 (x := l + 1) (by omega) (by omega), w64 (x := l + 1 - T) (by omega) (by omega), w64 (x := T * _) (by omega) (by omega), if_pos (by simpa using hj), if_pos hj]
  · rw [if_neg (by simpa using hj), if_neg hj]

def pkV (x y h t l : Int) : Int × Int := if JetOK x y h t l then ((l + 1) / 2, ((l + 1) / 2) * (l + 1 - (l + 1) / 2)) else (0, 0)

theorem iPeak (x y h t l : Int) : impl_PeakOf.f x y h t l = some (pkV x y h t l) := by
  unfold impl_PeakOf.f pkV
  simp only [iFlight, iHeight, Option.bind_some, flV, htV]
  by_cases hj : JetOK x y h t l
  · have hj' := hj
    unfold JetOK at hj'
    simp only [hj, if_true, true_and]
    rw [tdiv_pos (by omega), w64 (by omega) (by omega), if_pos (by omega)]
  · simp only [hj, if_false, false_and]
    simp [wrap64]

theorem peak_id (l T : Int) : T * (l + 1 - T) - (T - 1) * (l + 1 - (T - 1)) = l + 2 - 2 * T := by grind
theorem peak_id2 (l m T : Int) : m * (l + 1 - m) - T * (l + 1 - T) = (T - m) * (T + m - (l + 1)) := by grind
theorem peak_loop (x y h t l : Int) (hj : JetOK x y h t l) (d : Nat) : ∀ T a : Int, 1 ≤ T → l + 2 - T = d → a = (if T - 1 ≤ (l + 1) / 2 then T - 1 else (l + 1) / 2) → Ev (fun k => spec_PeakOf.l0 k a T x y h t l) ((l + 1) / 2, ((l + 1) / 2) * (l + 1 - (l + 1) / 2)) := by
  have hj' := hj
  unfold JetOK at hj'
  have hf := sFlight x y h t l
  rw [show flV x y h t l = l + 1 by unfold flV; rw [if_pos hj]] at hf
  have hh : ∀ T : Int, 0 ≤ T → T ≤ l + 1 → Ev (fun k => spec_HeightAt.f k x y h t l T) (T * (l + 1 - T)) := fun T h0 h1 => by
    have := sHeight x y h t l T
    rwa [show htV x y h t l T = T * (l + 1 - T) by unfold htV; rw [if_pos ⟨hj, h0, h1⟩]] at this
  induction d with
  | zero =>
    intro T a h1 hd ha
    have ha : a = (l + 1) / 2 := by
      rw [ha]
      split <;> omega
    subst ha
    refine Ev.succ' ?_
    simp only [spec_PeakOf.l0]
    refine Ev.bind hf ?_
    simp only [if_neg (show ¬ T ≤ l + 1 by omega)]
    exact Ev.bind (hh _ (by omega) (by omega)) (Ev.now _)
  | succ d ih =>
    intro T a h1 hd ha
    refine Ev.succ' ?_
    simp only [spec_PeakOf.l0]
    refine Ev.bind hf ?_
    simp only [if_pos (show T ≤ l + 1 by omega)]
    have ha0 : 0 ≤ a ∧ a ≤ l + 1 := by rw [ha]; split <;> omega
    refine Ev.bind (hh T (by omega) (by omega)) (Ev.bind (hh a ha0.1 ha0.2) ?_)
    rw [w64 (x := T + 1) (by omega) (by omega)]
    by_cases hc : T ≤ (l + 1) / 2
    · rw [if_pos (by omega)] at ha
      subst ha
      have := peak_id l T
      simp only [if_pos (show T * (l + 1 - T) > (T - 1) * (l + 1 - (T - 1)) by omega)]
      exact ih (T + 1) T (by omega) (by omega) (by rw [if_pos (by omega)]; omega)
    · have ha : a = (l + 1) / 2 := by
        rw [ha]
        split <;> omega
      subst ha
      have h2 := peak_id2 l ((l + 1) / 2) T
      have h3 : 0 ≤ (T - (l + 1) / 2) * (T + (l + 1) / 2 - (l + 1)) := Int.mul_nonneg (by omega) (by omega)
      simp only [if_neg (show ¬ T * (l + 1 - T) > (l + 1) / 2 * (l + 1 - (l + 1) / 2) by omega)]
      exact ih (T + 1) _ (by omega) (by omega) (by rw [if_neg (by omega)])
theorem sPeak (x y h t l : Int) : Ev (fun k => spec_PeakOf.f k x y h t l) (pkV x y h t l) := by
  unfold spec_PeakOf.f pkV
  by_cases hj : JetOK x y h t l
  · rw [if_pos hj]
    have hj' := hj
    unfold JetOK at hj'
    exact peak_loop x y h t l hj (l + 1).toNat 1 0 (by omega) (by omega) (by rw [if_pos (by omega)]; omega)
  · rw [if_neg hj]
    have hf := sFlight x y h t l
    rw [show flV x y h t l = 0 by unfold flV; rw [if_neg hj]] at hf
    refine Ev.succ' ?_
    simp only [spec_PeakOf.l0]
    refine Ev.bind hf ?_
    simp only [if_neg (show ¬ (1 : Int) ≤ 0 by omega)]
    have hh := sHeight x y h t l 0
    rw [show htV x y h t l 0 = 0 by unfold htV; split <;> omega] at hh
    exact Ev.bind hh (Ev.now _)

theorem iLift_step (H l : Int) (hl : 1 ≤ l ∧ l ≤ 32) (r : Int × Bool) (h : Ev (fun k => if (pkV 0 0 0 0 l).2 ≥ H then some (l, true) else impl_LiftFor.l0 k H (l + 1)) r) : Ev (fun k => impl_LiftFor.l0 k H l) r := by
  refine Ev.step (fun k => ?_) h
  simp only [impl_LiftFor.l0, iPeak, Option.bind_some]
  rw [if_pos (by omega), w64 (by omega) (by omega)]
theorem iLift_end (H : Int) : Ev (fun k => impl_LiftFor.l0 k H 33) (0, false) := by
  refine Ev.step (f := fun _ => some (0, false)) (fun k => ?_) (Ev.now _)
  simp only [impl_LiftFor.l0]
  rw [if_neg (by omega)]

theorem sLift_step (H l : Int) (hH : 0 ≤ H) (hl : 1 ≤ l ∧ l ≤ 32) (r : Int × Bool) (h : Ev (fun k => if (pkV 0 0 0 0 l).2 ≥ H then some (l, true) else spec_LiftFor.l0 k H (l + 1)) r) : Ev (fun k => spec_LiftFor.l0 k H l) r := by
  refine Ev.step (f := fun k => spec_LiftFor.j1 k H l true) (fun k => ?_) (Ev.step (f := fun k => (spec_PeakOf.f k 0 0 0 0 l).bind fun bt => if bt.2 ≥ H then some (l, true) else spec_LiftFor.l0 k H (l + 1)) (fun k => ?_) (Ev.bind (sPeak 0 0 0 0 l) h))
  · simp only [spec_LiftFor.l0]
    rw [if_pos (by omega), show decide (H ≥ 0) = true by simpa using hH]
  · simp only [spec_LiftFor.j1, if_true]
    rw [w64 (by omega) (by omega)]
theorem sLift_end (H : Int) : Ev (fun k => spec_LiftFor.l0 k H 33) (0, false) := by
  refine Ev.step (f := fun k => spec_LiftFor.j1 k H 33 false) (fun k => ?_) (Ev.step (f := fun _ => some (0, false)) (fun k => ?_) (Ev.now _))
  · simp only [spec_LiftFor.l0]
    rw [if_neg (by omega)]
  · simp only [spec_LiftFor.j1, Bool.false_eq_true, if_false]
theorem sLift_neg (H : Int) (hH : H < 0) : Ev (fun k => spec_LiftFor.l0 k H 1) (0, false) := by
  refine Ev.step (f := fun k => spec_LiftFor.j1 k H 1 false) (fun k => ?_) (Ev.step (f := fun _ => some (0, false)) (fun k => ?_) (Ev.now _))
  · simp only [spec_LiftFor.l0]
    rw [if_pos (by omega), show decide (H ≥ 0) = false by simpa using hH]
  · simp only [spec_LiftFor.j1, Bool.false_eq_true, if_false]

theorem lift_both (H : Int) (hH : 0 ≤ H) (d : Nat) : ∀ l : Int, 1 ≤ l → 33 - l = d → ∃ r, Ev (fun k => spec_LiftFor.l0 k H l) r ∧ Ev (fun k => impl_LiftFor.l0 k H l) r := by
  induction d with
  | zero =>
    intro l h1 hd
    obtain rfl : l = 33 := by omega
    exact ⟨_, sLift_end H, iLift_end H⟩
  | succ d ih =>
    intro l h1 hd
    by_cases hc : (pkV 0 0 0 0 l).2 ≥ H
    · refine ⟨(l, true), sLift_step H l hH (by omega) _ ?_, iLift_step H l (by omega) _ ?_⟩
      · simp only [if_pos hc]; exact Ev.now _
      · simp only [if_pos hc]; exact Ev.now _
    · obtain ⟨r, h2, h3⟩ := ih (l + 1) (by omega) (by omega)
      refine ⟨r, sLift_step H l hH (by omega) _ ?_, iLift_step H l (by omega) _ ?_⟩
      · simp only [if_neg hc]; exact h2
      · simp only [if_neg hc]; exact h3

theorem FnExactLiftFor : laws_FnExactLiftFor.Pure := by
  intro H _
  refine Ev.rounds (r := true) ?_
  unfold laws_FnExactLiftFor.f spec_LiftFor.f impl_LiftFor.f
  have key : ∃ r, Ev (fun k => spec_LiftFor.l0 k H 1) r ∧ Ev (fun k => if H < 0 then some (0, false) else impl_LiftFor.l0 k H 1) r := by
    by_cases hH : H < 0
    · refine ⟨_, sLift_neg H hH, ?_⟩
      simp only [if_pos hH]
      exact Ev.now _
    · obtain ⟨r, h1, h2⟩ := lift_both H (by omega) 32 1 (by omega) (by omega)
      refine ⟨r, h1, ?_⟩
      simp only [if_neg hH]
      exact h2
  obtain ⟨r, h1, h2⟩ := key
  refine Ev.bind h1 (Ev.bind h2 ?_)
  simp only [if_true, bne_self_eq_false]
  exact Ev.now _

end Go.Proofs.Ythpjljgcpgapbaa.Pure
