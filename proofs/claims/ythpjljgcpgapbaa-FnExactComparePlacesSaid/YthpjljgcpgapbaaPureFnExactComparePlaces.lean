/- The plain law behind FnExactComparePlaces: for every input that the row lets in, the printed function of the law answers true. No condition beyond the bounds that the statement names. -/
import Derived.Test.YthpjljgcpgapbaaPFnExactComparePlacesx3
namespace Go.Proofs.Ythpjljgcpgapbaa.Pure
open Go.RowKit Go.Proofs.Ythpjljgcpgapbaa.PFnExactComparePlaces Go.Proofs.YthpjljgcpgapbaaW.PrintWords Go.Proofs.YthpjljgcpgapbaaW.PrintLast
set_option linter.unusedVariables false
set_option linter.unusedSimpArgs false

theorem w64 {x : Int} (h0 : -9223372036854775808 ≤ x) (h1 : x ≤ 9223372036854775807) : wrap64 x = x := by unfold wrap64; omega
theorem wfb {a : Int} (h : (Lit.int .i64 a).wf = true) : -9223372036854775808 ≤ a ∧ a ≤ 9223372036854775807 := by
  simp [Lit.wf, IntKind.min, IntKind.max, IntKind.signed, IntKind.bits] at h
  omega
theorem Ev.succ' {α : Type} {g : Nat → Option α} {r : α} (h : Ev (fun k => g (k + 1)) r) : Ev g r := Ev.step (fun _ => rfl) h
theorem dec_congr {p q : Prop} [Decidable p] [Decidable q] (h : p ↔ q) : decide p = decide q := by simp [h]

theorem toP (x y : Int) : laws_toPlace.f x y = some (x, y) := rfl

def cmpV (x y u v : Int) : Int := if x < u ∨ x = u ∧ y < v then -1 else if x = u ∧ y = v then 0 else 1

theorem sCmp (x y u v : Int) : Ev (fun k => spec_ComparePlaces.f k x y u v) (cmpV x y u v) := by
  have hj : ∀ b : Bool, b = decide (x < u ∨ x = u ∧ y < v) → Ev (fun k => spec_ComparePlaces.j0 k b x y u v) (cmpV x y u v) := fun b hb => by
    refine Ev.step (f := fun _ => some (cmpV x y u v)) (fun k => ?_) (Ev.now _)
    simp only [spec_ComparePlaces.j0, hb, cmpV]
    by_cases h1 : x < u ∨ x = u ∧ y < v
    · simp [h1]
    · by_cases h2 : x = u ∧ y = v <;> simp [h1, h2]
  unfold spec_ComparePlaces.f
  by_cases h1 : x < u
  · simp only [if_pos h1]
    exact hj _ (by simp [h1])
  · simp only [if_neg h1]
    by_cases h2 : x = u
    · simp only [if_pos h2]
      exact hj _ (by simp [h2])
    · simp only [if_neg h2]
      exact hj _ (by simp [h1, h2])

def c3 (a b : Int) : Int := if a < b then -1 else if a > b then 1 else 0
theorem icmp3 (a b : Int) : cmp_Compare_int.f a b = some (c3 a b) := by
  unfold cmp_Compare_int.f cmp_isNaN_int.f c3
  simp
  split
  · rfl
  · split <;> rfl
theorem iOr (a b : Int) : Ev (fun k => cmp_Or_int.f k [a, b]) (if a = 0 then b else a) := by
  unfold cmp_Or_int.f
  by_cases ha : a = 0
  · rw [if_pos ha]
    refine Ev.step (f := fun k => cmp_Or_int.l0 k 0 [a, b] 2 1) (fun k => ?_) ?_
    · simp [cmp_Or_int.l0, rd, ha]
      rw [w64 (by omega) (by omega)]
    · by_cases hb : b = 0
      · refine Ev.step (f := fun k => cmp_Or_int.l0 k 0 [a, b] 2 2) (fun k => ?_) (Ev.step (f := fun _ => some b) (fun k => ?_) (Ev.now _))
        · simp [cmp_Or_int.l0, rd, hb]
          rw [w64 (by omega) (by omega)]
        · simp [cmp_Or_int.l0, hb]
      · refine Ev.step (f := fun _ => some b) (fun k => ?_) (Ev.now _)
        simp [cmp_Or_int.l0, rd, hb]
  · rw [if_neg ha]
    refine Ev.step (f := fun _ => some a) (fun k => ?_) (Ev.now _)
    simp [cmp_Or_int.l0, rd, ha]
theorem iCmp (x y u v : Int) : Ev (fun k => impl_ComparePlaces.f k x y u v) (cmpV x y u v) := by
  unfold impl_ComparePlaces.f
  simp only [icmp3, Option.bind_some]
  have h := iOr (c3 x u) (c3 y v)
  have e : (if c3 x u = 0 then c3 y v else c3 x u) = cmpV x y u v := by
    unfold c3 cmpV
    by_cases h1 : x < u
    · simp [h1]
    · by_cases h2 : x = u
      · subst h2
        by_cases h3 : y < v
        · simp [h3]
        · by_cases h4 : y = v
          · simp [h4]
          · simp [h3, h4, show y > v by omega]
      · simp [h1, h2, show x > u by omega]
  rw [e] at h
  exact Ev.bind h (Ev.now _)

theorem FnExactComparePlaces : ∀ (a0_0 : Int) (a0_1 : Int) (a1_0 : Int) (a1_1 : Int), (Lit.int .i64 a0_0).wf = true → (Lit.int .i64 a0_1).wf = true → (Lit.int .i64 a1_0).wf = true → (Lit.int .i64 a1_1).wf = true → ∃ k, laws_FnExactComparePlaces.f k a0_0 a0_1 a1_0 a1_1 = some true := by
  intro x y u v _ _ _ _
  refine Ev.rounds (r := true) ?_
  unfold laws_FnExactComparePlaces.f
  simp only [toP, Option.bind_some]
  refine Ev.bind (sCmp x y u v) (Ev.bind (iCmp x y u v) ?_)
  simp only [if_true]
  exact Ev.now _

end Go.Proofs.Ythpjljgcpgapbaa.Pure
