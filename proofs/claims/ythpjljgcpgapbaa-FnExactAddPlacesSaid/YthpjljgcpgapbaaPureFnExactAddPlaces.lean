/- The plain law behind FnExactAddPlaces: for every input that the row lets in, the printed function of the law answers true. No condition beyond the bounds that the statement names. -/
import Derived.Test.YthpjljgcpgapbaaQFnExactAddPlaces
namespace Go.Proofs.Ythpjljgcpgapbaa.Pure
open Go.RowKit Go.Proofs.Ythpjljgcpgapbaa.PFnExactAddPlaces Go.Proofs.YthpjljgcpgapbaaW.PrintWords Go.Proofs.YthpjljgcpgapbaaW.PrintLast
set_option linter.unusedVariables false
set_option linter.unusedSimpArgs false

theorem w64 {x : Int} (h0 : -9223372036854775808 ≤ x) (h1 : x ≤ 9223372036854775807) : wrap64 x = x := by unfold wrap64; omega
theorem wfb {a : Int} (h : (Lit.int .i64 a).wf = true) : -9223372036854775808 ≤ a ∧ a ≤ 9223372036854775807 := by
  simp [Lit.wf, IntKind.min, IntKind.max, IntKind.signed, IntKind.bits] at h
  omega
theorem dec_congr {p q : Prop} [Decidable p] [Decidable q] (h : p ↔ q) : decide p = decide q := by simp [h]

theorem sIsMeasure (x : Int) : spec_IsMeasure.f x = some (decide (-4096 ≤ x ∧ x ≤ 4096)) := by
  unfold spec_IsMeasure.f
  split <;> simp <;> omega

theorem iWithin (a b c : Int) : impl_isWithin.f a b c = some (decide (b ≤ a ∧ a ≤ c)) := by
  unfold impl_isWithin.f
  split <;> simp <;> omega

theorem iIsMeasure (x : Int) : impl_IsMeasure.f x = some (decide (-4096 ≤ x ∧ x ≤ 4096)) := by
  unfold impl_IsMeasure.f
  rw [iWithin]
  rfl

theorem sIsPlace (x y : Int) : spec_IsPlace.f x y = some (decide ((-4096 ≤ x ∧ x ≤ 4096) ∧ (-4096 ≤ y ∧ y ≤ 4096))) := by
  unfold spec_IsPlace.f
  simp only [sIsMeasure, Option.bind_some]
  split <;> rename_i h <;> simp at h ⊢ <;> omega

theorem iIsPlace (x y : Int) : impl_IsPlace.f x y = some (decide ((-4096 ≤ x ∧ x ≤ 4096) ∧ (-4096 ≤ y ∧ y ≤ 4096))) := by
  unfold impl_IsPlace.f
  simp only [iIsMeasure, Option.bind_some]
  split <;> rename_i h <;> simp at h ⊢ <;> omega

theorem toP (x y : Int) : laws_toPlace.f x y = some (x, y) := rfl

def PL (x y : Int) : Prop := (-4096 ≤ x ∧ x ≤ 4096) ∧ (-4096 ≤ y ∧ y ≤ 4096)
instance (x y : Int) : Decidable (PL x y) := by unfold PL; infer_instance

theorem sPL (x y : Int) : spec_IsPlace.f x y = some (decide (PL x y)) := sIsPlace x y

theorem iPL (x y : Int) : impl_IsPlace.f x y = some (decide (PL x y)) := iIsPlace x y

def chk (x y : Int) : Int × Int × Bool := if PL x y then (x, y, true) else (0, 0, false)

theorem iChk (x y : Int) : impl_checked.f x y = some (chk x y) := by
  unfold impl_checked.f chk
  simp only [iPL, Option.bind_some]
  by_cases h : PL x y <;> simp [h]

def addV (x y u v : Int) : Int × Int × Bool := if PL x y ∧ PL u v then chk (x + u) (y + v) else (0, 0, false)

theorem iAdd (x y u v : Int) : impl_AddPlaces.f x y u v = some (addV x y u v) := by
  unfold impl_AddPlaces.f addV
  simp only [iPL, iChk, Option.bind_some]
  by_cases h : PL x y
  · by_cases h2 : PL u v
    · rw [w64 (x := x + u) (by unfold PL at h h2; omega) (by unfold PL at h h2; omega), w64 (x := y + v) (by unfold PL at h h2; omega) (by unfold PL at h h2; omega)]
      simp [h, h2]
    · simp [h, h2]
  · simp [h]

theorem sl2Add (x y u v : Int) : spec_l2Add.f x y u v = some (wrap64 (x + u), wrap64 (y + v)) := rfl

theorem sAdd (x y u v : Int) : spec_AddPlaces.f x y u v = some (addV x y u v) := by
  unfold spec_AddPlaces.f addV chk
  simp only [sPL, sl2Add, Option.bind_some]
  by_cases h : PL x y
  · by_cases h2 : PL u v
    · rw [w64 (x := x + u) (by unfold PL at h h2; omega) (by unfold PL at h h2; omega), w64 (x := y + v) (by unfold PL at h h2; omega) (by unfold PL at h h2; omega)]
      by_cases h3 : PL (x + u) (y + v) <;> simp [h, h2, h3]
    · simp [h, h2]
  · simp [h]

theorem eqP (x y : Int) : laws_eqPlace.f x y x y = some true := by
  unfold laws_eqPlace.f
  simp

theorem FnExactAddPlaces : ∀ (a0_0 : Int) (a0_1 : Int) (a1_0 : Int) (a1_1 : Int), (Lit.int .i64 a0_0).wf = true → (Lit.int .i64 a0_1).wf = true → (Lit.int .i64 a1_0).wf = true → (Lit.int .i64 a1_1).wf = true → laws_FnExactAddPlaces.f a0_0 a0_1 a1_0 a1_1 = some true := by
  intro x y u v _ _ _ _
  unfold laws_FnExactAddPlaces.f
  simp only [toP, sAdd, iAdd, eqP, Option.bind_some]
  simp

end Go.Proofs.Ythpjljgcpgapbaa.Pure
