/- The plain law behind FnExactShiftJet: for every input that the row lets in, the printed function of the law answers true. No condition beyond the bounds that the statement names. -/
import Derived.Test.YthpjljgcpgapbaaQFnExactShiftJet
namespace Go.Proofs.Ythpjljgcpgapbaa.Pure
open Go.RowKit Go.Proofs.Ythpjljgcpgapbaa.PFnExactShiftJet Go.Proofs.YthpjljgcpgapbaaW.PrintWords Go.Proofs.YthpjljgcpgapbaaW.PrintLast
set_option linter.unusedVariables false
set_option linter.unusedSimpArgs false

theorem w64 {x : Int} (h0 : -9223372036854775808 ≤ x) (h1 : x ≤ 9223372036854775807) : wrap64 x = x := by unfold wrap64; omega
theorem wfb {a : Int} (h : (Lit.int .i64 a).wf = true) : -9223372036854775808 ≤ a ∧ a ≤ 9223372036854775807 := by
  simp [Lit.wf, IntKind.min, IntKind.max, IntKind.signed, IntKind.bits] at h
  omega
theorem Ev.succ' {α : Type} {g : Nat → Option α} {r : α} (h : Ev (fun k => g (k + 1)) r) : Ev g r := Ev.step (fun _ => rfl) h
theorem dec_congr {p q : Prop} [Decidable p] [Decidable q] (h : p ↔ q) : decide p = decide q := by simp [h]

theorem sIsMeasure (x : Int) : spec_IsMeasure.f x = some (decide (-4096 ≤ x ∧ x ≤ 4096)) := by
  unfold spec_IsMeasure.f
  split <;> simp <;> omega

theorem iWithin (a b c : Int) : impl_isWithin.f a b c = some (decide (b ≤ a ∧ a ≤ c)) := by
  unfold impl_isWithin.f
  split <;> simp <;> omega

theorem iIsMeasure (x : Int) : impl_IsMeasure.f x = some (decide (-4096 ≤ x ∧ x ≤ 4096)) := by
  unfold impl_IsMeasure.f
  rw [iWithin]
  rfl

theorem sIsHeading (x : Int) : spec_IsHeading.f x = some (decide (0 ≤ x ∧ x ≤ 3)) := by
  unfold spec_IsHeading.f
  split <;> simp <;> omega

theorem iIsHeading (x : Int) : impl_IsHeading.f x = some (decide (0 ≤ x ∧ x ≤ 3)) := by
  unfold impl_IsHeading.f
  rw [iWithin]
  rfl

theorem sIsPlace (x y : Int) : spec_IsPlace.f x y = some (decide ((-4096 ≤ x ∧ x ≤ 4096) ∧ (-4096 ≤ y ∧ y ≤ 4096))) := by
  unfold spec_IsPlace.f
  simp only [sIsMeasure, Option.bind_some]
  split <;> rename_i h <;> simp at h ⊢ <;> omega

theorem iIsPlace (x y : Int) : impl_IsPlace.f x y = some (decide ((-4096 ≤ x ∧ x ≤ 4096) ∧ (-4096 ≤ y ∧ y ≤ 4096))) := by
  unfold impl_IsPlace.f
  simp only [iIsMeasure, Option.bind_some]
  split <;> rename_i h <;> simp at h ⊢ <;> omega

def JetOK (x y h t l : Int) : Prop := (-1024 ≤ x ∧ x ≤ 1024) ∧ (-1024 ≤ y ∧ y ≤ 1024) ∧ (0 ≤ h ∧ h ≤ 3) ∧ (0 ≤ t ∧ t ≤ 16) ∧ (1 ≤ l ∧ l ≤ 32)
instance (x y h t l : Int) : Decidable (JetOK x y h t l) := by unfold JetOK; infer_instance

theorem sIn (a b c : Int) : spec_l1In.f a b c = some (decide (b ≤ a ∧ a ≤ c)) := by
  unfold spec_l1In.f
  split <;> simp <;> omega

theorem sIsJet (x y h t l : Int) : spec_IsJet.f x y h t l = some (decide (JetOK x y h t l)) := by
  unfold spec_IsJet.f
  simp only [JetOK]
  simp only [sIn, sIsHeading, Option.bind_some]
  by_cases h1 : -1024 ≤ x ∧ x ≤ 1024 <;> by_cases h2 : -1024 ≤ y ∧ y ≤ 1024 <;> by_cases h3 : 0 ≤ h ∧ h ≤ 3 <;> by_cases h4 : 0 ≤ t ∧ t ≤ 16 <;> simp [h1, h2, h3, h4]

theorem iIsJet (x y h t l : Int) : impl_IsJet.f x y h t l = some (decide (JetOK x y h t l)) := by
  unfold impl_IsJet.f
  simp only [JetOK]
  simp only [iWithin, iIsHeading, Option.bind_some]
  by_cases h1 : -1024 ≤ x ∧ x ≤ 1024 <;> by_cases h2 : -1024 ≤ y ∧ y ≤ 1024 <;> by_cases h3 : 0 ≤ h ∧ h ≤ 3 <;> by_cases h4 : 0 ≤ t ∧ t ≤ 16 <;> simp [h1, h2, h3, h4]

theorem toP (x y : Int) : laws_toPlace.f x y = some (x, y) := rfl

theorem toJ (x y h t l : Int) : laws_toJet.f x y h t l = some (x, y, h, t, l) := rfl

def PL (x y : Int) : Prop := (-4096 ≤ x ∧ x ≤ 4096) ∧ (-4096 ≤ y ∧ y ≤ 4096)
instance (x y : Int) : Decidable (PL x y) := by unfold PL; infer_instance

theorem sPL (x y : Int) : spec_IsPlace.f x y = some (decide (PL x y)) := sIsPlace x y

theorem iPL (x y : Int) : impl_IsPlace.f x y = some (decide (PL x y)) := iIsPlace x y

def chk (x y : Int) : Int × Int × Bool := if PL x y then (x, y, true) else (0, 0, false)

theorem iChk (x y : Int) : impl_checked.f x y = some (chk x y) := by
  unfold impl_checked.f chk
  simp only [iPL, Option.bind_some]
  by_cases h : PL x y <;> simp [h]

def addV (x y u v : Int) : Int × Int × Bool := if PL x y ∧ PL u v then chk (x + u) (y + v) else (0, 0, false)

theorem iAdd (x y u v : Int) : impl_AddPlaces.f x y u v = some (addV x y u v) := by
  unfold impl_AddPlaces.f addV
  simp only [iPL, iChk, Option.bind_some]
  by_cases h : PL x y
  · by_cases h2 : PL u v
    · rw [w64 (x := x + u) (by unfold PL at h h2; omega) (by unfold PL at h h2; omega), w64 (x := y + v) (by unfold PL at h h2; omega) (by unfold PL at h h2; omega)]
      simp [h, h2]
    · simp [h, h2]
  · simp [h]

theorem sl2Add (x y u v : Int) : spec_l2Add.f x y u v = some (wrap64 (x + u), wrap64 (y + v)) := rfl

theorem eqP (x y : Int) : laws_eqPlace.f x y x y = some true := by
  unfold laws_eqPlace.f
  simp

def shV (x y h t l u v : Int) : Int × Int × Int × Int × Int × Bool := if JetOK x y h t l ∧ PL u v ∧ JetOK (x + u) (y + v) h t l then (x + u, y + v, h, t, l, true) else (0, 0, 0, 0, 0, false)

theorem sShift (x y h t l u v : Int) : spec_ShiftJet.f x y h t l u v = some (shV x y h t l u v) := by
  unfold spec_ShiftJet.f shV
  simp only [sPL, sIsJet, sl2Add, Option.bind_some]
  by_cases h1 : JetOK x y h t l
  · by_cases h2 : PL u v
    · have h1' := h1
      have h2' := h2
      unfold JetOK at h1'
      unfold PL at h2'
      rw [w64 (x := x + u) (by omega) (by omega), w64 (x := y + v) (by omega) (by omega)]
      by_cases h3 : JetOK (x + u) (y + v) h t l <;> simp [h1, h2, h3]
    · simp [h1, h2]
  · simp [h1]

theorem iShift (x y h t l u v : Int) : impl_ShiftJet.f x y h t l u v = some (shV x y h t l u v) := by
  unfold impl_ShiftJet.f shV
  simp only [iAdd, iIsJet, Option.bind_some]
  by_cases h1 : JetOK x y h t l
  · have h1' := h1
    unfold JetOK at h1'
    have hp : PL x y := by unfold PL; omega
    by_cases h2 : PL u v
    · have e : addV x y u v = chk (x + u) (y + v) := by unfold addV; rw [if_pos ⟨hp, h2⟩]
      rw [e]
      unfold chk
      by_cases h3 : JetOK (x + u) (y + v) h t l
      · have h3' := h3
        unfold JetOK at h3'
        rw [if_pos (show PL (x + u) (y + v) by unfold PL; omega)]
        simp [h1, h2, h3]
      · by_cases h4 : PL (x + u) (y + v)
        · rw [if_pos h4]; simp [h1, h3]
        · rw [if_neg h4]; simp [h3]
    · have e : addV x y u v = (0, 0, false) := by unfold addV; rw [if_neg (by simp [h2])]
      rw [e]; simp [h2]
  · simp only [h1, decide_false, false_and, if_false, Bool.false_eq_true]
    split <;> rfl

theorem eqJ (x y h t l : Int) : laws_eqJet.f x y h t l x y h t l = some true := by
  unfold laws_eqJet.f
  simp [eqP]

theorem FnExactShiftJet : ∀ (a0_0 : Int) (a0_1 : Int) (a0_2 : Int) (a0_3 : Int) (a0_4 : Int) (a1_0 : Int) (a1_1 : Int), (Lit.int .i64 a0_0).wf = true → (Lit.int .i64 a0_1).wf = true → (Lit.int .i64 a0_2).wf = true → (Lit.int .i64 a0_3).wf = true → (Lit.int .i64 a0_4).wf = true → (Lit.int .i64 a1_0).wf = true → (Lit.int .i64 a1_1).wf = true → laws_FnExactShiftJet.f a0_0 a0_1 a0_2 a0_3 a0_4 a1_0 a1_1 = some true := by
  intro x y h t l u v _ _ _ _ _ _ _
  unfold laws_FnExactShiftJet.f
  simp only [toJ, toP, sShift, iShift, eqJ, Option.bind_some]
  simp

end Go.Proofs.Ythpjljgcpgapbaa.Pure
