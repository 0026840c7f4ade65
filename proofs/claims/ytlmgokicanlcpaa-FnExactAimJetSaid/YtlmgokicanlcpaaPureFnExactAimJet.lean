/- The plain law behind FnExactAimJet: for every input that the row lets in, the printed function of the law answers true. No condition beyond the bounds that the statement names. -/
import Derived.Test.YtlmgokicanlcpaaQFnExactAimJet
namespace Go.Proofs.Ytlmgokicanlcpaa.Pure
open Go.RowKit Go.Proofs.Ytlmgokicanlcpaa.PFnExactAimJet Go.Proofs.YtlmgokicanlcpaaW.PrintWords Go.Proofs.YtlmgokicanlcpaaW.PrintLast
open Go.Proofs.YtlmgokicanlcpaaW.PrintMore
set_option linter.unusedVariables false
set_option linter.unusedSimpArgs false

theorem w64 {x : Int} (h0 : -9223372036854775808 ≤ x) (h1 : x ≤ 9223372036854775807) : wrap64 x = x := by unfold wrap64; omega
theorem wfb {a : Int} (h : (Lit.int .i64 a).wf = true) : -9223372036854775808 ≤ a ∧ a ≤ 9223372036854775807 := by
  simp [Lit.wf, IntKind.min, IntKind.max, IntKind.signed, IntKind.bits] at h
  omega
theorem Ev.succ' {α : Type} {g : Nat → Option α} {r : α} (h : Ev (fun k => g (k + 1)) r) : Ev g r := Ev.step (fun _ => rfl) h
theorem dec_congr {p q : Prop} [Decidable p] [Decidable q] (h : p ↔ q) : decide p = decide q := by simp [h]

theorem iWithin (a b c : Int) : impl_isWithin.f a b c = some (decide (b ≤ a ∧ a ≤ c)) := by
  unfold impl_isWithin.f
  split <;> simp <;> omega

theorem iIsMeasure (x : Int) : impl_IsMeasure.f x = some (decide (-4096 ≤ x ∧ x ≤ 4096)) := by
  unfold impl_IsMeasure.f
  rw [iWithin]
  rfl

theorem sIsHeading (x : Int) : spec_IsHeading.f x = some (decide (0 ≤ x ∧ x ≤ 3)) := by
  unfold spec_IsHeading.f
  split <;> simp <;> omega

theorem iIsHeading (x : Int) : impl_IsHeading.f x = some (decide (0 ≤ x ∧ x ≤ 3)) := by
  unfold impl_IsHeading.f
  rw [iWithin]
  rfl

theorem iIsPlace (x y : Int) : impl_IsPlace.f x y = some (decide ((-4096 ≤ x ∧ x ≤ 4096) ∧ (-4096 ≤ y ∧ y ≤ 4096))) := by
  unfold impl_IsPlace.f
  simp only [iIsMeasure, Option.bind_some]
  split <;> rename_i h <;> simp at h ⊢ <;> omega

def JetOK (x y h t l : Int) : Prop := (-1024 ≤ x ∧ x ≤ 1024) ∧ (-1024 ≤ y ∧ y ≤ 1024) ∧ (0 ≤ h ∧ h ≤ 3) ∧ (0 ≤ t ∧ t ≤ 16) ∧ (1 ≤ l ∧ l ≤ 32)
instance (x y h t l : Int) : Decidable (JetOK x y h t l) := by unfold JetOK; infer_instance

theorem sIn (a b c : Int) : spec_l1In.f a b c = some (decide (b ≤ a ∧ a ≤ c)) := by
  unfold spec_l1In.f
  split <;> simp <;> omega

theorem sIsJet (x y h t l : Int) : spec_IsJet.f x y h t l = some (decide (JetOK x y h t l)) := by
  unfold spec_IsJet.f
  simp only [JetOK]
  simp only [sIn, sIsHeading, Option.bind_some]
  by_cases h1 : -1024 ≤ x ∧ x ≤ 1024 <;> by_cases h2 : -1024 ≤ y ∧ y ≤ 1024 <;> by_cases h3 : 0 ≤ h ∧ h ≤ 3 <;> by_cases h4 : 0 ≤ t ∧ t ≤ 16 <;> simp [h1, h2, h3, h4]

theorem iIsJet (x y h t l : Int) : impl_IsJet.f x y h t l = some (decide (JetOK x y h t l)) := by
  unfold impl_IsJet.f
  simp only [JetOK]
  simp only [iWithin, iIsHeading, Option.bind_some]
  by_cases h1 : -1024 ≤ x ∧ x ≤ 1024 <;> by_cases h2 : -1024 ≤ y ∧ y ≤ 1024 <;> by_cases h3 : 0 ≤ h ∧ h ≤ 3 <;> by_cases h4 : 0 ≤ t ∧ t ≤ 16 <;> simp [h1, h2, h3, h4]

theorem toP (x y : Int) : laws_toPlace.f x y = some (x, y) := rfl

theorem tmod_pos {a b : Int} (h : 0 ≤ a) : Int.tmod a b = a % b := Int.tmod_eq_emod_of_nonneg h
theorem tmod_neg' (a b : Int) : Int.tmod (-a) b = -(Int.tmod a b) := Int.neg_tmod a b
theorem tdiv_pos {a b : Int} (h : 0 ≤ a) : Int.tdiv a b = a / b := Int.tdiv_eq_ediv_of_nonneg h
theorem tmod4 (n : Int) : (Int.tmod n 4 < 0 → Int.tmod n 4 + 4 = n % 4) ∧ (¬ Int.tmod n 4 < 0 → Int.tmod n 4 = n % 4) ∧ -3 ≤ Int.tmod n 4 ∧ Int.tmod n 4 ≤ 3 := by
  rcases Int.le_total 0 n with h | h
  · rw [tmod_pos h]; omega
  · obtain ⟨m, rfl⟩ : ∃ m, n = -m := ⟨-n, by omega⟩
    rw [tmod_neg', tmod_pos (by omega)]; omega

theorem sMod (n : Int) : spec_l2Mod.f n = some (n % 4) := by
  have h := tmod4 n
  unfold spec_l2Mod.f
  split
  · rw [w64 (by omega) (by omega)]; simp; omega
  · simp; omega

theorem iTurns (n : Int) : impl_turns.f n = some (n % 4) := by
  have h := tmod4 n
  unfold impl_turns.f
  rw [w64 (by omega) (by omega), tmod_pos (by omega)]
  simp
  by_cases h1 : Int.tmod n 4 < 0 <;> omega

def PL (x y : Int) : Prop := (-4096 ≤ x ∧ x ≤ 4096) ∧ (-4096 ≤ y ∧ y ≤ 4096)
instance (x y : Int) : Decidable (PL x y) := by unfold PL; infer_instance

theorem iPL (x y : Int) : impl_IsPlace.f x y = some (decide (PL x y)) := iIsPlace x y

def chk (x y : Int) : Int × Int × Bool := if PL x y then (x, y, true) else (0, 0, false)

theorem iChk (x y : Int) : impl_checked.f x y = some (chk x y) := by
  unfold impl_checked.f chk
  simp only [iPL, Option.bind_some]
  by_cases h : PL x y <;> simp [h]

theorem sl2Add (x y u v : Int) : spec_l2Add.f x y u v = some (wrap64 (x + u), wrap64 (y + v)) := rfl

theorem eqP (x y : Int) : laws_eqPlace.f x y x y = some true := by
  unfold laws_eqPlace.f
  simp

def tr (m x y : Int) : Int × Int := if m = 0 then (x, y) else if m = 1 then (-y, x) else if m = 2 then (-x, -y) else (y, -x)
theorem tr0 (x y : Int) : tr 0 x y = (x, y) := by simp [tr]
theorem tr1 (x y : Int) : tr 1 x y = (-y, x) := by simp [tr]
theorem tr2 (x y : Int) : tr 2 x y = (-x, -y) := by simp [tr]
theorem tr3 (x y : Int) : tr 3 x y = (y, -x) := by simp [tr]
theorem tr_bd {m x y b : Int} (hx : -b ≤ x ∧ x ≤ b) (hy : -b ≤ y ∧ y ≤ b) : (-b ≤ (tr m x y).1 ∧ (tr m x y).1 ≤ b) ∧ (-b ≤ (tr m x y).2 ∧ (tr m x y).2 ≤ b) := by
  unfold tr
  split
  · simp; omega
  · split
    · simp; omega
    · split <;> simp <;> omega

theorem sTurnL {x y : Int} (m : Int) (hm : 0 ≤ m ∧ m ≤ 3) (hx : -1000000000 ≤ x ∧ x ≤ 1000000000) (hy : -1000000000 ≤ y ∧ y ≤ 1000000000) : Ev (fun k => spec_l2Turn.l0 k m x y) (tr m x y) := by
  have e : ∀ x y : Int, Ev (fun k => spec_l2Turn.l0 k 0 x y) (x, y) := fun x y => Ev.step (f := fun _ => some (x, y)) (fun k => by simp only [spec_l2Turn.l0]; rw [if_neg (by omega)]) (Ev.now _)
  have s : ∀ (m m' x y : Int) (r : Int × Int), m' = m - 1 → 0 < m → m ≤ 3 → (-1000000000 ≤ y ∧ y ≤ 1000000000) → Ev (fun k => spec_l2Turn.l0 k m' (-y) x) r → Ev (fun k => spec_l2Turn.l0 k m x y) r := fun m m' x y r hm' h0 h3 hy h => by
    refine Ev.step (fun k => ?_) h
    simp only [spec_l2Turn.l0]
    rw [if_pos (by omega), w64 (x := m - 1) (by omega) (by omega), w64 (x := -y) (by omega) (by omega), hm']
  have : m = 0 ∨ m = 1 ∨ m = 2 ∨ m = 3 := by omega
  rcases this with rfl | rfl | rfl | rfl
  · rw [tr0]; exact e x y
  · rw [tr1]; exact s 1 0 _ _ _ (by omega) (by omega) (by omega) hy (e _ _)
  · rw [tr2]; exact s 2 1 _ _ _ (by omega) (by omega) (by omega) hy (s 1 0 _ _ _ (by omega) (by omega) (by omega) hx (e _ _))
  · rw [tr3]
    have := s 3 2 _ _ _ (by omega) (by omega) (by omega) hy (s 2 1 _ _ _ (by omega) (by omega) (by omega) hx (s 1 0 _ _ _ (by omega) (by omega) (by omega) (by omega) (e _ _)))
    rwa [Int.neg_neg] at this

theorem sTurn {x y : Int} (n : Int) (hx : -1000000000 ≤ x ∧ x ≤ 1000000000) (hy : -1000000000 ≤ y ∧ y ≤ 1000000000) : Ev (fun k => spec_l2Turn.f k x y n) (tr (n % 4) x y) := by
  unfold spec_l2Turn.f
  simp only [sMod, Option.bind_some]
  exact sTurnL _ (by omega) hx hy

theorem iTurnL {x y : Int} (m : Int) (hm : 0 ≤ m ∧ m ≤ 3) (hx : -1000000000 ≤ x ∧ x ≤ 1000000000) (hy : -1000000000 ≤ y ∧ y ≤ 1000000000) : Ev (fun k => impl_turned.l0 k m 0 x y) (tr m x y) := by
  have e : ∀ m x y : Int, Ev (fun k => impl_turned.l0 k m m x y) (x, y) := fun m x y => Ev.step (f := fun _ => some (x, y)) (fun k => by simp only [impl_turned.l0]; rw [if_neg (by omega)]) (Ev.now _)
  have s : ∀ (m i i' x y : Int) (r : Int × Int), i' = i + 1 → 0 ≤ i → i < m → m ≤ 3 → (-1000000000 ≤ y ∧ y ≤ 1000000000) → Ev (fun k => impl_turned.l0 k m i' (-y) x) r → Ev (fun k => impl_turned.l0 k m i x y) r := fun m i i' x y r hi' h0 h1 h3 hy h => by
    refine Ev.step (fun k => ?_) h
    simp only [impl_turned.l0]
    rw [if_pos (by omega), w64 (x := i + 1) (by omega) (by omega), w64 (x := -y) (by omega) (by omega), hi']
  have : m = 0 ∨ m = 1 ∨ m = 2 ∨ m = 3 := by omega
  rcases this with rfl | rfl | rfl | rfl
  · rw [tr0]; exact e 0 x y
  · rw [tr1]; exact s 1 0 1 _ _ _ (by omega) (by omega) (by omega) (by omega) hy (e 1 _ _)
  · rw [tr2]; exact s 2 0 1 _ _ _ (by omega) (by omega) (by omega) (by omega) hy (s 2 1 2 _ _ _ (by omega) (by omega) (by omega) (by omega) hx (e 2 _ _))
  · rw [tr3]
    have := s 3 0 1 _ _ _ (by omega) (by omega) (by omega) (by omega) hy (s 3 1 2 _ _ _ (by omega) (by omega) (by omega) (by omega) hx (s 3 2 3 _ _ _ (by omega) (by omega) (by omega) (by omega) (by omega) (e 3 _ _)))
    rwa [Int.neg_neg] at this

theorem iTurn {x y : Int} (n : Int) (hx : -1000000000 ≤ x ∧ x ≤ 1000000000) (hy : -1000000000 ≤ y ∧ y ≤ 1000000000) : Ev (fun k => impl_turned.f k x y n) (tr (n % 4) x y) := by
  unfold impl_turned.f
  simp only [iTurns, Option.bind_some]
  exact iTurnL _ (by omega) hx hy

def stV (x y h s : Int) : Int × Int × Bool := if PL x y ∧ (0 ≤ h ∧ h ≤ 3) ∧ (-4096 ≤ s ∧ s ≤ 4096) then chk (x + (tr h s 0).1) (y + (tr h s 0).2) else (0, 0, false)

theorem iStep (x y h s : Int) : Ev (fun k => impl_StepFrom.f k x y h s) (stV x y h s) := by
  have bad : ∀ b : Bool, b = true → Ev (fun k => impl_StepFrom.j0 k h s b x y) (0, 0, false) := fun b hb => Ev.step (f := fun _ => some (0, 0, false)) (fun k => by simp only [impl_StepFrom.j0]; rw [if_pos hb]) (Ev.now _)
  unfold impl_StepFrom.f stV
  simp only [iPL, iIsHeading, iIsMeasure, Option.bind_some]
  by_cases h1 : PL x y
  · by_cases h2 : 0 ≤ h ∧ h ≤ 3
    · by_cases h3 : -4096 ≤ s ∧ s ≤ 4096
      · simp only [h1, h2, h3, decide_true, if_true, and_self, Bool.not_true]
        have ht := tr_bd (m := h) (x := s) (y := 0) (b := 4096) (by omega) (by omega)
        refine Ev.step (f := fun k => (impl_turned.f k s 0 h).bind fun bt => (impl_checked.f (wrap64 (x + bt.1)) (wrap64 (y + bt.2))).bind fun b2 => some (b2.1, b2.2.1, b2.2.2)) (fun k => by simp only [impl_StepFrom.j0, Bool.false_eq_true, if_false]) ?_
        have hs := iTurn (x := s) (y := 0) h (by omega) (by omega)
        rw [show h % 4 = h by omega] at hs
        refine Ev.bind hs ?_
        unfold PL at h1
        simp only [iChk, Option.bind_some]
        rw [w64 (x := x + _) (by omega) (by omega), w64 (x := y + _) (by omega) (by omega)]
        exact Ev.now _
      · simp only [h1, h2, h3, decide_true, decide_false, if_true, and_false, if_false, Bool.not_false, and_self]
        exact bad _ rfl
    · simp only [h1, h2, decide_true, decide_false, if_true, and_false, false_and, if_false, Bool.false_eq_true]
      exact bad _ rfl
  · simp only [h1, decide_false, false_and, if_false, Bool.false_eq_true]
    exact bad _ rfl

def flV (x y h t l : Int) : Int := if JetOK x y h t l then l + 1 else 0
theorem pb {t u : Int} (ht : 0 ≤ t ∧ t ≤ 1000) (hu : 0 ≤ u ∧ u ≤ 1000) : 0 ≤ t * u ∧ t * u ≤ 1000000 :=
  ⟨Int.mul_nonneg ht.1 hu.1, by have := Int.mul_le_mul ht.2 hu.2 hu.1 (by omega : (0 : Int) ≤ 1000); omega⟩

theorem iFlight (x y h t l : Int) : impl_FlightOf.f x y h t l = some (flV x y h t l) := by
  unfold impl_FlightOf.f flV
  simp only [iIsJet, Option.bind_some]
  by_cases hj : JetOK x y h t l
  · have := hj
    unfold JetOK at this
    rw [w64 (by omega) (by omega)]
    simp [hj]
  · simp [hj]

theorem flight_loop (l : Int) (hl : 1 ≤ l ∧ l ≤ 32) (d : Nat) : ∀ t : Int, 1 ≤ t → l + 1 - t = d → Ev (fun k => spec_FlightOf.l0 k t (t * (l + 1 - t)) (l - 2 * t)) (l + 1) := by
  induction d with
  | zero =>
    intro t h1 hd
    have e : l + 1 - t = 0 := by omega
    refine Ev.step (f := fun _ => some (l + 1)) (fun k => ?_) (Ev.now _)
    simp only [spec_FlightOf.l0]
    rw [e, if_neg (by omega)]
    congr 1; omega
  | succ d ih =>
    intro t h1 hd
    have hp : 0 < t * (l + 1 - t) := Int.mul_pos (by omega) (by omega)
    have hb := pb (t := t) (u := l + 1 - t) (by omega) (by omega)
    have hs : t * (l + 1 - t) + (l - 2 * t) = (t + 1) * (l + 1 - (t + 1)) := by grind
    have hb2 := pb (t := t + 1) (u := l + 1 - (t + 1)) (by omega) (by omega)
    refine Ev.step (fun k => ?_) (ih (t + 1) (by omega) (by omega))
    simp only [spec_FlightOf.l0]
    rw [if_pos hp, w64 (x := t + 1) (by omega) (by omega), hs, w64 (x := (t + 1) * _) (by omega) (by omega), w64 (x := l - 2 * t - 2) (by omega) (by omega), show l - 2 * t - 2 = l - 2 * (t + 1) by omega]
theorem sFlight (x y h t l : Int) : Ev (fun k => spec_FlightOf.f k x y h t l) (flV x y h t l) := by
  unfold spec_FlightOf.f flV
  simp only [sIsJet, Option.bind_some]
  by_cases hj : JetOK x y h t l
  · simp only [hj, decide_true, if_true]
    unfold JetOK at hj
    rw [w64 (by omega) (by omega)]
    have := flight_loop l (by omega) l.toNat 1 (by omega) (by omega)
    rw [show (1 : Int) * (l + 1 - 1) = l by omega, show l - 2 * 1 = l - 2 by omega] at this
    exact this
  · simp only [hj, decide_false, if_false, Bool.false_eq_true]
    exact Ev.now _

def htV (x y h t l T : Int) : Int := if JetOK x y h t l ∧ 0 ≤ T ∧ T ≤ l + 1 then T * (l + 1 - T) else 0

theorem iAir (x y h t l T : Int) : impl_isInAir.f x y h t l T = some (decide (JetOK x y h t l ∧ 0 ≤ T ∧ T ≤ l + 1)) := by
  unfold impl_isInAir.f
  simp only [iIsJet, iFlight, iWithin, Option.bind_some, flV]
  by_cases hj : JetOK x y h t l <;> simp [hj]

theorem eqJ (x y h t l : Int) : laws_eqJet.f x y h t l x y h t l = some true := by
  unfold laws_eqJet.f
  simp [eqP]

def paV (x y h t l T : Int) : Int × Int × Bool := if JetOK x y h t l ∧ 0 ≤ T ∧ T ≤ l + 1 then (x + (tr h (T * t) 0).1, y + (tr h (T * t) 0).2, true) else (0, 0, false)
theorem pb2 {T t l : Int} (hT : 0 ≤ T ∧ T ≤ l + 1) (hl : l ≤ 32) (ht : 0 ≤ t ∧ t ≤ 16) : 0 ≤ T * t ∧ T * t ≤ 528 :=
  ⟨Int.mul_nonneg hT.1 ht.1, by have := Int.mul_le_mul (show T ≤ 33 by omega) ht.2 ht.1 (by omega : (0 : Int) ≤ 33); omega⟩

theorem sL3 (x y h t l T : Int) (hj : JetOK x y h t l) (h0 : 0 ≤ T) (h1 : T ≤ l + 1) : Ev (fun k => spec_l3Place.f k x y h t l T) (x + (tr h (T * t) 0).1, y + (tr h (T * t) 0).2) := by
  unfold JetOK at hj
  have hb := pb2 (T := T) (t := t) (l := l) (by omega) (by omega) (by omega)
  have ht := tr_bd (m := h) (x := T * t) (y := 0) (b := 528) (by omega) (by omega)
  unfold spec_l3Place.f
  rw [w64 (x := T * t) (by omega) (by omega)]
  have hs := sTurn (x := T * t) (y := 0) h (by omega) (by omega)
  rw [show h % 4 = h by omega] at hs
  refine Ev.bind hs ?_
  simp only [sl2Add, Option.bind_some]
  rw [w64 (x := x + _) (by omega) (by omega), w64 (x := y + _) (by omega) (by omega)]
  exact Ev.now _

theorem sPlaceAt (x y h t l T : Int) : Ev (fun k => spec_PlaceAt.f k x y h t l T) (paV x y h t l T) := by
  unfold spec_PlaceAt.f paV
  simp only [sIsJet, Option.bind_some]
  by_cases hj : JetOK x y h t l
  · simp only [hj, decide_true, if_true, true_and]
    by_cases h0 : T < 0
    · simp only [if_pos h0]
      rw [if_neg (by omega)]
      exact Ev.now _
    · simp only [if_neg h0]
      have hf := sFlight x y h t l
      rw [show flV x y h t l = l + 1 by unfold flV; rw [if_pos hj]] at hf
      refine Ev.bind hf ?_
      by_cases h1 : T > l + 1
      · simp only [if_pos h1]
        rw [if_neg (by omega)]
        exact Ev.now _
      · simp only [if_neg h1]
        rw [if_pos (by omega)]
        exact Ev.bind (sL3 x y h t l T hj (by omega) (by omega)) (Ev.now _)
  · simp only [hj, decide_false, false_and, if_false, Bool.false_eq_true]
    exact Ev.now _

theorem iPlaceAt (x y h t l T : Int) : Ev (fun k => impl_PlaceAt.f k x y h t l T) (paV x y h t l T) := by
  unfold impl_PlaceAt.f paV
  simp only [iAir, Option.bind_some]
  by_cases hj : JetOK x y h t l ∧ 0 ≤ T ∧ T ≤ l + 1
  · rw [if_pos hj]
    simp only [hj, decide_true, if_true, and_self]
    have hj' := hj
    unfold JetOK at hj'
    have hb := pb2 (T := T) (t := t) (l := l) (by omega) (by omega) (by omega)
    have ht := tr_bd (m := h) (x := T * t) (y := 0) (b := 528) (by omega) (by omega)
    rw [w64 (x := T * t) (by omega) (by omega)]
    have hs := iStep x y h (T * t)
    have e : stV x y h (T * t) = (x + (tr h (T * t) 0).1, y + (tr h (T * t) 0).2, true) := by
      unfold stV chk
      rw [if_pos (by unfold PL; omega), if_pos (by unfold PL; omega)]
    rw [e] at hs
    exact Ev.bind hs (Ev.now _)
  · rw [if_neg hj]
    simp only [hj, decide_false, if_false, Bool.false_eq_true]
    exact Ev.now _

def laV (x y h t l : Int) : Int × Int × Bool := paV x y h t l (flV x y h t l)

theorem sLanding (x y h t l : Int) : Ev (fun k => spec_LandingOf.f k x y h t l) (laV x y h t l) := by
  unfold spec_LandingOf.f
  exact Ev.bind (sFlight x y h t l) (Ev.bind (sPlaceAt x y h t l _) (Ev.now _))

theorem iLanding (x y h t l : Int) : Ev (fun k => impl_LandingOf.f k x y h t l) (laV x y h t l) := by
  unfold impl_LandingOf.f
  simp only [iFlight, Option.bind_some]
  exact Ev.bind (iPlaceAt x y h t l _) (Ev.now _)

theorem aim_both (x y u v l : Int) (d : Nat) : ∀ h : Int, 0 ≤ h → 4 - h = d → ∃ r, Ev (fun k => spec_AimJet.l0 k l h x y u v) r ∧ Ev (fun k => impl_AimJet.l0 k l h x y u v) r := by
  induction d with
  | zero =>
    intro h h0 hd
    refine ⟨(0, 0, 0, 0, 0, false), Ev.succ' ?_, Ev.succ' ?_⟩
    · simp only [spec_AimJet.l0, if_neg (show ¬ h < 4 by omega)]; exact Ev.now _
    · simp only [impl_AimJet.l0, if_neg (show ¬ h < 4 by omega)]; exact Ev.now _
  | succ d ih =>
    intro h h0 hd
    obtain ⟨r0, n1, n2⟩ := ih (h + 1) (by omega) (by omega)
    have inner : ∀ (e : Nat) (t : Int), 0 ≤ t → 17 - t = e → ∃ r, Ev (fun k => spec_AimJet.l1 k l h t x y u v) r ∧ Ev (fun k => impl_AimJet.l1 k l h h t x y u v) r := by
      intro e
      induction e with
      | zero =>
        intro t t0 he
        refine ⟨r0, Ev.succ' ?_, Ev.succ' ?_⟩
        · simp only [spec_AimJet.l1, if_neg (show ¬ t ≤ 16 by omega)]
          rw [w64 (by omega) (by omega)]; exact n1
        · simp only [impl_AimJet.l1, if_neg (show ¬ t < 17 by omega)]
          rw [w64 (by omega) (by omega)]; exact n2
      | succ e ihe =>
        intro t t0 he
        obtain ⟨r1, m1, m2⟩ := ihe (t + 1) (by omega) (by omega)
        by_cases hc : (laV x y h t l).2.2 = true ∧ ((laV x y h t l).1 == u && (laV x y h t l).2.1 == v) = true
        · refine ⟨(x, y, h, t, l, true), Ev.succ' ?_, Ev.succ' ?_⟩
          · simp only [spec_AimJet.l1, if_pos (show t ≤ 16 by omega)]
            refine Ev.bind (sLanding x y h t l) ?_
            simp only [if_pos hc.1, if_pos hc.2]
            exact Ev.now _
          · simp only [impl_AimJet.l1, if_pos (show t < 17 by omega)]
            refine Ev.bind (iLanding x y h t l) ?_
            simp only [if_pos hc.1, if_pos hc.2]
            exact Ev.now _
        · refine ⟨r1, Ev.succ' ?_, Ev.succ' ?_⟩
          · simp only [spec_AimJet.l1, if_pos (show t ≤ 16 by omega)]
            refine Ev.bind (sLanding x y h t l) ?_
            rw [w64 (by omega) (by omega)]
            by_cases h1 : (laV x y h t l).2.2 = true
            · simp only [if_pos h1, if_neg (fun h2 => hc ⟨h1, h2⟩)]
              exact m1
            · simp only [if_neg h1]
              exact m1
          · simp only [impl_AimJet.l1, if_pos (show t < 17 by omega)]
            refine Ev.bind (iLanding x y h t l) ?_
            rw [w64 (by omega) (by omega)]
            by_cases h1 : (laV x y h t l).2.2 = true
            · simp only [if_pos h1, if_neg (fun h2 => hc ⟨h1, h2⟩)]
              exact m2
            · simp only [if_neg h1]
              exact m2
    obtain ⟨r, m1, m2⟩ := inner 17 0 (by omega) (by omega)
    refine ⟨r, Ev.succ' ?_, Ev.succ' ?_⟩
    · simp only [spec_AimJet.l0, if_pos (show h < 4 by omega)]; exact m1
    · simp only [impl_AimJet.l0, if_pos (show h < 4 by omega)]; exact m2

theorem FnExactAimJet : ∀ (a0_0 : Int) (a0_1 : Int) (a1_0 : Int) (a1_1 : Int) (a2 : Int), (Lit.int .i64 a0_0).wf = true → (Lit.int .i64 a0_1).wf = true → (Lit.int .i64 a1_0).wf = true → (Lit.int .i64 a1_1).wf = true → (Lit.int .i64 a2).wf = true → ∃ k, laws_FnExactAimJet.f k a0_0 a0_1 a1_0 a1_1 a2 = some true := by
  intro x y u v l _ _ _ _ _
  refine Ev.rounds (r := true) ?_
  unfold laws_FnExactAimJet.f
  simp only [toP, Option.bind_some]
  obtain ⟨r, h1, h2⟩ := aim_both x y u v l 4 0 (by omega) (by omega)
  refine Ev.bind h1 (Ev.bind h2 ?_)
  simp only [eqJ, Option.bind_some, if_true, bne_self_eq_false]
  exact Ev.now _

end Go.Proofs.Ytlmgokicanlcpaa.Pure
