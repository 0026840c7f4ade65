/- The plain law behind FnAim: for every input that the row lets in, the printed function of the law answers true. No condition beyond the bounds that the statement names. -/
import Derived.Test.YtkioodeeadhdaaaQFnAim
namespace Go.Proofs.Ytkioodeeadhdaaa.Pure
open Go.RowKit Go.Proofs.Ytkioodeeadhdaaa.PFnAim Go.Proofs.YtkioodeeadhdaaaW.PrintWords Go.Proofs.YtkioodeeadhdaaaW.PrintLast
open Go.Proofs.YtkioodeeadhdaaaW.PrintMore
set_option linter.unusedVariables false
set_option linter.unusedSimpArgs false

theorem w64 {x : Int} (h0 : -9223372036854775808 ≤ x) (h1 : x ≤ 9223372036854775807) : wrap64 x = x := by unfold wrap64; omega
theorem wfb {a : Int} (h : (Lit.int .i64 a).wf = true) : -9223372036854775808 ≤ a ∧ a ≤ 9223372036854775807 := by
  simp [Lit.wf, IntKind.min, IntKind.max, IntKind.signed, IntKind.bits] at h
  omega
theorem Ev.succ' {α : Type} {g : Nat → Option α} {r : α} (h : Ev (fun k => g (k + 1)) r) : Ev g r := Ev.step (fun _ => rfl) h
theorem dec_congr {p q : Prop} [Decidable p] [Decidable q] (h : p ↔ q) : decide p = decide q := by simp [h]

theorem iWithin (a b c : Int) : impl_isWithin.f a b c = some (decide (b ≤ a ∧ a ≤ c)) := by
  unfold impl_isWithin.f
  split <;> simp <;> omega

theorem iIsMeasure (x : Int) : impl_IsMeasure.f x = some (decide (-4096 ≤ x ∧ x ≤ 4096)) := by
  unfold impl_IsMeasure.f
  rw [iWithin]
  rfl

theorem sIsHeading (x : Int) : spec_IsHeading.f x = some (decide (0 ≤ x ∧ x ≤ 3)) := by
  unfold spec_IsHeading.f
  split <;> simp <;> omega

theorem iIsHeading (x : Int) : impl_IsHeading.f x = some (decide (0 ≤ x ∧ x ≤ 3)) := by
  unfold impl_IsHeading.f
  rw [iWithin]
  rfl

theorem iIsPlace (x y : Int) : impl_IsPlace.f x y = some (decide ((-4096 ≤ x ∧ x ≤ 4096) ∧ (-4096 ≤ y ∧ y ≤ 4096))) := by
  unfold impl_IsPlace.f
  simp only [iIsMeasure, Option.bind_some]
  split <;> rename_i h <;> simp at h ⊢ <;> omega

def JetOK (x y h t l : Int) : Prop := (-1024 ≤ x ∧ x ≤ 1024) ∧ (-1024 ≤ y ∧ y ≤ 1024) ∧ (0 ≤ h ∧ h ≤ 3) ∧ (0 ≤ t ∧ t ≤ 16) ∧ (1 ≤ l ∧ l ≤ 32)
instance (x y h t l : Int) : Decidable (JetOK x y h t l) := by unfold JetOK; infer_instance

theorem sIn (a b c : Int) : spec_l1In.f a b c = some (decide (b ≤ a ∧ a ≤ c)) := by
  unfold spec_l1In.f
  split <;> simp <;> omega

theorem sIsJet (x y h t l : Int) : spec_IsJet.f x y h t l = some (decide (JetOK x y h t l)) := by
  unfold spec_IsJet.f
  simp only [JetOK]
  simp only [sIn, sIsHeading, Option.bind_some]
  by_cases h1 : -1024 ≤ x ∧ x ≤ 1024 <;> by_cases h2 : -1024 ≤ y ∧ y ≤ 1024 <;> by_cases h3 : 0 ≤ h ∧ h ≤ 3 <;> by_cases h4 : 0 ≤ t ∧ t ≤ 16 <;> simp [h1, h2, h3, h4]

theorem iIsJet (x y h t l : Int) : impl_IsJet.f x y h t l = some (decide (JetOK x y h t l)) := by
  unfold impl_IsJet.f
  simp only [JetOK]
  simp only [iWithin, iIsHeading, Option.bind_some]
  by_cases h1 : -1024 ≤ x ∧ x ≤ 1024 <;> by_cases h2 : -1024 ≤ y ∧ y ≤ 1024 <;> by_cases h3 : 0 ≤ h ∧ h ≤ 3 <;> by_cases h4 : 0 ≤ t ∧ t ≤ 16 <;> simp [h1, h2, h3, h4]

theorem tmod_pos {a b : Int} (h : 0 ≤ a) : Int.tmod a b = a % b := Int.tmod_eq_emod_of_nonneg h
theorem tmod_neg' (a b : Int) : Int.tmod (-a) b = -(Int.tmod a b) := Int.neg_tmod a b
theorem tdiv_pos {a b : Int} (h : 0 ≤ a) : Int.tdiv a b = a / b := Int.tdiv_eq_ediv_of_nonneg h
theorem tmod4 (n : Int) : (Int.tmod n 4 < 0 → Int.tmod n 4 + 4 = n % 4) ∧ (¬ Int.tmod n 4 < 0 → Int.tmod n 4 = n % 4) ∧ -3 ≤ Int.tmod n 4 ∧ Int.tmod n 4 ≤ 3 := by
  rcases Int.le_total 0 n with h | h
  · rw [tmod_pos h]; omega
  · obtain ⟨m, rfl⟩ : ∃ m, n = -m := ⟨-n, by omega⟩
    rw [tmod_neg', tmod_pos (by omega)]; omega

theorem sMod (n : Int) : spec_l2Mod.f n = some (n % 4) := by
  have h := tmod4 n
  unfold spec_l2Mod.f
  split
  · rw [w64 (by omega) (by omega)]; simp; omega
  · simp; omega

theorem iTurns (n : Int) : impl_turns.f n = some (n % 4) := by
  have h := tmod4 n
  unfold impl_turns.f
  rw [w64 (by omega) (by omega), tmod_pos (by omega)]
  simp
  by_cases h1 : Int.tmod n 4 < 0 <;> omega

def PL (x y : Int) : Prop := (-4096 ≤ x ∧ x ≤ 4096) ∧ (-4096 ≤ y ∧ y ≤ 4096)
instance (x y : Int) : Decidable (PL x y) := by unfold PL; infer_instance

theorem iPL (x y : Int) : impl_IsPlace.f x y = some (decide (PL x y)) := iIsPlace x y

def chk (x y : Int) : Int × Int × Bool := if PL x y then (x, y, true) else (0, 0, false)

theorem iChk (x y : Int) : impl_checked.f x y = some (chk x y) := by
  unfold impl_checked.f chk
  simp only [iPL, Option.bind_some]
  by_cases h : PL x y <;> simp [h]

theorem sl2Add (x y u v : Int) : spec_l2Add.f x y u v = some (wrap64 (x + u), wrap64 (y + v)) := rfl

def tr (m x y : Int) : Int × Int := if m = 0 then (x, y) else if m = 1 then (-y, x) else if m = 2 then (-x, -y) else (y, -x)
theorem tr0 (x y : Int) : tr 0 x y = (x, y) := by simp [tr]
theorem tr1 (x y : Int) : tr 1 x y = (-y, x) := by simp [tr]
theorem tr2 (x y : Int) : tr 2 x y = (-x, -y) := by simp [tr]
theorem tr3 (x y : Int) : tr 3 x y = (y, -x) := by simp [tr]
theorem tr_bd {m x y b : Int} (hx : -b ≤ x ∧ x ≤ b) (hy : -b ≤ y ∧ y ≤ b) : (-b ≤ (tr m x y).1 ∧ (tr m x y).1 ≤ b) ∧ (-b ≤ (tr m x y).2 ∧ (tr m x y).2 ≤ b) := by
  unfold tr
  split
  · simp; omega
  · split
    · simp; omega
    · split <;> simp <;> omega

theorem sTurnL {x y : Int} (m : Int) (hm : 0 ≤ m ∧ m ≤ 3) (hx : -1000000000 ≤ x ∧ x ≤ 1000000000) (hy : -1000000000 ≤ y ∧ y ≤ 1000000000) : Ev (fun k => spec_l2Turn.l0 k m x y) (tr m x y) := by
  have e : ∀ x y : Int, Ev (fun k => spec_l2Turn.l0 k 0 x y) (x, y) := fun x y => Ev.step (f := fun _ => some (x, y)) (fun k => by simp only [spec_l2Turn.l0]; rw [if_neg (by omega)]) (Ev.now _)
  have s : ∀ (m m' x y : Int) (r : Int × Int), m' = m - 1 → 0 < m → m ≤ 3 → (-1000000000 ≤ y ∧ y ≤ 1000000000) → Ev (fun k => spec_l2Turn.l0 k m' (-y) x) r → Ev (fun k => spec_l2Turn.l0 k m x y) r := fun m m' x y r hm' h0 h3 hy h => by
    refine Ev.step (fun k => ?_) h
    simp only [spec_l2Turn.l0]
    rw [if_pos (by omega), w64 (x := m - 1) (by omega) (by omega), w64 (x := -y) (by omega) (by omega), hm']
  have : m = 0 ∨ m = 1 ∨ m = 2 ∨ m = 3 := by omega
  rcases this with rfl | rfl | rfl | rfl
  · rw [tr0]; exact e x y
  · rw [tr1]; exact s 1 0 _ _ _ (by omega) (by omega) (by omega) hy (e _ _)
  · rw [tr2]; exact s 2 1 _ _ _ (by omega) (by omega) (by omega) hy (s 1 0 _ _ _ (by omega) (by omega) (by omega) hx (e _ _))
  · rw [tr3]
    have := s 3 2 _ _ _ (by omega) (by omega) (by omega) hy (s 2 1 _ _ _ (by omega) (by omega) (by omega) hx (s 1 0 _ _ _ (by omega) (by omega) (by omega) (by omega) (e _ _)))
    rwa [Int.neg_neg] at this

theorem sTurn {x y : Int} (n : Int) (hx : -1000000000 ≤ x ∧ x ≤ 1000000000) (hy : -1000000000 ≤ y ∧ y ≤ 1000000000) : Ev (fun k => spec_l2Turn.f k x y n) (tr (n % 4) x y) := by
  unfold spec_l2Turn.f
  simp only [sMod, Option.bind_some]
  exact sTurnL _ (by omega) hx hy

theorem iTurnL {x y : Int} (m : Int) (hm : 0 ≤ m ∧ m ≤ 3) (hx : -1000000000 ≤ x ∧ x ≤ 1000000000) (hy : -1000000000 ≤ y ∧ y ≤ 1000000000) : Ev (fun k => impl_turned.l0 k m 0 x y) (tr m x y) := by
  have e : ∀ m x y : Int, Ev (fun k => impl_turned.l0 k m m x y) (x, y) := fun m x y => Ev.step (f := fun _ => some (x, y)) (fun k => by simp only [impl_turned.l0]; rw [if_neg (by omega)]) (Ev.now _)
  have s : ∀ (m i i' x y : Int) (r : Int × Int), i' = i + 1 → 0 ≤ i → i < m → m ≤ 3 → (-1000000000 ≤ y ∧ y ≤ 1000000000) → Ev (fun k => impl_turned.l0 k m i' (-y) x) r → Ev (fun k => impl_turned.l0 k m i x y) r := fun m i i' x y r hi' h0 h1 h3 hy h => by
    refine Ev.step (fun k => ?_) h
    simp only [impl_turned.l0]
    rw [if_pos (by omega), w64 (x := i + 1) (by omega) (by omega), w64 (x := -y) (by omega) (by omega), hi']
  have : m = 0 ∨ m = 1 ∨ m = 2 ∨ m = 3 := by omega
  rcases this with rfl | rfl | rfl | rfl
  · rw [tr0]; exact e 0 x y
  · rw [tr1]; exact s 1 0 1 _ _ _ (by omega) (by omega) (by omega) (by omega) hy (e 1 _ _)
  · rw [tr2]; exact s 2 0 1 _ _ _ (by omega) (by omega) (by omega) (by omega) hy (s 2 1 2 _ _ _ (by omega) (by omega) (by omega) (by omega) hx (e 2 _ _))
  · rw [tr3]
    have := s 3 0 1 _ _ _ (by omega) (by omega) (by omega) (by omega) hy (s 3 1 2 _ _ _ (by omega) (by omega) (by omega) (by omega) hx (s 3 2 3 _ _ _ (by omega) (by omega) (by omega) (by omega) (by omega) (e 3 _ _)))
    rwa [Int.neg_neg] at this

theorem iTurn {x y : Int} (n : Int) (hx : -1000000000 ≤ x ∧ x ≤ 1000000000) (hy : -1000000000 ≤ y ∧ y ≤ 1000000000) : Ev (fun k => impl_turned.f k x y n) (tr (n % 4) x y) := by
  unfold impl_turned.f
  simp only [iTurns, Option.bind_some]
  exact iTurnL _ (by omega) hx hy

def stV (x y h s : Int) : Int × Int × Bool := if PL x y ∧ (0 ≤ h ∧ h ≤ 3) ∧ (-4096 ≤ s ∧ s ≤ 4096) then chk (x + (tr h s 0).1) (y + (tr h s 0).2) else (0, 0, false)

theorem iStep (x y h s : Int) : Ev (fun k => impl_StepFrom.f k x y h s) (stV x y h s) := by
  have bad : ∀ b : Bool, b = true → Ev (fun k => impl_StepFrom.j0 k h s b x y) (0, 0, false) := fun b hb => Ev.step (f := fun _ => some (0, 0, false)) (fun k => by simp only [impl_StepFrom.j0]; rw [if_pos hb]) (Ev.now _)
  unfold impl_StepFrom.f stV
  simp only [iPL, iIsHeading, iIsMeasure, Option.bind_some]
  by_cases h1 : PL x y
  · by_cases h2 : 0 ≤ h ∧ h ≤ 3
    · by_cases h3 : -4096 ≤ s ∧ s ≤ 4096
      · simp only [h1, h2, h3, decide_true, if_true, and_self, Bool.not_true]
        have ht := tr_bd (m := h) (x := s) (y := 0) (b := 4096) (by omega) (by omega)
        refine Ev.step (f := fun k => (impl_turned.f k s 0 h).bind fun bt => (impl_checked.f (wrap64 (x + bt.1)) (wrap64 (y + bt.2))).bind fun b2 => some (b2.1, b2.2.1, b2.2.2)) (fun k => by simp only [impl_StepFrom.j0, Bool.false_eq_true, if_false]) ?_
        have hs := iTurn (x := s) (y := 0) h (by omega) (by omega)
        rw [show h % 4 = h by omega] at hs
        refine Ev.bind hs ?_
        unfold PL at h1
        simp only [iChk, Option.bind_some]
        rw [w64 (x := x + _) (by omega) (by omega), w64 (x := y + _) (by omega) (by omega)]
        exact Ev.now _
      · simp only [h1, h2, h3, decide_true, decide_false, if_true, and_false, if_false, Bool.not_false, and_self]
        exact bad _ rfl
    · simp only [h1, h2, decide_true, decide_false, if_true, and_false, false_and, if_false, Bool.false_eq_true]
      exact bad _ rfl
  · simp only [h1, decide_false, false_and, if_false, Bool.false_eq_true]
    exact bad _ rfl

def flV (x y h t l : Int) : Int := if JetOK x y h t l then l + 1 else 0
theorem pb {t u : Int} (ht : 0 ≤ t ∧ t ≤ 1000) (hu : 0 ≤ u ∧ u ≤ 1000) : 0 ≤ t * u ∧ t * u ≤ 1000000 :=
  ⟨Int.mul_nonneg ht.1 hu.1, by have := Int.mul_le_mul ht.2 hu.2 hu.1 (by omega : (0 : Int) ≤ 1000); omega⟩

theorem iFlight (x y h t l : Int) : impl_FlightOf.f x y h t l = some (flV x y h t l) := by
  unfold impl_FlightOf.f flV
  simp only [iIsJet, Option.bind_some]
  by_cases hj : JetOK x y h t l
  · have := hj
    unfold JetOK at this
    rw [w64 (by omega) (by omega)]
    simp [hj]
  · simp [hj]

theorem flight_loop (l : Int) (hl : 1 ≤ l ∧ l ≤ 32) (d : Nat) : ∀ t : Int, 1 ≤ t → l + 1 - t = d → Ev (fun k => spec_FlightOf.l0 k t (t * (l + 1 - t)) (l - 2 * t)) (l + 1) := by
  induction d with
  | zero =>
    intro t h1 hd
    have e : l + 1 - t = 0 := by omega
    refine Ev.step (f := fun _ => some (l + 1)) (fun k => ?_) (Ev.now _)
    simp only [spec_FlightOf.l0]
    rw [e, if_neg (by omega)]
    congr 1; omega
  | succ d ih =>
    intro t h1 hd
    have hp : 0 < t * (l + 1 - t) := Int.mul_pos (by omega) (by omega)
    have hb := pb (t := t) (u := l + 1 - t) (by omega) (by omega)
    have hs : t * (l + 1 - t) + (l - 2 * t) = (t + 1) * (l + 1 - (t + 1)) := by grind
    have hb2 := pb (t := t + 1) (u := l + 1 - (t + 1)) (by omega) (by omega)
    refine Ev.step (fun k => ?_) (ih (t + 1) (by omega) (by omega))
    simp only [spec_FlightOf.l0]
    rw [if_pos hp, w64 (x := t + 1) (by omega) (by omega), hs, w64 (x := (t + 1) * _) (by omega) (by omega), w64 (x := l - 2 * t - 2) (by omega) (by omega), show l - 2 * t - 2 = l - 2 * (t + 1) by omega]
theorem sFlight (x y h t l : Int) : Ev (fun k => spec_FlightOf.f k x y h t l) (flV x y h t l) := by
  unfold spec_FlightOf.f flV
  simp only [sIsJet, Option.bind_some]
  by_cases hj : JetOK x y h t l
  · simp only [hj, decide_true, if_true]
    unfold JetOK at hj
    rw [w64 (by omega) (by omega)]
    have := flight_loop l (by omega) l.toNat 1 (by omega) (by omega)
    rw [show (1 : Int) * (l + 1 - 1) = l by omega, show l - 2 * 1 = l - 2 by omega] at this
    exact this
  · simp only [hj, decide_false, if_false, Bool.false_eq_true]
    exact Ev.now _

def htV (x y h t l T : Int) : Int := if JetOK x y h t l ∧ 0 ≤ T ∧ T ≤ l + 1 then T * (l + 1 - T) else 0

theorem iAir (x y h t l T : Int) : impl_isInAir.f x y h t l T = some (decide (JetOK x y h t l ∧ 0 ≤ T ∧ T ≤ l + 1)) := by
  unfold impl_isInAir.f
  simp only [iIsJet, iFlight, iWithin, Option.bind_some, flV]
  by_cases hj : JetOK x y h t l <;> simp [hj]

def paV (x y h t l T : Int) : Int × Int × Bool := if JetOK x y h t l ∧ 0 ≤ T ∧ T ≤ l + 1 then (x + (tr h (T * t) 0).1, y + (tr h (T * t) 0).2, true) else (0, 0, false)
theorem pb2 {T t l : Int} (hT : 0 ≤ T ∧ T ≤ l + 1) (hl : l ≤ 32) (ht : 0 ≤ t ∧ t ≤ 16) : 0 ≤ T * t ∧ T * t ≤ 528 :=
  ⟨Int.mul_nonneg hT.1 ht.1, by have := Int.mul_le_mul (show T ≤ 33 by omega) ht.2 ht.1 (by omega : (0 : Int) ≤ 33); omega⟩

theorem sL3 (x y h t l T : Int) (hj : JetOK x y h t l) (h0 : 0 ≤ T) (h1 : T ≤ l + 1) : Ev (fun k => spec_l3Place.f k x y h t l T) (x + (tr h (T * t) 0).1, y + (tr h (T * t) 0).2) := by
  unfold JetOK at hj
  have hb := pb2 (T := T) (t := t) (l := l) (by omega) (by omega) (by omega)
  have ht := tr_bd (m := h) (x := T * t) (y := 0) (b := 528) (by omega) (by omega)
  unfold spec_l3Place.f
  rw [w64 (x := T * t) (by omega) (by omega)]
  have hs := sTurn (x := T * t) (y := 0) h (by omega) (by omega)
  rw [show h % 4 = h by omega] at hs
  refine Ev.bind hs ?_
  simp only [sl2Add, Option.bind_some]
  rw [w64 (x := x + _) (by omega) (by omega), w64 (x := y + _) (by omega) (by omega)]
  exact Ev.now _

theorem sPlaceAt (x y h t l T : Int) : Ev (fun k => spec_PlaceAt.f k x y h t l T) (paV x y h t l T) := by
  unfold spec_PlaceAt.f paV
  simp only [sIsJet, Option.bind_some]
  by_cases hj : JetOK x y h t l
  · simp only [hj, decide_true, if_true, true_and]
    by_cases h0 : T < 0
    · simp only [if_pos h0]
      rw [if_neg (by omega)]
      exact Ev.now _
    · simp only [if_neg h0]
      have hf := sFlight x y h t l
      rw [show flV x y h t l = l + 1 by unfold flV; rw [if_pos hj]] at hf
      refine Ev.bind hf ?_
      by_cases h1 : T > l + 1
      · simp only [if_pos h1]
        rw [if_neg (by omega)]
        exact Ev.now _
      · simp only [if_neg h1]
        rw [if_pos (by omega)]
        exact Ev.bind (sL3 x y h t l T hj (by omega) (by omega)) (Ev.now _)
  · simp only [hj, decide_false, false_and, if_false, Bool.false_eq_true]
    exact Ev.now _

theorem iPlaceAt (x y h t l T : Int) : Ev (fun k => impl_PlaceAt.f k x y h t l T) (paV x y h t l T) := by
  unfold impl_PlaceAt.f paV
  simp only [iAir, Option.bind_some]
  by_cases hj : JetOK x y h t l ∧ 0 ≤ T ∧ T ≤ l + 1
  · rw [if_pos hj]
    simp only [hj, decide_true, if_true, and_self]
    have hj' := hj
    unfold JetOK at hj'
    have hb := pb2 (T := T) (t := t) (l := l) (by omega) (by omega) (by omega)
    have ht := tr_bd (m := h) (x := T * t) (y := 0) (b := 528) (by omega) (by omega)
    rw [w64 (x := T * t) (by omega) (by omega)]
    have hs := iStep x y h (T * t)
    have e : stV x y h (T * t) = (x + (tr h (T * t) 0).1, y + (tr h (T * t) 0).2, true) := by
      unfold stV chk
      rw [if_pos (by unfold PL; omega), if_pos (by unfold PL; omega)]
    rw [e] at hs
    exact Ev.bind hs (Ev.now _)
  · rw [if_neg hj]
    simp only [hj, decide_false, if_false, Bool.false_eq_true]
    exact Ev.now _

def laV (x y h t l : Int) : Int × Int × Bool := paV x y h t l (flV x y h t l)

theorem sLanding (x y h t l : Int) : Ev (fun k => spec_LandingOf.f k x y h t l) (laV x y h t l) := by
  unfold spec_LandingOf.f
  exact Ev.bind (sFlight x y h t l) (Ev.bind (sPlaceAt x y h t l _) (Ev.now _))

theorem iLanding (x y h t l : Int) : Ev (fun k => impl_LandingOf.f k x y h t l) (laV x y h t l) := by
  unfold impl_LandingOf.f
  simp only [iFlight, Option.bind_some]
  exact Ev.bind (iPlaceAt x y h t l _) (Ev.now _)

theorem and255 (x : Int) : 0 ≤ bits .and .i64 x 255 ∧ bits .and .i64 x 255 ≤ 255 := by
  simp only [bits]
  have h : ((BitVec.ofInt IntKind.i64.bits x &&& BitVec.ofInt IntKind.i64.bits 255).toNat : Int) ≤ 255 := by
    rw [BitVec.toNat_and]
    have : (BitVec.ofInt IntKind.i64.bits x).toNat &&& (BitVec.ofInt IntKind.i64.bits 255).toNat ≤ 255 := Nat.le_trans Nat.and_le_right (by decide)
    omega
  have h0 : (0 : Int) ≤ ((BitVec.ofInt IntKind.i64.bits x &&& BitVec.ofInt IntKind.i64.bits 255).toNat : Int) := Int.natCast_nonneg _
  generalize ((BitVec.ofInt IntKind.i64.bits x &&& BitVec.ofInt IntKind.i64.bits 255).toNat : Int) = z at h h0
  have e : IntKind.i64.wrap z = z := by
    simp [IntKind.wrap, IntKind.bits, IntKind.signed]
    split <;> omega
  rw [e]
  exact ⟨h0, h⟩
theorem dByte {l : List Int} {i : Int} (h : Int) (hl : l.length ≤ 4096) (hi : 0 ≤ i) : ∃ x i' h', spec_l1Byte.f l i h = some (x, i', h') ∧ (0 ≤ x ∧ x ≤ 255) ∧ 0 ≤ i' := by
  unfold spec_l1Byte.f
  by_cases hlt : i < (l.length : Int)
  · rw [if_pos hlt, if_pos hi]
    exact ⟨_, _, _, rfl, and255 _, by rw [w64 (by omega) (by omega)]; omega⟩
  · rw [if_neg hlt]
    exact ⟨_, _, _, rfl, and255 _, hi⟩

theorem tmod_bd {a n : Int} (ha : 0 ≤ a) (hn : 0 < n) : 0 ≤ Int.tmod a n ∧ Int.tmod a n < n := by
  rw [tmod_pos ha]
  exact ⟨Int.emod_nonneg _ (by omega), Int.emod_lt_of_pos _ hn⟩
theorem dBelow {l : List Int} {i : Int} (h : Int) {n : Int} (hl : l.length ≤ 4096) (hi : 0 ≤ i) (hn : 0 < n) : ∃ x i' h', spec_l1Below.f l i h n = some (x, i', h') ∧ (0 ≤ x ∧ x < n) ∧ 0 ≤ i' := by
  unfold spec_l1Below.f
  rw [if_neg (by omega)]
  split
  · obtain ⟨x, i1, h1, e, hx, hi1⟩ := dByte h hl hi
    rw [e]
    simp only [Option.bind_some]
    rw [if_neg (by omega)]
    exact ⟨_, _, _, rfl, tmod_bd hx.1 hn, hi1⟩
  · obtain ⟨x, i1, h1, e1, hx, hi1⟩ := dByte h hl hi
    rw [e1]
    simp only [Option.bind_some]
    obtain ⟨y, i2, h2, e2, hy, hi2⟩ := dByte h1 hl hi1
    rw [e2]
    simp only [Option.bind_some]
    obtain ⟨z, i3, h3, e3, hz, hi3⟩ := dByte h2 hl hi2
    rw [e3]
    simp only [Option.bind_some]
    rw [if_neg (by omega)]
    refine ⟨_, _, _, rfl, tmod_bd ?_ hn, hi3⟩
    rw [w64 (x := x * 65536) (by omega) (by omega), w64 (x := y * 256) (by omega) (by omega), w64 (x := x * 65536 + y * 256) (by omega) (by omega), w64 (x := x * 65536 + y * 256 + z) (by omega) (by omega)]
    omega

theorem dSome {l : List Int} {i : Int} (h : Int) {a b : Int} (hl : l.length ≤ 4096) (hi : 0 ≤ i) (hab : -1000000 ≤ a ∧ a ≤ b ∧ b ≤ 1000000) : ∃ x i' h', spec_l1Some.f l i h a b = some (x, i', h') ∧ (a ≤ x ∧ x ≤ b) ∧ 0 ≤ i' := by
  unfold spec_l1Some.f
  rw [w64 (x := b - a) (by omega) (by omega), w64 (x := b - a + 1) (by omega) (by omega)]
  obtain ⟨x, i1, h1, e, hx, hi1⟩ := dBelow h hl hi (show 0 < b - a + 1 by omega)
  rw [e]
  simp only [Option.bind_some]
  refine ⟨_, _, _, rfl, ?_, hi1⟩
  rw [w64 (by omega) (by omega)]
  omega

theorem dOnce {l : List Int} {i : Int} (h : Int) {n : Int} (hl : l.length ≤ 4096) (hi : 0 ≤ i) (hn : 0 < n) : ∃ x i' h', spec_l1Once.f l i h n = some (x, i', h') ∧ 0 ≤ i' := by
  unfold spec_l1Once.f
  obtain ⟨x, i1, h1, e, hx, hi1⟩ := dBelow h hl hi hn
  rw [e]
  simp only [Option.bind_some]
  exact ⟨_, _, _, rfl, hi1⟩

theorem dInt {l : List Int} {i : Int} (h : Int) {m : List Int} (hl : l.length ≤ 4096) (hi : 0 ≤ i) (hm : 0 < m.length) : ∃ x i' h', spec_l1Int.f l i h m = some (x, i', h') ∧ x ∈ m ∧ 0 ≤ i' := by
  unfold spec_l1Int.f
  obtain ⟨x, i1, h1, e, hx, hi1⟩ := dBelow h hl hi (show 0 < (m.length : Int) by omega)
  rw [e]
  simp only [Option.bind_some]
  rw [if_pos hx.1, if_pos hx.2]
  refine ⟨_, _, _, rfl, ?_, hi1⟩
  unfold rd
  rw [List.getD_eq_getElem?_getD, List.getElem?_eq_getElem (by omega)]
  exact List.getElem_mem _

def I64 (x : Int) : Prop := -9223372036854775808 ≤ x ∧ x ≤ 9223372036854775807

theorem dOdd {l : List Int} {i : Int} (h : Int) (hl : l.length ≤ 4096) (hi : 0 ≤ i) : ∃ x i' h', spec_l1Odd.f l i h = some (x, i', h') ∧ I64 x ∧ 0 ≤ i' := by
  unfold spec_l1Odd.f
  obtain ⟨x, i1, h1, e, hx, hi1⟩ := dInt h (m := [(-1), 0, 1, 2, 3, 7, 8, 9, 15, 16, 17, 63, 64, 65, 999, 1000, 4096, 4097, 9223372036854775807, (-9223372036854775808)]) hl hi (by simp)
  rw [e]
  simp only [Option.bind_some]
  refine ⟨_, _, _, rfl, ?_, hi1⟩
  unfold I64
  simp only [List.mem_cons, List.not_mem_nil, or_false] at hx
  omega

theorem new_loop (l : List Int) (hl : l.length ≤ 4096) (d : Nat) : ∀ (i h : Int), 0 ≤ i → (l.length : Int) - i = d → ∃ h', Ev (fun k => spec_l1New.l0 k l h i) (l, 0, h') := by
  induction d with
  | zero =>
    intro i h h0 hd
    refine ⟨h, Ev.succ' ?_⟩
    simp only [spec_l1New.l0, if_neg (show ¬ i < (l.length : Int) by omega)]
    exact Ev.now _
  | succ d ih =>
    intro i h h0 hd
    by_cases h4 : i < 4000
    · obtain ⟨h', e⟩ := ih (i + 1) (bits .and .i64 (wrap64 ((wrap64 ((wrap64 (h * 167)) + (wrap64 (rd l i)))) + 29)) 1073741823) (by omega) (by omega)
      refine ⟨h', Ev.succ' ?_⟩
      simp only [spec_l1New.l0, if_pos (show i < (l.length : Int) by omega), if_pos h4, if_pos h0]
      rw [w64 (x := i + 1) (by omega) (by omega)]
      exact e
    · refine ⟨h, Ev.succ' ?_⟩
      simp only [spec_l1New.l0, if_pos (show i < (l.length : Int) by omega), if_neg h4]
      exact Ev.now _
theorem dNew (l : List Int) (hl : l.length ≤ 4096) : ∃ h, Ev (fun k => spec_l1New.f k l) (l, 0, h) := by
  unfold spec_l1New.f
  exact new_loop l hl l.length 0 _ (by omega) (by omega)

theorem lawBig (l : List Int) : laws_big.f l = some (decide ((l.length : Int) > 4096)) := rfl

theorem dPlace {l : List Int} {i : Int} (h : Int) (hl : l.length ≤ 4096) (hi : 0 ≤ i) : ∃ x y i' h', spec_l2Draw.f l i h = some (x, y, i', h') ∧ (-64 ≤ x ∧ x ≤ 64) ∧ (-64 ≤ y ∧ y ≤ 64) ∧ 0 ≤ i' := by
  unfold spec_l2Draw.f
  obtain ⟨x, i1, h1, e1, hx, hi1⟩ := dSome h (a := -64) (b := 64) hl hi (by omega)
  rw [e1]
  simp only [Option.bind_some]
  obtain ⟨y, i2, h2, e2, hy, hi2⟩ := dSome h1 (a := -64) (b := 64) hl hi1 (by omega)
  rw [e2]
  simp only [Option.bind_some]
  exact ⟨_, _, _, _, rfl, hx, hy, hi2⟩

theorem dJet {l : List Int} {i : Int} (h : Int) (hl : l.length ≤ 4096) (hi : 0 ≤ i) : ∃ x y hd t lf i' h', spec_l3Draw.f l i h = some (x, y, hd, t, lf, i', h') ∧ ((-64 ≤ x ∧ x ≤ 64) ∧ (-64 ≤ y ∧ y ≤ 64) ∧ (0 ≤ hd ∧ hd ≤ 3) ∧ (0 ≤ t ∧ t ≤ 16) ∧ (1 ≤ lf ∧ lf ≤ 32)) ∧ 0 ≤ i' := by
  unfold spec_l3Draw.f
  obtain ⟨x, y, i1, h1, e1, hx, hy, hi1⟩ := dPlace h hl hi
  rw [e1]
  simp only [Option.bind_some]
  obtain ⟨hd, i2, h2, e2, hhd, hi2⟩ := dBelow h1 hl hi1 (show (0 : Int) < 4 by omega)
  rw [e2]
  simp only [Option.bind_some]
  obtain ⟨t, i3, h3, e3, ht, hi3⟩ := dBelow h2 hl hi2 (show (0 : Int) < 17 by omega)
  rw [e3]
  simp only [Option.bind_some]
  obtain ⟨lf, i4, h4, e4, hlf, hi4⟩ := dSome h3 (a := 1) (b := 32) hl hi3 (by omega)
  rw [e4]
  simp only [Option.bind_some]
  exact ⟨_, _, _, _, _, _, _, rfl, ⟨hx, hy, ⟨hhd.1, by omega⟩, ⟨ht.1, by omega⟩, hlf⟩, hi4⟩

theorem drawJet (l : List Int) (hl : l.length ≤ 4096) : ∃ x y h t lf, ((-64 ≤ x ∧ x ≤ 64) ∧ (-64 ≤ y ∧ y ≤ 64) ∧ (0 ≤ h ∧ h ≤ 3) ∧ (0 ≤ t ∧ t ≤ 16) ∧ (1 ≤ lf ∧ lf ≤ 32)) ∧ Ev (fun k => spec_DrawJet.f k l) (x, y, h, t, lf) := by
  obtain ⟨h0, e0⟩ := dNew l hl
  obtain ⟨x, y, h, t, lf, i1, h1, e1, hj, _⟩ := dJet (i := 0) h0 hl (by omega)
  refine ⟨x, y, h, t, lf, hj, ?_⟩
  unfold spec_DrawJet.f
  refine Ev.bind e0 ?_
  simp only [e1, Option.bind_some]
  exact Ev.now _

theorem htF {x y h t l : Int} (hj : JetOK x y h t l) (T : Int) (h0 : 0 ≤ T) (h1 : T ≤ l + 1) : htV x y h t l T = T * (l + 1 - T) := by unfold htV; rw [if_pos ⟨hj, h0, h1⟩]
theorem htO {x y h t l : Int} (T : Int) (h1 : ¬ (0 ≤ T ∧ T ≤ l + 1)) : htV x y h t l T = 0 := by unfold htV; rw [if_neg (by omega)]
theorem flF {x y h t l : Int} (hj : JetOK x y h t l) : flV x y h t l = l + 1 := by unfold flV; rw [if_pos hj]

theorem dAny {l : List Int} {i : Int} (h : Int) (hl : l.length ≤ 4096) (hi : 0 ≤ i) : ∃ x y i' h', Ev (fun k => spec_l2Any.f k l i h) (x, y, i', h') ∧ I64 x ∧ (-5000 ≤ y ∧ y ≤ 5000) ∧ 0 ≤ i' := by
  unfold spec_l2Any.f
  obtain ⟨x, y, i1, h1, e1, hx, hy, hi1⟩ := dPlace h hl hi
  obtain ⟨o, i2, h2, e2, hi2⟩ := dOnce h1 (n := 9) hl hi1 (by omega)
  have hj : ∀ (x' i3 h3 : Int), I64 x' → 0 ≤ i3 → ∃ x y1 i' h', Ev (fun k => spec_l2Any.j0 k l i3 h3 x' y) (x, y1, i', h') ∧ I64 x ∧ (-5000 ≤ y1 ∧ y1 ≤ 5000) ∧ 0 ≤ i' := fun x' i3 h3 hx' hi3 => by
    obtain ⟨o, i4, h4, e4, hi4⟩ := dOnce h3 (n := 9) hl hi3 (by omega)
    cases o with
    | true =>
      obtain ⟨z, i5, h5, e5, hz, hi5⟩ := dInt h4 (m := [4096, (-4096), 4097, (-4097), 4090]) hl hi4 (by simp)
      refine ⟨x', z, i5, h5, Ev.succ' ?_, hx', ?_, hi5⟩
      · simp only [spec_l2Any.j0, e4, e5, Option.bind_some, if_true]
        exact Ev.now _
      · simp only [List.mem_cons, List.not_mem_nil, or_false] at hz
        omega
    | false =>
      refine ⟨x', y, i4, h4, Ev.succ' ?_, hx', by omega, hi4⟩
      simp only [spec_l2Any.j0, e4, Option.bind_some, Bool.false_eq_true, if_false]
      exact Ev.now _
  cases o with
  | true =>
    obtain ⟨x', i3, h3, e3, hx', hi3⟩ := dOdd h2 hl hi2
    obtain ⟨a, b, i', h', e, r⟩ := hj x' i3 h3 hx' hi3
    refine ⟨a, b, i', h', ?_, r⟩
    simp only [e1, e2, e3, Option.bind_some, if_true]
    exact e
  | false =>
    obtain ⟨a, b, i', h', e, r⟩ := hj x i2 h2 (by unfold I64; omega) hi2
    refine ⟨a, b, i', h', ?_, r⟩
    simp only [e1, e2, Option.bind_some, Bool.false_eq_true, if_false]
    exact e

theorem dAnyJet {l : List Int} {i : Int} (h : Int) (hl : l.length ≤ 4096) (hi : 0 ≤ i) : ∃ x y hd t lf i' h', Ev (fun k => spec_l3Any.f k l i h) (x, y, hd, t, lf, i', h') ∧ (I64 x ∧ I64 y ∧ I64 hd ∧ I64 t ∧ I64 lf) ∧ 0 ≤ i' := by
  unfold spec_l3Any.f
  obtain ⟨x, y, hd, t, lf, i1, h1, e1, hj, hi1⟩ := dJet h hl hi
  obtain ⟨c, i2, h2, e2, hc, hi2⟩ := dBelow h1 (n := 12) hl hi1 (by omega)
  simp only [e1, e2, Option.bind_some]
  by_cases c0 : c = 0
  · obtain ⟨a, b, i3, h3, e3, ha, hb, hi3⟩ := dAny h2 hl hi2
    refine ⟨a, b, hd, t, lf, i3, h3, ?_, ⟨ha, by unfold I64; omega, by unfold I64; omega, by unfold I64; omega, by unfold I64; omega⟩, hi3⟩
    simp only [if_pos c0]
    exact Ev.bind e3 (Ev.now _)
  · by_cases c1 : c = 1
    · obtain ⟨a, i3, h3, e3, ha, hi3⟩ := dOdd h2 hl hi2
      refine ⟨x, y, a, t, lf, i3, h3, ?_, ⟨by unfold I64; omega, by unfold I64; omega, ha, by unfold I64; omega, by unfold I64; omega⟩, hi3⟩
      simp only [if_neg c0, if_pos c1, e3, Option.bind_some]
      exact Ev.now _
    · by_cases c2 : c = 2
      · obtain ⟨a, i3, h3, e3, ha, hi3⟩ := dInt h2 (m := [(-1), 17, 16, 1000, 9223372036854775807]) hl hi2 (by simp)
        simp only [List.mem_cons, List.not_mem_nil, or_false] at ha
        refine ⟨x, y, hd, a, lf, i3, h3, ?_, ⟨by unfold I64; omega, by unfold I64; omega, by unfold I64; omega, by unfold I64; omega, by unfold I64; omega⟩, hi3⟩
        simp only [if_neg c0, if_neg c1, if_pos c2, e3, Option.bind_some]
        exact Ev.now _
      · by_cases c3 : c = 3
        · obtain ⟨a, i3, h3, e3, ha, hi3⟩ := dInt h2 (m := [0, (-1), 33, 32, 9223372036854775807, (-9223372036854775808)]) hl hi2 (by simp)
          simp only [List.mem_cons, List.not_mem_nil, or_false] at ha
          refine ⟨x, y, hd, t, a, i3, h3, ?_, ⟨by unfold I64; omega, by unfold I64; omega, by unfold I64; omega, by unfold I64; omega, by unfold I64; omega⟩, hi3⟩
          simp only [if_neg c0, if_neg c1, if_neg c2, if_pos c3, e3, Option.bind_some]
          exact Ev.now _
        · by_cases c4 : c = 4
          · obtain ⟨a, i3, h3, e3, ha, hi3⟩ := dInt h2 (m := [1024, 1025, (-1024), (-1025)]) hl hi2 (by simp)
            obtain ⟨b, i4, h4, e4, hb, hi4⟩ := dInt h3 (m := [0, 1024, (-1025)]) hl hi3 (by simp)
            simp only [List.mem_cons, List.not_mem_nil, or_false] at ha hb
            refine ⟨a, b, hd, t, lf, i4, h4, ?_, ⟨by unfold I64; omega, by unfold I64; omega, by unfold I64; omega, by unfold I64; omega, by unfold I64; omega⟩, hi4⟩
            simp only [if_neg c0, if_neg c1, if_neg c2, if_neg c3, if_pos c4, e3, e4, Option.bind_some]
            exact Ev.now _
          · refine ⟨x, y, hd, t, lf, i2, h2, ?_, ⟨by unfold I64; omega, by unfold I64; omega, by unfold I64; omega, by unfold I64; omega, by unfold I64; omega⟩, hi2⟩
            simp only [if_neg c0, if_neg c1, if_neg c2, if_neg c3, if_neg c4]
            exact Ev.now _

def hit (x y u v l h t : Int) : Prop := (laV x y h t l).2.2 = true ∧ ((laV x y h t l).1 == u && (laV x y h t l).2.1 == v) = true
theorem aimV (x y u v l : Int) (d : Nat) : ∀ h : Int, 0 ≤ h → 4 - h = d →
    ((∀ h' t', h ≤ h' → h' ≤ 3 → 0 ≤ t' → t' ≤ 16 → ¬ hit x y u v l h' t') ∧ Ev (fun k => impl_AimJet.l0 k l h x y u v) (0, 0, 0, 0, 0, false)) ∨
    (∃ h1 t1, h ≤ h1 ∧ h1 ≤ 3 ∧ 0 ≤ t1 ∧ t1 ≤ 16 ∧ hit x y u v l h1 t1 ∧ (∀ h' t', h ≤ h' → (h' < h1 ∧ 0 ≤ t' ∧ t' ≤ 16 ∨ h' = h1 ∧ 0 ≤ t' ∧ t' < t1) → ¬ hit x y u v l h' t') ∧ Ev (fun k => impl_AimJet.l0 k l h x y u v) (x, y, h1, t1, l, true)) := by
  induction d with
  | zero =>
    intro h h0 hd
    refine Or.inl ⟨fun h' t' a b _ _ => by omega, Ev.succ' ?_⟩
    simp only [impl_AimJet.l0, if_neg (show ¬ h < 4 by omega)]; exact Ev.now _
  | succ d ih =>
    intro h h0 hd
    have inner : ∀ (e : Nat) (t : Int), 0 ≤ t → 17 - t = e →
        ((∀ t', t ≤ t' → t' ≤ 16 → ¬ hit x y u v l h t') ∧ ∀ r, Ev (fun k => impl_AimJet.l0 k l (h + 1) x y u v) r → Ev (fun k => impl_AimJet.l1 k l h h t x y u v) r) ∨
        (∃ t1, t ≤ t1 ∧ t1 ≤ 16 ∧ hit x y u v l h t1 ∧ (∀ t', t ≤ t' → t' < t1 → ¬ hit x y u v l h t') ∧ Ev (fun k => impl_AimJet.l1 k l h h t x y u v) (x, y, h, t1, l, true)) := by
      intro e
      induction e with
      | zero =>
        intro t t0 he
        refine Or.inl ⟨fun t' a b => by omega, fun r hr => Ev.succ' ?_⟩
        simp only [impl_AimJet.l1, if_neg (show ¬ t < 17 by omega)]
        rw [w64 (by omega) (by omega)]; exact hr
      | succ e ihe =>
        intro t t0 he
        by_cases hc : hit x y u v l h t
        · refine Or.inr ⟨t, by omega, by omega, hc, fun t' a b => by omega, Ev.succ' ?_⟩
          simp only [impl_AimJet.l1, if_pos (show t < 17 by omega)]
          refine Ev.bind (iLanding x y h t l) ?_
          simp only [if_pos hc.1, if_pos hc.2]
          exact Ev.now _
        · have stepE : ∀ r, Ev (fun k => impl_AimJet.l1 k l h h (t + 1) x y u v) r → Ev (fun k => impl_AimJet.l1 k l h h t x y u v) r := fun r hr => by
            refine Ev.succ' ?_
            simp only [impl_AimJet.l1, if_pos (show t < 17 by omega)]
            refine Ev.bind (iLanding x y h t l) ?_
            rw [w64 (by omega) (by omega)]
            by_cases h1 : (laV x y h t l).2.2 = true
            · simp only [if_pos h1, if_neg (fun h2 => hc ⟨h1, h2⟩)]
              exact hr
            · simp only [if_neg h1]
              exact hr
          rcases ihe (t + 1) (by omega) (by omega) with ⟨n1, n2⟩ | ⟨t1, a1, a2, a3, a4, a5⟩
          · refine Or.inl ⟨fun t' a b => ?_, fun r hr => stepE r (n2 r hr)⟩
            by_cases ht : t' = t
            · rw [ht]; exact hc
            · exact n1 t' (by omega) b
          · refine Or.inr ⟨t1, by omega, a2, a3, fun t' a b => ?_, stepE _ a5⟩
            by_cases ht : t' = t
            · rw [ht]; exact hc
            · exact a4 t' (by omega) b
    have out : ∀ r, Ev (fun k => impl_AimJet.l1 k l h h 0 x y u v) r → Ev (fun k => impl_AimJet.l0 k l h x y u v) r := fun r hr => by
      refine Ev.succ' ?_
      simp only [impl_AimJet.l0, if_pos (show h < 4 by omega)]; exact hr
    rcases inner 17 0 (by omega) (by omega) with ⟨n1, n2⟩ | ⟨t1, a1, a2, a3, a4, a5⟩
    · rcases ih (h + 1) (by omega) (by omega) with ⟨m1, m2⟩ | ⟨h1, t1, b1, b2, b3, b4, b5, b6, b7⟩
      · refine Or.inl ⟨fun h' t' a b c e => ?_, out _ (n2 _ m2)⟩
        by_cases hh : h' = h
        · rw [hh]; exact n1 t' c e
        · exact m1 h' t' (by omega) b c e
      · refine Or.inr ⟨h1, t1, by omega, b2, b3, b4, b5, fun h' t' a b => ?_, out _ (n2 _ b7)⟩
        by_cases hh : h' = h
        · rw [hh]; exact n1 t' (by omega) (by omega)
        · exact b6 h' t' (by omega) b
    · exact Or.inr ⟨h, t1, by omega, by omega, a1, a2, a3, fun h' t' a b => by
        have : h' = h := by omega
        rw [this]; exact a4 t' (by omega) (by omega), out _ a5⟩

theorem FnAim : ∀ (l0 : List Int), l0.length ≤ maxLen → l0.length * 1 ≤ 140737488351232 → (∀ x ∈ l0, (Lit.int .u8 x).wf = true) → ∃ k, laws_FnAim.f k l0 = some true := by
  intro l _ _ _
  refine Ev.rounds (r := true) ?_
  unfold laws_FnAim.f
  simp only [lawBig, Option.bind_some]
  by_cases hb : (l.length : Int) > 4096
  · simp only [hb, decide_true, if_true]
    exact Ev.now _
  · simp only [hb, decide_false, Bool.false_eq_true, if_false]
    have hl : l.length ≤ 4096 := by omega
    obtain ⟨x, y, u, v, L, ed⟩ : ∃ x y u v L, Ev (fun k => spec_DrawAimJet.f k l) (x, y, u, v, L) := by
      obtain ⟨h0, e0⟩ := dNew l hl
      obtain ⟨x, y, hd, t, L, i1, h1, e1, _, hi1⟩ := dAnyJet (i := 0) h0 hl (by omega)
      unfold spec_DrawAimJet.f
      by_cases hok : (laV x y hd t L).2.2 = true
      · obtain ⟨o, i2, h2, e2, hi2⟩ := dOnce h1 (n := 5) hl hi1 (by omega)
        cases o with
        | true =>
          obtain ⟨a, b, i3, h3, e3, _⟩ := dAny h2 hl hi2
          refine ⟨x, y, a, b, L, Ev.bind e0 (Ev.bind e1 (Ev.bind (sLanding x y hd t L) ?_))⟩
          simp only [hok, if_true, e2, Option.bind_some]
          exact Ev.bind e3 (Ev.now _)
        | false =>
          refine ⟨x, y, (laV x y hd t L).1, (laV x y hd t L).2.1, L, Ev.bind e0 (Ev.bind e1 (Ev.bind (sLanding x y hd t L) ?_))⟩
          simp only [hok, if_true, e2, Option.bind_some, Bool.false_eq_true, if_false]
          exact Ev.now _
      · obtain ⟨a, b, i3, h3, e3, _⟩ := dAny h1 hl hi1
        refine ⟨x, y, a, b, L, Ev.bind e0 (Ev.bind e1 (Ev.bind (sLanding x y hd t L) ?_))⟩
        simp only [hok, Bool.false_eq_true, if_false]
        exact Ev.bind e3 (Ev.now _)
    -- the second part: where a jet lands, it can be aimed
    obtain ⟨X, Y, h, t, lf, hj, ej⟩ := drawJet l hl
    have hok : JetOK X Y h t lf := by unfold JetOK; omega
    have hla : ∀ h' t', 0 ≤ h' → h' ≤ 3 → 0 ≤ t' → t' ≤ 16 → laV X Y h' t' lf = (X + (tr h' ((lf + 1) * t') 0).1, Y + (tr h' ((lf + 1) * t') 0).2, true) := fun h' t' a b c e => by
      have hj' : JetOK X Y h' t' lf := by unfold JetOK; omega
      unfold laV
      rw [flF hj']
      unfold paV
      rw [if_pos ⟨hj', by omega, by omega⟩]
    have hself : hit X Y (laV X Y h t lf).1 (laV X Y h t lf).2.1 lf h t := by
      unfold hit
      rw [hla h t (by omega) (by omega) (by omega) (by omega)]
      simp
    have huniq : ∀ h' t', 0 ≤ h' → h' ≤ 3 → 0 ≤ t' → t' ≤ 16 → hit X Y (laV X Y h t lf).1 (laV X Y h t lf).2.1 lf h' t' → t' = t ∧ (h' = h ∨ t = 0) := fun h' t' a b c e hh => by
      unfold hit at hh
      rw [hla h t (by omega) (by omega) (by omega) (by omega), hla h' t' a b c e] at hh
      have h1 := hh.2
      simp only [Bool.and_eq_true, beq_iff_eq] at h1
      have s0 : 0 ≤ (lf + 1) * t := Int.mul_nonneg (by omega) (by omega)
      have s1 : 0 ≤ (lf + 1) * t' := Int.mul_nonneg (by omega) (by omega)
      have z : (lf + 1) * t = 0 → t = 0 := fun hz => by
        rcases Int.mul_eq_zero.1 hz with h | h <;> omega
      have q : (lf + 1) * t' = (lf + 1) * t → t' = t := fun hz => Int.eq_of_mul_eq_mul_left (by omega) hz
      have ch : h = 0 ∨ h = 1 ∨ h = 2 ∨ h = 3 := by omega
      have ch' : h' = 0 ∨ h' = 1 ∨ h' = 2 ∨ h' = 3 := by omega
      generalize (lf + 1) * t = a1 at *
      generalize (lf + 1) * t' = a2 at *
      have key : a2 = a1 ∧ (h' = h ∨ a1 = 0) := by
        rcases ch with rfl | rfl | rfl | rfl <;> rcases ch' with rfl | rfl | rfl | rfl <;> simp [tr] at h1 <;> omega
      exact ⟨q key.1, key.2.imp id z⟩
    have second : ∃ r, Ev (fun k => impl_AimJet.f k X Y (laV X Y h t lf).1 (laV X Y h t lf).2.1 lf) r ∧ r.2.2.2.2.2 = true ∧ r.2.2.2.1 = t ∧ (r.2.2.1 = h ∨ (t = 0 ∧ r.2.2.1 = 0)) := by
      rcases aimV X Y (laV X Y h t lf).1 (laV X Y h t lf).2.1 lf 4 0 (by omega) (by omega) with ⟨n1, _⟩ | ⟨h1, t1, a1, a2, a3, a4, a5, a6, a7⟩
      · exact absurd hself (n1 h t (by omega) (by omega) (by omega) (by omega))
      · refine ⟨_, a7, rfl, ?_, ?_⟩
        · exact (huniq h1 t1 a1 a2 a3 a4 a5).1
        · obtain ⟨e1, e2⟩ := huniq h1 t1 a1 a2 a3 a4 a5
          rcases e2 with e2 | e2
          · exact Or.inl e2
          · refine Or.inr ⟨e2, ?_⟩
            simp only
            by_cases hz : h1 = 0
            · exact hz
            · exfalso
              have hit0 : hit X Y (laV X Y h t lf).1 (laV X Y h t lf).2.1 lf 0 0 := by
                unfold hit
                rw [hla h t (by omega) (by omega) (by omega) (by omega), hla 0 0 (by omega) (by omega) (by omega) (by omega), e2, Int.mul_zero]
                have ch : h = 0 ∨ h = 1 ∨ h = 2 ∨ h = 3 := by omega
                rcases ch with rfl | rfl | rfl | rfl <;> simp [tr]
              exact a6 0 0 (by omega) (Or.inl ⟨by omega, by omega, by omega⟩) hit0
    obtain ⟨r, er, r1, r2, r3⟩ := second
    have fin : Ev (fun k => (spec_DrawJet.f k l).bind fun bt364 => (impl_LandingOf.f k bt364.1 bt364.2.1 bt364.2.2.1 bt364.2.2.2.1 bt364.2.2.2.2).bind fun bt370 => (impl_AimJet.f k bt364.1 bt364.2.1 bt370.1 bt370.2.1 bt364.2.2.2.2).bind fun bt374 => if bt374.2.2.2.2.2 = true then (if bt374.2.2.2.1 = bt364.2.2.2.1 then (if bt374.2.2.1 = bt364.2.2.1 then some true else (if bt364.2.2.2.1 = 0 then some (bt374.2.2.1 == 0) else some false)) else some false) else some false) true := by
      refine Ev.bind ej (Ev.bind (iLanding X Y h t lf) (Ev.bind er ?_))
      simp only [if_pos r1, if_pos r2]
      by_cases hh : r.2.2.1 = h
      · simp only [if_pos hh]; exact Ev.now _
      · rcases r3 with r3 | ⟨r3, r4⟩
        · exact absurd r3 hh
        · simp only [if_neg hh, if_pos r3]
          simp only [r4, beq_self_eq_true]
          exact Ev.now _
    have finj : ∀ b : Bool, b = false → Ev (fun k => laws_FnAim.j0 k l b) true := fun b hb => by
      refine Ev.succ' ?_
      simp only [laws_FnAim.j0, hb, Bool.false_eq_true, if_false]
      exact fin
    refine Ev.bind ed ?_
    rcases aimV x y u v L 4 0 (by omega) (by omega) with ⟨_, n2⟩ | ⟨h1, t1, a1, a2, a3, a4, a5, a6, a7⟩
    · refine Ev.bind (a := (0, 0, 0, 0, 0, false)) n2 ?_
      simp only [Bool.false_eq_true, if_false]
      exact fin
    · refine Ev.bind (a := (x, y, h1, t1, L, true)) a7 ?_
      simp only [if_true]
      refine Ev.bind (iLanding x y h1 t1 L) ?_
      have h2 := a5.2
      simp only [Bool.and_eq_true, beq_iff_eq] at h2
      rw [show ((laV x y h1 t1 L).1 == u) = true by simpa using h2.1, show ((laV x y h1 t1 L).2.1 == v) = true by simpa using h2.2]
      simp only [Bool.not_true, Bool.or_self, Bool.false_eq_true, if_false, beq_self_eq_true, bne_self_eq_false]
      exact finj _ rfl

end Go.Proofs.Ytkioodeeadhdaaa.Pure
