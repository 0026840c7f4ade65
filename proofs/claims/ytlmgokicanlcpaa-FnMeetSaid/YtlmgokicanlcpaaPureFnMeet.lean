/- The plain law behind FnMeet: for every input that the row lets in, the printed function of the law answers true. No condition beyond the bounds that the statement names. -/
import Derived.Test.YtlmgokicanlcpaaQFnMeet
namespace Go.Proofs.Ytlmgokicanlcpaa.Pure
open Go.RowKit Go.Proofs.Ytlmgokicanlcpaa.PFnMeet Go.Proofs.YtlmgokicanlcpaaW.PrintWords Go.Proofs.YtlmgokicanlcpaaW.PrintLast
open Go.Proofs.YtlmgokicanlcpaaW.PrintMore
set_option linter.unusedVariables false
set_option linter.unusedSimpArgs false

theorem w64 {x : Int} (h0 : -9223372036854775808 ≤ x) (h1 : x ≤ 9223372036854775807) : wrap64 x = x := by unfold wrap64; omega
theorem wfb {a : Int} (h : (Lit.int .i64 a).wf = true) : -9223372036854775808 ≤ a ∧ a ≤ 9223372036854775807 := by
  simp [Lit.wf, IntKind.min, IntKind.max, IntKind.signed, IntKind.bits] at h
  omega
theorem Ev.succ' {α : Type} {g : Nat → Option α} {r : α} (h : Ev (fun k => g (k + 1)) r) : Ev g r := Ev.step (fun _ => rfl) h
theorem dec_congr {p q : Prop} [Decidable p] [Decidable q] (h : p ↔ q) : decide p = decide q := by simp [h]

theorem iWithin (a b c : Int) : impl_isWithin.f a b c = some (decide (b ≤ a ∧ a ≤ c)) := by
  unfold impl_isWithin.f
  split <;> simp <;> omega

theorem iIsMeasure (x : Int) : impl_IsMeasure.f x = some (decide (-4096 ≤ x ∧ x ≤ 4096)) := by
  unfold impl_IsMeasure.f
  rw [iWithin]
  rfl

theorem sIsHeading (x : Int) : spec_IsHeading.f x = some (decide (0 ≤ x ∧ x ≤ 3)) := by
  unfold spec_IsHeading.f
  split <;> simp <;> omega

theorem iIsHeading (x : Int) : impl_IsHeading.f x = some (decide (0 ≤ x ∧ x ≤ 3)) := by
  unfold impl_IsHeading.f
  rw [iWithin]
  rfl

theorem iIsPlace (x y : Int) : impl_IsPlace.f x y = some (decide ((-4096 ≤ x ∧ x ≤ 4096) ∧ (-4096 ≤ y ∧ y ≤ 4096))) := by
  unfold impl_IsPlace.f
  simp only [iIsMeasure, Option.bind_some]
  split <;> rename_i h <;> simp at h ⊢ <;> omega

def JetOK (x y h t l : Int) : Prop := (-1024 ≤ x ∧ x ≤ 1024) ∧ (-1024 ≤ y ∧ y ≤ 1024) ∧ (0 ≤ h ∧ h ≤ 3) ∧ (0 ≤ t ∧ t ≤ 16) ∧ (1 ≤ l ∧ l ≤ 32)
instance (x y h t l : Int) : Decidable (JetOK x y h t l) := by unfold JetOK; infer_instance

theorem sIn (a b c : Int) : spec_l1In.f a b c = some (decide (b ≤ a ∧ a ≤ c)) := by
  unfold spec_l1In.f
  split <;> simp <;> omega

theorem sIsJet (x y h t l : Int) : spec_IsJet.f x y h t l = some (decide (JetOK x y h t l)) := by
  unfold spec_IsJet.f
  simp only [JetOK]
  simp only [sIn, sIsHeading, Option.bind_some]
  by_cases h1 : -1024 ≤ x ∧ x ≤ 1024 <;> by_cases h2 : -1024 ≤ y ∧ y ≤ 1024 <;> by_cases h3 : 0 ≤ h ∧ h ≤ 3 <;> by_cases h4 : 0 ≤ t ∧ t ≤ 16 <;> simp [h1, h2, h3, h4]

theorem iIsJet (x y h t l : Int) : impl_IsJet.f x y h t l = some (decide (JetOK x y h t l)) := by
  unfold impl_IsJet.f
  simp only [JetOK]
  simp only [iWithin, iIsHeading, Option.bind_some]
  by_cases h1 : -1024 ≤ x ∧ x ≤ 1024 <;> by_cases h2 : -1024 ≤ y ∧ y ≤ 1024 <;> by_cases h3 : 0 ≤ h ∧ h ≤ 3 <;> by_cases h4 : 0 ≤ t ∧ t ≤ 16 <;> simp [h1, h2, h3, h4]

theorem tmod_pos {a b : Int} (h : 0 ≤ a) : Int.tmod a b = a % b := Int.tmod_eq_emod_of_nonneg h
theorem tmod_neg' (a b : Int) : Int.tmod (-a) b = -(Int.tmod a b) := Int.neg_tmod a b
theorem tdiv_pos {a b : Int} (h : 0 ≤ a) : Int.tdiv a b = a / b := Int.tdiv_eq_ediv_of_nonneg h
theorem tmod4 (n : Int) : (Int.tmod n 4 < 0 → Int.tmod n 4 + 4 = n % 4) ∧ (¬ Int.tmod n 4 < 0 → Int.tmod n 4 = n % 4) ∧ -3 ≤ Int.tmod n 4 ∧ Int.tmod n 4 ≤ 3 := by
  rcases Int.le_total 0 n with h | h
  · rw [tmod_pos h]; omega
  · obtain ⟨m, rfl⟩ : ∃ m, n = -m := ⟨-n, by omega⟩
    rw [tmod_neg', tmod_pos (by omega)]; omega

theorem sMod (n : Int) : spec_l2Mod.f n = some (n % 4) := by
  have h := tmod4 n
  unfold spec_l2Mod.f
  split
  · rw [w64 (by omega) (by omega)]; simp; omega
  · simp; omega

theorem iTurns (n : Int) : impl_turns.f n = some (n % 4) := by
  have h := tmod4 n
  unfold impl_turns.f
  rw [w64 (by omega) (by omega), tmod_pos (by omega)]
  simp
  by_cases h1 : Int.tmod n 4 < 0 <;> omega

def PL (x y : Int) : Prop := (-4096 ≤ x ∧ x ≤ 4096) ∧ (-4096 ≤ y ∧ y ≤ 4096)
instance (x y : Int) : Decidable (PL x y) := by unfold PL; infer_instance

theorem iPL (x y : Int) : impl_IsPlace.f x y = some (decide (PL x y)) := iIsPlace x y

def chk (x y : Int) : Int × Int × Bool := if PL x y then (x, y, true) else (0, 0, false)

theorem iChk (x y : Int) : impl_checked.f x y = some (chk x y) := by
  unfold impl_checked.f chk
  simp only [iPL, Option.bind_some]
  by_cases h : PL x y <;> simp [h]

theorem sl2Add (x y u v : Int) : spec_l2Add.f x y u v = some (wrap64 (x + u), wrap64 (y + v)) := rfl

def tr (m x y : Int) : Int × Int := if m = 0 then (x, y) else if m = 1 then (-y, x) else if m = 2 then (-x, -y) else (y, -x)
theorem tr0 (x y : Int) : tr 0 x y = (x, y) := by simp [tr]
theorem tr1 (x y : Int) : tr 1 x y = (-y, x) := by simp [tr]
theorem tr2 (x y : Int) : tr 2 x y = (-x, -y) := by simp [tr]
theorem tr3 (x y : Int) : tr 3 x y = (y, -x) := by simp [tr]
theorem tr_bd {m x y b : Int} (hx : -b ≤ x ∧ x ≤ b) (hy : -b ≤ y ∧ y ≤ b) : (-b ≤ (tr m x y).1 ∧ (tr m x y).1 ≤ b) ∧ (-b ≤ (tr m x y).2 ∧ (tr m x y).2 ≤ b) := by
  unfold tr
  split
  · simp; omega
  · split
    · simp; omega
    · split <;> simp <;> omega

theorem sTurnL {x y : Int} (m : Int) (hm : 0 ≤ m ∧ m ≤ 3) (hx : -1000000000 ≤ x ∧ x ≤ 1000000000) (hy : -1000000000 ≤ y ∧ y ≤ 1000000000) : Ev (fun k => spec_l2Turn.l0 k m x y) (tr m x y) := by
  have e : ∀ x y : Int, Ev (fun k => spec_l2Turn.l0 k 0 x y) (x, y) := fun x y => Ev.step (f := fun _ => some (x, y)) (fun k => by simp only [spec_l2Turn.l0]; rw [if_neg (by omega)]) (Ev.now _)
  have s : ∀ (m m' x y : Int) (r : Int × Int), m' = m - 1 → 0 < m → m ≤ 3 → (-1000000000 ≤ y ∧ y ≤ 1000000000) → Ev (fun k => spec_l2Turn.l0 k m' (-y) x) r → Ev (fun k => spec_l2Turn.l0 k m x y) r := fun m m' x y r hm' h0 h3 hy h => by
    refine Ev.step (fun k => ?_) h
    simp only [spec_l2Turn.l0]
    rw [if_pos (by omega), w64 (x := m - 1) (by omega) (by omega), w64 (x := -y) (by omega) (by omega), hm']
  have : m = 0 ∨ m = 1 ∨ m = 2 ∨ m = 3 := by omega
  rcases this with rfl | rfl | rfl | rfl
  · rw [tr0]; exact e x y
  · rw [tr1]; exact s 1 0 _ _ _ (by omega) (by omega) (by omega) hy (e _ _)
  · rw [tr2]; exact s 2 1 _ _ _ (by omega) (by omega) (by omega) hy (s 1 0 _ _ _ (by omega) (by omega) (by omega) hx (e _ _))
  · rw [tr3]
    have := s 3 2 _ _ _ (by omega) (by omega) (by omega) hy (s 2 1 _ _ _ (by omega) (by omega) (by omega) hx (s 1 0 _ _ _ (by omega) (by omega) (by omega) (by omega) (e _ _)))
    rwa [Int.neg_neg] at this

theorem sTurn {x y : Int} (n : Int) (hx : -1000000000 ≤ x ∧ x ≤ 1000000000) (hy : -1000000000 ≤ y ∧ y ≤ 1000000000) : Ev (fun k => spec_l2Turn.f k x y n) (tr (n % 4) x y) := by
  unfold spec_l2Turn.f
  simp only [sMod, Option.bind_some]
  exact sTurnL _ (by omega) hx hy

theorem iTurnL {x y : Int} (m : Int) (hm : 0 ≤ m ∧ m ≤ 3) (hx : -1000000000 ≤ x ∧ x ≤ 1000000000) (hy : -1000000000 ≤ y ∧ y ≤ 1000000000) : Ev (fun k => impl_turned.l0 k m 0 x y) (tr m x y) := by
  have e : ∀ m x y : Int, Ev (fun k => impl_turned.l0 k m m x y) (x, y) := fun m x y => Ev.step (f := fun _ => some (x, y)) (fun k => by simp only [impl_turned.l0]; rw [if_neg (by omega)]) (Ev.now _)
  have s : ∀ (m i i' x y : Int) (r : Int × Int), i' = i + 1 → 0 ≤ i → i < m → m ≤ 3 → (-1000000000 ≤ y ∧ y ≤ 1000000000) → Ev (fun k => impl_turned.l0 k m i' (-y) x) r → Ev (fun k => impl_turned.l0 k m i x y) r := fun m i i' x y r hi' h0 h1 h3 hy h => by
    refine Ev.step (fun k => ?_) h
    simp only [impl_turned.l0]
    rw [if_pos (by omega), w64 (x := i + 1) (by omega) (by omega), w64 (x := -y) (by omega) (by omega), hi']
  have : m = 0 ∨ m = 1 ∨ m = 2 ∨ m = 3 := by omega
  rcases this with rfl | rfl | rfl | rfl
  · rw [tr0]; exact e 0 x y
  · rw [tr1]; exact s 1 0 1 _ _ _ (by omega) (by omega) (by omega) (by omega) hy (e 1 _ _)
  · rw [tr2]; exact s 2 0 1 _ _ _ (by omega) (by omega) (by omega) (by omega) hy (s 2 1 2 _ _ _ (by omega) (by omega) (by omega) (by omega) hx (e 2 _ _))
  · rw [tr3]
    have := s 3 0 1 _ _ _ (by omega) (by omega) (by omega) (by omega) hy (s 3 1 2 _ _ _ (by omega) (by omega) (by omega) (by omega) hx (s 3 2 3 _ _ _ (by omega) (by omega) (by omega) (by omega) (by omega) (e 3 _ _)))
    rwa [Int.neg_neg] at this

theorem iTurn {x y : Int} (n : Int) (hx : -1000000000 ≤ x ∧ x ≤ 1000000000) (hy : -1000000000 ≤ y ∧ y ≤ 1000000000) : Ev (fun k => impl_turned.f k x y n) (tr (n % 4) x y) := by
  unfold impl_turned.f
  simp only [iTurns, Option.bind_some]
  exact iTurnL _ (by omega) hx hy

def stV (x y h s : Int) : Int × Int × Bool := if PL x y ∧ (0 ≤ h ∧ h ≤ 3) ∧ (-4096 ≤ s ∧ s ≤ 4096) then chk (x + (tr h s 0).1) (y + (tr h s 0).2) else (0, 0, false)

theorem iStep (x y h s : Int) : Ev (fun k => impl_StepFrom.f k x y h s) (stV x y h s) := by
  have bad : ∀ b : Bool, b = true → Ev (fun k => impl_StepFrom.j0 k h s b x y) (0, 0, false) := fun b hb => Ev.step (f := fun _ => some (0, 0, false)) (fun k => by simp only [impl_StepFrom.j0]; rw [if_pos hb]) (Ev.now _)
  unfold impl_StepFrom.f stV
  simp only [iPL, iIsHeading, iIsMeasure, Option.bind_some]
  by_cases h1 : PL x y
  · by_cases h2 : 0 ≤ h ∧ h ≤ 3
    · by_cases h3 : -4096 ≤ s ∧ s ≤ 4096
      · simp only [h1, h2, h3, decide_true, if_true, and_self, Bool.not_true]
        have ht := tr_bd (m := h) (x := s) (y := 0) (b := 4096) (by omega) (by omega)
        refine Ev.step (f := fun k => (impl_turned.f k s 0 h).bind fun bt => (impl_checked.f (wrap64 (x + bt.1)) (wrap64 (y + bt.2))).bind fun b2 => some (b2.1, b2.2.1, b2.2.2)) (fun k => by simp only [impl_StepFrom.j0, Bool.false_eq_true, if_false]) ?_
        have hs := iTurn (x := s) (y := 0) h (by omega) (by omega)
        rw [show h % 4 = h by omega] at hs
        refine Ev.bind hs ?_
        unfold PL at h1
        simp only [iChk, Option.bind_some]
        rw [w64 (x := x + _) (by omega) (by omega), w64 (x := y + _) (by omega) (by omega)]
        exact Ev.now _
      · simp only [h1, h2, h3, decide_true, decide_false, if_true, and_false, if_false, Bool.not_false, and_self]
        exact bad _ rfl
    · simp only [h1, h2, decide_true, decide_false, if_true, and_false, false_and, if_false, Bool.false_eq_true]
      exact bad _ rfl
  · simp only [h1, decide_false, false_and, if_false, Bool.false_eq_true]
    exact bad _ rfl

def flV (x y h t l : Int) : Int := if JetOK x y h t l then l + 1 else 0
theorem pb {t u : Int} (ht : 0 ≤ t ∧ t ≤ 1000) (hu : 0 ≤ u ∧ u ≤ 1000) : 0 ≤ t * u ∧ t * u ≤ 1000000 :=
  ⟨Int.mul_nonneg ht.1 hu.1, by have := Int.mul_le_mul ht.2 hu.2 hu.1 (by omega : (0 : Int) ≤ 1000); omega⟩

theorem iFlight (x y h t l : Int) : impl_FlightOf.f x y h t l = some (flV x y h t l) := by
  unfold impl_FlightOf.f flV
  simp only [iIsJet, Option.bind_some]
  by_cases hj : JetOK x y h t l
  · have := hj
    unfold JetOK at this
    rw [w64 (by omega) (by omega)]
    simp [hj]
  · simp [hj]

theorem flight_loop (l : Int) (hl : 1 ≤ l ∧ l ≤ 32) (d : Nat) : ∀ t : Int, 1 ≤ t → l + 1 - t = d → Ev (fun k => spec_FlightOf.l0 k t (t * (l + 1 - t)) (l - 2 * t)) (l + 1) := by
  induction d with
  | zero =>
    intro t h1 hd
    have e : l + 1 - t = 0 := by omega
    refine Ev.step (f := fun _ => some (l + 1)) (fun k => ?_) (Ev.now _)
    simp only [spec_FlightOf.l0]
    rw [e, if_neg (by omega)]
    congr 1; omega
  | succ d ih =>
    intro t h1 hd
    have hp : 0 < t * (l + 1 - t) := Int.mul_pos (by omega) (by omega)
    have hb := pb (t := t) (u := l + 1 - t) (by omega) (by omega)
    have hs : t * (l + 1 - t) + (l - 2 * t) = (t + 1) * (l + 1 - (t + 1)) := by grind
    have hb2 := pb (t := t + 1) (u := l + 1 - (t + 1)) (by omega) (by omega)
    refine Ev.step (fun k => ?_) (ih (t + 1) (by omega) (by omega))
    simp only [spec_FlightOf.l0]
    rw [if_pos hp, w64 (x := t + 1) (by omega) (by omega), hs, w64 (x := (t + 1) * _) (by omega) (by omega), w64 (x := l - 2 * t - 2) (by omega) (by omega), show l - 2 * t - 2 = l - 2 * (t + 1) by omega]
theorem sFlight (x y h t l : Int) : Ev (fun k => spec_FlightOf.f k x y h t l) (flV x y h t l) := by
  unfold spec_FlightOf.f flV
  simp only [sIsJet, Option.bind_some]
  by_cases hj : JetOK x y h t l
  · simp only [hj, decide_true, if_true]
    unfold JetOK at hj
    rw [w64 (by omega) (by omega)]
    have := flight_loop l (by omega) l.toNat 1 (by omega) (by omega)
    rw [show (1 : Int) * (l + 1 - 1) = l by omega, show l - 2 * 1 = l - 2 by omega] at this
    exact this
  · simp only [hj, decide_false, if_false, Bool.false_eq_true]
    exact Ev.now _

def htV (x y h t l T : Int) : Int := if JetOK x y h t l ∧ 0 ≤ T ∧ T ≤ l + 1 then T * (l + 1 - T) else 0

theorem iAir (x y h t l T : Int) : impl_isInAir.f x y h t l T = some (decide (JetOK x y h t l ∧ 0 ≤ T ∧ T ≤ l + 1)) := by
  unfold impl_isInAir.f
  simp only [iIsJet, iFlight, iWithin, Option.bind_some, flV]
  by_cases hj : JetOK x y h t l <;> simp [hj]

theorem iHeight (x y h t l T : Int) : impl_HeightAt.f x y h t l T = some (htV x y h t l T) := by
  unfold impl_HeightAt.f htV
  simp only [iAir, Option.bind_some]
  by_cases hj : JetOK x y h t l ∧ 0 ≤ T ∧ T ≤ l + 1
  · have hj' := hj
    unfold JetOK at hj'
    have hb := pb (t := T) (u := l + 1 - T) (by omega) (by omega)
    rw [w64 (x := l + 1) (by omega) (by omega), w64 (x := l + 1 - T) (by omega) (by omega), w64 (x := T * _) (by omega) (by omega), if_pos (by simpa using hj), if_pos hj]
  · rw [if_neg (by simpa using hj), if_neg hj]

theorem rd_get (l : List Int) (i : Int) (h0 : 0 ≤ i) (h1 : i < l.length) : l[i.toNat]? = some (rd l i) := by
  unfold rd
  rw [List.getD_eq_getElem?_getD]
  obtain ⟨v, hv⟩ : ∃ v, l[i.toNat]? = some v := ⟨_, List.getElem?_eq_getElem (by omega)⟩
  rw [hv]; rfl

def paV (x y h t l T : Int) : Int × Int × Bool := if JetOK x y h t l ∧ 0 ≤ T ∧ T ≤ l + 1 then (x + (tr h (T * t) 0).1, y + (tr h (T * t) 0).2, true) else (0, 0, false)
theorem pb2 {T t l : Int} (hT : 0 ≤ T ∧ T ≤ l + 1) (hl : l ≤ 32) (ht : 0 ≤ t ∧ t ≤ 16) : 0 ≤ T * t ∧ T * t ≤ 528 :=
  ⟨Int.mul_nonneg hT.1 ht.1, by have := Int.mul_le_mul (show T ≤ 33 by omega) ht.2 ht.1 (by omega : (0 : Int) ≤ 33); omega⟩

theorem sL3 (x y h t l T : Int) (hj : JetOK x y h t l) (h0 : 0 ≤ T) (h1 : T ≤ l + 1) : Ev (fun k => spec_l3Place.f k x y h t l T) (x + (tr h (T * t) 0).1, y + (tr h (T * t) 0).2) := by
  unfold JetOK at hj
  have hb := pb2 (T := T) (t := t) (l := l) (by omega) (by omega) (by omega)
  have ht := tr_bd (m := h) (x := T * t) (y := 0) (b := 528) (by omega) (by omega)
  unfold spec_l3Place.f
  rw [w64 (x := T * t) (by omega) (by omega)]
  have hs := sTurn (x := T * t) (y := 0) h (by omega) (by omega)
  rw [show h % 4 = h by omega] at hs
  refine Ev.bind hs ?_
  simp only [sl2Add, Option.bind_some]
  rw [w64 (x := x + _) (by omega) (by omega), w64 (x := y + _) (by omega) (by omega)]
  exact Ev.now _

theorem sPlaceAt (x y h t l T : Int) : Ev (fun k => spec_PlaceAt.f k x y h t l T) (paV x y h t l T) := by
  unfold spec_PlaceAt.f paV
  simp only [sIsJet, Option.bind_some]
  by_cases hj : JetOK x y h t l
  · simp only [hj, decide_true, if_true, true_and]
    by_cases h0 : T < 0
    · simp only [if_pos h0]
      rw [if_neg (by omega)]
      exact Ev.now _
    · simp only [if_neg h0]
      have hf := sFlight x y h t l
      rw [show flV x y h t l = l + 1 by unfold flV; rw [if_pos hj]] at hf
      refine Ev.bind hf ?_
      by_cases h1 : T > l + 1
      · simp only [if_pos h1]
        rw [if_neg (by omega)]
        exact Ev.now _
      · simp only [if_neg h1]
        rw [if_pos (by omega)]
        exact Ev.bind (sL3 x y h t l T hj (by omega) (by omega)) (Ev.now _)
  · simp only [hj, decide_false, false_and, if_false, Bool.false_eq_true]
    exact Ev.now _

theorem iPlaceAt (x y h t l T : Int) : Ev (fun k => impl_PlaceAt.f k x y h t l T) (paV x y h t l T) := by
  unfold impl_PlaceAt.f paV
  simp only [iAir, Option.bind_some]
  by_cases hj : JetOK x y h t l ∧ 0 ≤ T ∧ T ≤ l + 1
  · rw [if_pos hj]
    simp only [hj, decide_true, if_true, and_self]
    have hj' := hj
    unfold JetOK at hj'
    have hb := pb2 (T := T) (t := t) (l := l) (by omega) (by omega) (by omega)
    have ht := tr_bd (m := h) (x := T * t) (y := 0) (b := 528) (by omega) (by omega)
    rw [w64 (x := T * t) (by omega) (by omega)]
    have hs := iStep x y h (T * t)
    have e : stV x y h (T * t) = (x + (tr h (T * t) 0).1, y + (tr h (T * t) 0).2, true) := by
      unfold stV chk
      rw [if_pos (by unfold PL; omega), if_pos (by unfold PL; omega)]
    rw [e] at hs
    exact Ev.bind hs (Ev.now _)
  · rw [if_neg hj]
    simp only [hj, decide_false, if_false, Bool.false_eq_true]
    exact Ev.now _

def meetB (x y h t l x' y' h' t' l' T : Int) : Bool := ((paV x y h t l T).1 == (paV x' y' h' t' l' T).1 && (paV x y h t l T).2.1 == (paV x' y' h' t' l' T).2.1) && (htV x y h t l T == htV x' y' h' t' l' T)

theorem iMeet_step (x y h t l x' y' h' t' l' N T : Int) (acc : List Int) (r : List Int) (h0 : 0 ≤ T) (h1 : T < N) (hN : N ≤ 100) (hacc : acc.length ≤ 100)
    (hr : Ev (fun k => impl_MeetingsOf.l0 k (if meetB x y h t l x' y' h' t' l' T then acc ++ [T] else acc) N (T + 1) x y h t l x' y' h' t' l') r) : Ev (fun k => impl_MeetingsOf.l0 k acc N T x y h t l x' y' h' t' l') r := by
  refine Ev.succ' ?_
  simp only [impl_MeetingsOf.l0, if_pos h1]
  refine Ev.bind (iPlaceAt x y h t l T) (Ev.bind (iPlaceAt x' y' h' t' l' T) ?_)
  rw [w64 (x := T + 1) (by omega) (by omega)]
  unfold meetB at hr
  by_cases hp : ((paV x y h t l T).1 == (paV x' y' h' t' l' T).1 && (paV x y h t l T).2.1 == (paV x' y' h' t' l' T).2.1) = true
  · simp only [if_pos hp, iHeight, Option.bind_some]
    by_cases hh : htV x y h t l T = htV x' y' h' t' l' T
    · simp only [if_pos hh, if_pos (show acc.length < 17592186044416 by omega)]
      simp only [hp, hh, beq_self_eq_true, Bool.and_self, if_true] at hr
      exact hr
    · simp only [if_neg hh]
      simp only [hp, Bool.true_and, beq_iff_eq, if_neg hh] at hr
      exact hr
  · simp only [if_neg hp]
    rw [Bool.not_eq_true] at hp
    simp only [hp, Bool.false_and, Bool.false_eq_true, if_false] at hr
    exact hr
theorem iMeet_stop (x y h t l x' y' h' t' l' N T : Int) (acc : List Int) (h1 : ¬ T < N) : Ev (fun k => impl_MeetingsOf.l0 k acc N T x y h t l x' y' h' t' l') acc := by
  refine Ev.succ' ?_
  simp only [impl_MeetingsOf.l0, if_neg h1]
  exact Ev.now _
theorem iMeet_f (x y h t l x' y' h' t' l' : Int) (r : List Int) (hr : if JetOK x y h t l ∧ JetOK x' y' h' t' l' then Ev (fun k => impl_MeetingsOf.l0 k [] (mn (l + 1) (l' + 1) + 1) 0 x y h t l x' y' h' t' l') r else r = []) : Ev (fun k => impl_MeetingsOf.f k x y h t l x' y' h' t' l') r := by
  unfold impl_MeetingsOf.f
  simp only [iIsJet, Option.bind_some]
  have hbad : ∀ b : Bool, b = true → Ev (fun k => impl_MeetingsOf.j0 k [] b x y h t l x' y' h' t' l') [] := fun b hb => by
    refine Ev.succ' ?_
    simp only [impl_MeetingsOf.j0, if_pos hb]
    exact Ev.now _
  by_cases hj : JetOK x y h t l
  · by_cases hj' : JetOK x' y' h' t' l'
    · rw [if_pos ⟨hj, hj'⟩] at hr
      simp only [hj, hj', decide_true, if_true, Bool.not_true]
      have hl := hj
      have hl' := hj'
      unfold JetOK at hl hl'
      refine Ev.succ' ?_
      simp only [impl_MeetingsOf.j0, Bool.false_eq_true, if_false, iFlight, Option.bind_some]
      rw [show flV x y h t l = l + 1 by unfold flV; rw [if_pos hj], show flV x' y' h' t' l' = l' + 1 by unfold flV; rw [if_pos hj'], w64 (x := _ + 1) (by unfold mn; split <;> omega) (by unfold mn; split <;> omega)]
      exact hr
    · rw [if_neg (by simp [hj'])] at hr
      subst hr
      simp only [hj, hj', decide_true, decide_false, if_true, Bool.not_false]
      exact hbad _ rfl
  · rw [if_neg (by simp [hj])] at hr
    subst hr
    simp only [hj, decide_false, Bool.false_eq_true, if_false]
    exact hbad _ rfl

def meetL (B : Int → Bool) : Nat → Int → List Int
  | 0, _ => []
  | d + 1, T => if B T then T :: meetL B d (T + 1) else meetL B d (T + 1)
theorem meetL_len (B : Int → Bool) : ∀ (d : Nat) (T : Int), (meetL B d T).length ≤ d
  | 0, _ => Nat.le_refl _
  | d + 1, T => by
    have := meetL_len B d (T + 1)
    unfold meetL
    split
    · simp only [List.length_cons]; omega
    · omega

theorem iMeet_loop (x y h t l x' y' h' t' l' N : Int) (hN : N ≤ 100) (d : Nat) : ∀ (T : Int) (acc : List Int), 0 ≤ T → acc.length ≤ T → N - T = d → Ev (fun k => impl_MeetingsOf.l0 k acc N T x y h t l x' y' h' t' l') (acc ++ meetL (meetB x y h t l x' y' h' t' l') d T) := by
  induction d with
  | zero =>
    intro T acc h0 ha hd
    unfold meetL
    rw [List.append_nil]
    exact iMeet_stop x y h t l x' y' h' t' l' N T acc (by omega)
  | succ d ih =>
    intro T acc h0 ha hd
    refine iMeet_step x y h t l x' y' h' t' l' N T acc _ h0 (by omega) hN (by omega) ?_
    unfold meetL
    by_cases hb : meetB x y h t l x' y' h' t' l' T = true
    · simp only [if_pos hb]
      have := ih (T + 1) (acc ++ [T]) (by omega) (by rw [List.length_append, List.length_singleton]; omega) (by omega)
      rw [List.append_assoc] at this
      exact this
    · simp only [if_neg hb]
      exact ih (T + 1) acc (by omega) (by omega) (by omega)
def meetOf (x y h t l x' y' h' t' l' : Int) : List Int := if JetOK x y h t l ∧ JetOK x' y' h' t' l' then meetL (meetB x y h t l x' y' h' t' l') (mn (l + 1) (l' + 1) + 1).toNat 0 else []
theorem iMeetV (x y h t l x' y' h' t' l' : Int) : Ev (fun k => impl_MeetingsOf.f k x y h t l x' y' h' t' l') (meetOf x y h t l x' y' h' t' l') := by
  refine iMeet_f x y h t l x' y' h' t' l' _ ?_
  by_cases hj : JetOK x y h t l ∧ JetOK x' y' h' t' l'
  · rw [if_pos hj]
    unfold meetOf
    rw [if_pos hj]
    unfold JetOK at hj
    have hb : 0 ≤ mn (l + 1) (l' + 1) ∧ mn (l + 1) (l' + 1) ≤ 33 := by unfold mn; split <;> omega
    have := iMeet_loop x y h t l x' y' h' t' l' (mn (l + 1) (l' + 1) + 1) (by omega) (mn (l + 1) (l' + 1) + 1).toNat 0 [] (by omega) (by simp) (by omega)
    rwa [List.nil_append] at this
  · rw [if_neg hj]
    unfold meetOf
    rw [if_neg hj]

theorem and255 (x : Int) : 0 ≤ bits .and .i64 x 255 ∧ bits .and .i64 x 255 ≤ 255 := by
  simp only [bits]
  have h : ((BitVec.ofInt IntKind.i64.bits x &&& BitVec.ofInt IntKind.i64.bits 255).toNat : Int) ≤ 255 := by
    rw [BitVec.toNat_and]
    have : (BitVec.ofInt IntKind.i64.bits x).toNat &&& (BitVec.ofInt IntKind.i64.bits 255).toNat ≤ 255 := Nat.le_trans Nat.and_le_right (by decide)
    omega
  have h0 : (0 : Int) ≤ ((BitVec.ofInt IntKind.i64.bits x &&& BitVec.ofInt IntKind.i64.bits 255).toNat : Int) := Int.natCast_nonneg _
  generalize ((BitVec.ofInt IntKind.i64.bits x &&& BitVec.ofInt IntKind.i64.bits 255).toNat : Int) = z at h h0
  have e : IntKind.i64.wrap z = z := by
    simp [IntKind.wrap, IntKind.bits, IntKind.signed]
    split <;> omega
  rw [e]
  exact ⟨h0, h⟩
theorem dByte {l : List Int} {i : Int} (h : Int) (hl : l.length ≤ 4096) (hi : 0 ≤ i) : ∃ x i' h', spec_l1Byte.f l i h = some (x, i', h') ∧ (0 ≤ x ∧ x ≤ 255) ∧ 0 ≤ i' := by
  unfold spec_l1Byte.f
  by_cases hlt : i < (l.length : Int)
  · rw [if_pos hlt, if_pos hi]
    exact ⟨_, _, _, rfl, and255 _, by rw [w64 (by omega) (by omega)]; omega⟩
  · rw [if_neg hlt]
    exact ⟨_, _, _, rfl, and255 _, hi⟩

theorem tmod_bd {a n : Int} (ha : 0 ≤ a) (hn : 0 < n) : 0 ≤ Int.tmod a n ∧ Int.tmod a n < n := by
  rw [tmod_pos ha]
  exact ⟨Int.emod_nonneg _ (by omega), Int.emod_lt_of_pos _ hn⟩
theorem dBelow {l : List Int} {i : Int} (h : Int) {n : Int} (hl : l.length ≤ 4096) (hi : 0 ≤ i) (hn : 0 < n) : ∃ x i' h', spec_l1Below.f l i h n = some (x, i', h') ∧ (0 ≤ x ∧ x < n) ∧ 0 ≤ i' := by
  unfold spec_l1Below.f
  rw [if_neg (by omega)]
  split
  · obtain ⟨x, i1, h1, e, hx, hi1⟩ := dByte h hl hi
    rw [e]
    simp only [Option.bind_some]
    rw [if_neg (by omega)]
    exact ⟨_, _, _, rfl, tmod_bd hx.1 hn, hi1⟩
  · obtain ⟨x, i1, h1, e1, hx, hi1⟩ := dByte h hl hi
    rw [e1]
    simp only [Option.bind_some]
    obtain ⟨y, i2, h2, e2, hy, hi2⟩ := dByte h1 hl hi1
    rw [e2]
    simp only [Option.bind_some]
    obtain ⟨z, i3, h3, e3, hz, hi3⟩ := dByte h2 hl hi2
    rw [e3]
    simp only [Option.bind_some]
    rw [if_neg (by omega)]
    refine ⟨_, _, _, rfl, tmod_bd ?_ hn, hi3⟩
    rw [w64 (x := x * 65536) (by omega) (by omega), w64 (x := y * 256) (by omega) (by omega), w64 (x := x * 65536 + y * 256) (by omega) (by omega), w64 (x := x * 65536 + y * 256 + z) (by omega) (by omega)]
    omega

theorem dSome {l : List Int} {i : Int} (h : Int) {a b : Int} (hl : l.length ≤ 4096) (hi : 0 ≤ i) (hab : -1000000 ≤ a ∧ a ≤ b ∧ b ≤ 1000000) : ∃ x i' h', spec_l1Some.f l i h a b = some (x, i', h') ∧ (a ≤ x ∧ x ≤ b) ∧ 0 ≤ i' := by
  unfold spec_l1Some.f
  rw [w64 (x := b - a) (by omega) (by omega), w64 (x := b - a + 1) (by omega) (by omega)]
  obtain ⟨x, i1, h1, e, hx, hi1⟩ := dBelow h hl hi (show 0 < b - a + 1 by omega)
  rw [e]
  simp only [Option.bind_some]
  refine ⟨_, _, _, rfl, ?_, hi1⟩
  rw [w64 (by omega) (by omega)]
  omega

theorem dOnce {l : List Int} {i : Int} (h : Int) {n : Int} (hl : l.length ≤ 4096) (hi : 0 ≤ i) (hn : 0 < n) : ∃ x i' h', spec_l1Once.f l i h n = some (x, i', h') ∧ 0 ≤ i' := by
  unfold spec_l1Once.f
  obtain ⟨x, i1, h1, e, hx, hi1⟩ := dBelow h hl hi hn
  rw [e]
  simp only [Option.bind_some]
  exact ⟨_, _, _, rfl, hi1⟩

theorem dInt {l : List Int} {i : Int} (h : Int) {m : List Int} (hl : l.length ≤ 4096) (hi : 0 ≤ i) (hm : 0 < m.length) : ∃ x i' h', spec_l1Int.f l i h m = some (x, i', h') ∧ x ∈ m ∧ 0 ≤ i' := by
  unfold spec_l1Int.f
  obtain ⟨x, i1, h1, e, hx, hi1⟩ := dBelow h hl hi (show 0 < (m.length : Int) by omega)
  rw [e]
  simp only [Option.bind_some]
  rw [if_pos hx.1, if_pos hx.2]
  refine ⟨_, _, _, rfl, ?_, hi1⟩
  unfold rd
  rw [List.getD_eq_getElem?_getD, List.getElem?_eq_getElem (by omega)]
  exact List.getElem_mem _

def I64 (x : Int) : Prop := -9223372036854775808 ≤ x ∧ x ≤ 9223372036854775807

theorem dOdd {l : List Int} {i : Int} (h : Int) (hl : l.length ≤ 4096) (hi : 0 ≤ i) : ∃ x i' h', spec_l1Odd.f l i h = some (x, i', h') ∧ I64 x ∧ 0 ≤ i' := by
  unfold spec_l1Odd.f
  obtain ⟨x, i1, h1, e, hx, hi1⟩ := dInt h (m := [(-1), 0, 1, 2, 3, 7, 8, 9, 15, 16, 17, 63, 64, 65, 999, 1000, 4096, 4097, 9223372036854775807, (-9223372036854775808)]) hl hi (by simp)
  rw [e]
  simp only [Option.bind_some]
  refine ⟨_, _, _, rfl, ?_, hi1⟩
  unfold I64
  simp only [List.mem_cons, List.not_mem_nil, or_false] at hx
  omega

theorem new_loop (l : List Int) (hl : l.length ≤ 4096) (d : Nat) : ∀ (i h : Int), 0 ≤ i → (l.length : Int) - i = d → ∃ h', Ev (fun k => spec_l1New.l0 k l h i) (l, 0, h') := by
  induction d with
  | zero =>
    intro i h h0 hd
    refine ⟨h, Ev.succ' ?_⟩
    simp only [spec_l1New.l0, if_neg (show ¬ i < (l.length : Int) by omega)]
    exact Ev.now _
  | succ d ih =>
    intro i h h0 hd
    by_cases h4 : i < 4000
    · obtain ⟨h', e⟩ := ih (i + 1) (bits .and .i64 (wrap64 ((wrap64 ((wrap64 (h * 167)) + (wrap64 (rd l i)))) + 29)) 1073741823) (by omega) (by omega)
      refine ⟨h', Ev.succ' ?_⟩
      simp only [spec_l1New.l0, if_pos (show i < (l.length : Int) by omega), if_pos h4, if_pos h0]
      rw [w64 (x := i + 1) (by omega) (by omega)]
      exact e
    · refine ⟨h, Ev.succ' ?_⟩
      simp only [spec_l1New.l0, if_pos (show i < (l.length : Int) by omega), if_neg h4]
      exact Ev.now _
theorem dNew (l : List Int) (hl : l.length ≤ 4096) : ∃ h, Ev (fun k => spec_l1New.f k l) (l, 0, h) := by
  unfold spec_l1New.f
  exact new_loop l hl l.length 0 _ (by omega) (by omega)

theorem lawBig (l : List Int) : laws_big.f l = some (decide ((l.length : Int) > 4096)) := rfl

theorem dPlace {l : List Int} {i : Int} (h : Int) (hl : l.length ≤ 4096) (hi : 0 ≤ i) : ∃ x y i' h', spec_l2Draw.f l i h = some (x, y, i', h') ∧ (-64 ≤ x ∧ x ≤ 64) ∧ (-64 ≤ y ∧ y ≤ 64) ∧ 0 ≤ i' := by
  unfold spec_l2Draw.f
  obtain ⟨x, i1, h1, e1, hx, hi1⟩ := dSome h (a := -64) (b := 64) hl hi (by omega)
  rw [e1]
  simp only [Option.bind_some]
  obtain ⟨y, i2, h2, e2, hy, hi2⟩ := dSome h1 (a := -64) (b := 64) hl hi1 (by omega)
  rw [e2]
  simp only [Option.bind_some]
  exact ⟨_, _, _, _, rfl, hx, hy, hi2⟩

theorem dJet {l : List Int} {i : Int} (h : Int) (hl : l.length ≤ 4096) (hi : 0 ≤ i) : ∃ x y hd t lf i' h', spec_l3Draw.f l i h = some (x, y, hd, t, lf, i', h') ∧ ((-64 ≤ x ∧ x ≤ 64) ∧ (-64 ≤ y ∧ y ≤ 64) ∧ (0 ≤ hd ∧ hd ≤ 3) ∧ (0 ≤ t ∧ t ≤ 16) ∧ (1 ≤ lf ∧ lf ≤ 32)) ∧ 0 ≤ i' := by
  unfold spec_l3Draw.f
  obtain ⟨x, y, i1, h1, e1, hx, hy, hi1⟩ := dPlace h hl hi
  rw [e1]
  simp only [Option.bind_some]
  obtain ⟨hd, i2, h2, e2, hhd, hi2⟩ := dBelow h1 hl hi1 (show (0 : Int) < 4 by omega)
  rw [e2]
  simp only [Option.bind_some]
  obtain ⟨t, i3, h3, e3, ht, hi3⟩ := dBelow h2 hl hi2 (show (0 : Int) < 17 by omega)
  rw [e3]
  simp only [Option.bind_some]
  obtain ⟨lf, i4, h4, e4, hlf, hi4⟩ := dSome h3 (a := 1) (b := 32) hl hi3 (by omega)
  rw [e4]
  simp only [Option.bind_some]
  exact ⟨_, _, _, _, _, _, _, rfl, ⟨hx, hy, ⟨hhd.1, by omega⟩, ⟨ht.1, by omega⟩, hlf⟩, hi4⟩

theorem dAny {l : List Int} {i : Int} (h : Int) (hl : l.length ≤ 4096) (hi : 0 ≤ i) : ∃ x y i' h', Ev (fun k => spec_l2Any.f k l i h) (x, y, i', h') ∧ I64 x ∧ (-5000 ≤ y ∧ y ≤ 5000) ∧ 0 ≤ i' := by
  unfold spec_l2Any.f
  obtain ⟨x, y, i1, h1, e1, hx, hy, hi1⟩ := dPlace h hl hi
  obtain ⟨o, i2, h2, e2, hi2⟩ := dOnce h1 (n := 9) hl hi1 (by omega)
  have hj : ∀ (x' i3 h3 : Int), I64 x' → 0 ≤ i3 → ∃ x y1 i' h', Ev (fun k => spec_l2Any.j0 k l i3 h3 x' y) (x, y1, i', h') ∧ I64 x ∧ (-5000 ≤ y1 ∧ y1 ≤ 5000) ∧ 0 ≤ i' := fun x' i3 h3 hx' hi3 => by
    obtain ⟨o, i4, h4, e4, hi4⟩ := dOnce h3 (n := 9) hl hi3 (by omega)
    cases o with
    | true =>
      obtain ⟨z, i5, h5, e5, hz, hi5⟩ := dInt h4 (m := [4096, (-4096), 4097, (-4097), 4090]) hl hi4 (by simp)
      refine ⟨x', z, i5, h5, Ev.succ' ?_, hx', ?_, hi5⟩
      · simp only [spec_l2Any.j0, e4, e5, Option.bind_some, if_true]
        exact Ev.now _
      · simp only [List.mem_cons, List.not_mem_nil, or_false] at hz
        omega
    | false =>
      refine ⟨x', y, i4, h4, Ev.succ' ?_, hx', by omega, hi4⟩
      simp only [spec_l2Any.j0, e4, Option.bind_some, Bool.false_eq_true, if_false]
      exact Ev.now _
  cases o with
  | true =>
    obtain ⟨x', i3, h3, e3, hx', hi3⟩ := dOdd h2 hl hi2
    obtain ⟨a, b, i', h', e, r⟩ := hj x' i3 h3 hx' hi3
    refine ⟨a, b, i', h', ?_, r⟩
    simp only [e1, e2, e3, Option.bind_some, if_true]
    exact e
  | false =>
    obtain ⟨a, b, i', h', e, r⟩ := hj x i2 h2 (by unfold I64; omega) hi2
    refine ⟨a, b, i', h', ?_, r⟩
    simp only [e1, e2, Option.bind_some, Bool.false_eq_true, if_false]
    exact e

theorem dAnyJet {l : List Int} {i : Int} (h : Int) (hl : l.length ≤ 4096) (hi : 0 ≤ i) : ∃ x y hd t lf i' h', Ev (fun k => spec_l3Any.f k l i h) (x, y, hd, t, lf, i', h') ∧ (I64 x ∧ I64 y ∧ I64 hd ∧ I64 t ∧ I64 lf) ∧ 0 ≤ i' := by
  unfold spec_l3Any.f
  obtain ⟨x, y, hd, t, lf, i1, h1, e1, hj, hi1⟩ := dJet h hl hi
  obtain ⟨c, i2, h2, e2, hc, hi2⟩ := dBelow h1 (n := 12) hl hi1 (by omega)
  simp only [e1, e2, Option.bind_some]
  by_cases c0 : c = 0
  · obtain ⟨a, b, i3, h3, e3, ha, hb, hi3⟩ := dAny h2 hl hi2
    refine ⟨a, b, hd, t, lf, i3, h3, ?_, ⟨ha, by unfold I64; omega, by unfold I64; omega, by unfold I64; omega, by unfold I64; omega⟩, hi3⟩
    simp only [if_pos c0]
    exact Ev.bind e3 (Ev.now _)
  · by_cases c1 : c = 1
    · obtain ⟨a, i3, h3, e3, ha, hi3⟩ := dOdd h2 hl hi2
      refine ⟨x, y, a, t, lf, i3, h3, ?_, ⟨by unfold I64; omega, by unfold I64; omega, ha, by unfold I64; omega, by unfold I64; omega⟩, hi3⟩
      simp only [if_neg c0, if_pos c1, e3, Option.bind_some]
      exact Ev.now _
    · by_cases c2 : c = 2
      · obtain ⟨a, i3, h3, e3, ha, hi3⟩ := dInt h2 (m := [(-1), 17, 16, 1000, 9223372036854775807]) hl hi2 (by simp)
        simp only [List.mem_cons, List.not_mem_nil, or_false] at ha
        refine ⟨x, y, hd, a, lf, i3, h3, ?_, ⟨by unfold I64; omega, by unfold I64; omega, by unfold I64; omega, by unfold I64; omega, by unfold I64; omega⟩, hi3⟩
        simp only [if_neg c0, if_neg c1, if_pos c2, e3, Option.bind_some]
        exact Ev.now _
      · by_cases c3 : c = 3
        · obtain ⟨a, i3, h3, e3, ha, hi3⟩ := dInt h2 (m := [0, (-1), 33, 32, 9223372036854775807, (-9223372036854775808)]) hl hi2 (by simp)
          simp only [List.mem_cons, List.not_mem_nil, or_false] at ha
          refine ⟨x, y, hd, t, a, i3, h3, ?_, ⟨by unfold I64; omega, by unfold I64; omega, by unfold I64; omega, by unfold I64; omega, by unfold I64; omega⟩, hi3⟩
          simp only [if_neg c0, if_neg c1, if_neg c2, if_pos c3, e3, Option.bind_some]
          exact Ev.now _
        · by_cases c4 : c = 4
          · obtain ⟨a, i3, h3, e3, ha, hi3⟩ := dInt h2 (m := [1024, 1025, (-1024), (-1025)]) hl hi2 (by simp)
            obtain ⟨b, i4, h4, e4, hb, hi4⟩ := dInt h3 (m := [0, 1024, (-1025)]) hl hi3 (by simp)
            simp only [List.mem_cons, List.not_mem_nil, or_false] at ha hb
            refine ⟨a, b, hd, t, lf, i4, h4, ?_, ⟨by unfold I64; omega, by unfold I64; omega, by unfold I64; omega, by unfold I64; omega, by unfold I64; omega⟩, hi4⟩
            simp only [if_neg c0, if_neg c1, if_neg c2, if_neg c3, if_pos c4, e3, e4, Option.bind_some]
            exact Ev.now _
          · refine ⟨x, y, hd, t, lf, i2, h2, ?_, ⟨by unfold I64; omega, by unfold I64; omega, by unfold I64; omega, by unfold I64; omega, by unfold I64; omega⟩, hi2⟩
            simp only [if_neg c0, if_neg c1, if_neg c2, if_neg c3, if_neg c4]
            exact Ev.now _

theorem meetL_mem (B : Int → Bool) : ∀ (d : Nat) (T x : Int), x ∈ meetL B d T → B x = true ∧ T ≤ x ∧ x < T + d
  | 0, _, _, h => by simp [meetL] at h
  | d + 1, T, x, h => by
    unfold meetL at h
    split at h
    · rename_i hb
      rcases List.mem_cons.1 h with h | h
      · subst h; exact ⟨hb, by omega, by omega⟩
      · have := meetL_mem B d (T + 1) x h; exact ⟨this.1, by omega, by omega⟩
    · have := meetL_mem B d (T + 1) x h; exact ⟨this.1, by omega, by omega⟩
theorem meetL_sorted (B : Int → Bool) : ∀ (d : Nat) (T : Int), (meetL B d T).Pairwise (· < ·)
  | 0, _ => List.Pairwise.nil
  | d + 1, T => by
    unfold meetL
    split
    · exact List.Pairwise.cons (fun x hx => by have := meetL_mem B d (T + 1) x hx; omega) (meetL_sorted B d (T + 1))
    · exact meetL_sorted B d (T + 1)
theorem meetL_all (B : Int → Bool) (h : ∀ x, B x = true) : ∀ (d : Nat) (T : Int), (meetL B d T).length = d
  | 0, _ => rfl
  | d + 1, T => by
    unfold meetL
    rw [if_pos (h T), List.length_cons, meetL_all B h d (T + 1)]

theorem ints_ev (l : List Int) (hl : l.length ≤ 1048576) : Ev (fun k => laws_ints.f k l l) true := by
  have loop : ∀ (d : Nat) (i : Int), 0 ≤ i → (l.length : Int) - i = d → Ev (fun k => laws_ints.l0 k l l i) true := by
    intro d
    induction d with
    | zero =>
      intro i h0 hd
      refine Ev.succ' ?_
      simp only [laws_ints.l0, if_neg (show ¬ i < (l.length : Int) by omega)]
      exact Ev.now _
    | succ d ih =>
      intro i h0 hd
      refine Ev.succ' ?_
      simp only [laws_ints.l0, if_pos (show i < (l.length : Int) by omega), if_pos h0, if_true]
      rw [w64 (by omega) (by omega)]
      exact ih (i + 1) (by omega) (by omega)
  unfold laws_ints.f
  simp only [if_true]
  exact loop l.length 0 (by omega) (by omega)

theorem FnMeet : ∀ (l0 : List Int), l0.length ≤ maxLen → l0.length * 1 ≤ 140737488351232 → (∀ x ∈ l0, (Lit.int .u8 x).wf = true) → ∃ k, laws_FnMeet.f k l0 = some true := by
  intro l _ _ _
  refine Ev.rounds (r := true) ?_
  unfold laws_FnMeet.f
  simp only [lawBig, Option.bind_some]
  by_cases hb : (l.length : Int) > 4096
  · simp only [hb, decide_true, if_true]
    exact Ev.now _
  · simp only [hb, decide_false, Bool.false_eq_true, if_false]
    have hl : l.length ≤ 4096 := by omega
    obtain ⟨x, y, h, t, L, x', y', h', t', L', ed⟩ : ∃ x y h t L x' y' h' t' L', Ev (fun k => spec_DrawMeetingsOf.f k l) (x, y, h, t, L, x', y', h', t', L') := by
      obtain ⟨h0, e0⟩ := dNew l hl
      obtain ⟨x, y, h, t, L, i1, h1, e1, _, hi1⟩ := dAnyJet (i := 0) h0 hl (by omega)
      obtain ⟨x', y', h', t', L', i2, h2, e2, _, hi2⟩ := dAnyJet h1 hl hi1
      obtain ⟨T, i3, h3, e3, hT, hi3⟩ := dBelow h2 (n := 20) hl hi2 (by omega)
      have hj : ∀ b : Bool, (b = true → JetOK x y h t L) → ∃ r, Ev (fun k => spec_DrawMeetingsOf.j0 k T b x y h t L x' y' h' t' L' (paV x y h t L T).1 (paV x y h t L T).2.1) r := fun b hb => by
        cases b with
        | true =>
          have hjet := hb rfl
          unfold JetOK at hjet
          have hpb := pb2 (T := T) (t := t) (l := 32) (by omega) (by omega) (by omega)
          refine ⟨(x, y, h, t, L, wrap64 ((paV x y h t L T).1 + (tr ((h + 1) % 4) (-(T * t)) 0).1), wrap64 ((paV x y h t L T).2.1 + (tr ((h + 1) % 4) (-(T * t)) 0).2), (h + 1) % 4, t, L), Ev.succ' ?_⟩
          simp only [spec_DrawMeetingsOf.j0, if_true]
          rw [w64 (x := -T) (by omega) (by omega), Int.neg_mul, w64 (x := -(T * t)) (by omega) (by omega), w64 (x := h + 1) (by omega) (by omega)]
          refine Ev.bind (sTurn (h + 1) (by omega) (by omega)) ?_
          simp only [sl2Add, sMod, Option.bind_some]
          exact Ev.now _
        | false =>
          refine ⟨(x, y, h, t, L, x', y', h', t', L'), Ev.succ' ?_⟩
          simp only [spec_DrawMeetingsOf.j0, Bool.false_eq_true, if_false]
          exact Ev.now _
      unfold spec_DrawMeetingsOf.f
      by_cases hok : (paV x y h t L T).2.2 = true
      · have hjet : JetOK x y h t L := by
          unfold paV at hok
          split at hok
          · rename_i hh; exact hh.1
          · cases hok
        obtain ⟨c, i4, h4, e4, hc, hi4⟩ := dBelow h3 (n := 3) hl hi3 (by omega)
        obtain ⟨⟨a1, a2, a3, a4, a5, a6, a7, a8, a9, a10⟩, er⟩ := hj (decide (c > 0)) (fun _ => hjet)
        refine ⟨a1, a2, a3, a4, a5, a6, a7, a8, a9, a10, Ev.bind e0 (Ev.bind e1 (Ev.bind e2 ?_))⟩
        simp only [e3, Option.bind_some]
        refine Ev.bind (sPlaceAt x y h t L T) ?_
        simp only [if_pos hok, e4, Option.bind_some]
        exact er
      · obtain ⟨⟨a1, a2, a3, a4, a5, a6, a7, a8, a9, a10⟩, er⟩ := hj false (fun h => by cases h)
        refine ⟨a1, a2, a3, a4, a5, a6, a7, a8, a9, a10, Ev.bind e0 (Ev.bind e1 (Ev.bind e2 ?_))⟩
        simp only [e3, Option.bind_some]
        refine Ev.bind (sPlaceAt x y h t L T) ?_
        simp only [if_neg hok]
        exact er
    refine Ev.bind ed (Ev.bind (iMeetV x y h t L x' y' h' t' L') (Ev.bind (iMeetV x' y' h' t' L' x y h t L) ?_))
    have hsym : meetOf x' y' h' t' L' x y h t L = meetOf x y h t L x' y' h' t' L' := by
      have hB : meetB x' y' h' t' L' x y h t L = meetB x y h t L x' y' h' t' L' := by
        funext T
        unfold meetB
        rw [BEq.comm (a := (paV x' y' h' t' L' T).1), BEq.comm (a := (paV x' y' h' t' L' T).2.1), BEq.comm (a := htV x' y' h' t' L' T)]
      have hmn : mn (L' + 1) (L + 1) = mn (L + 1) (L' + 1) := by unfold mn; split <;> split <;> omega
      unfold meetOf
      rw [hB, hmn]
      by_cases hj : JetOK x y h t L ∧ JetOK x' y' h' t' L'
      · rw [if_pos hj, if_pos ⟨hj.2, hj.1⟩]
      · rw [if_neg hj, if_neg (fun hh => hj ⟨hh.2, hh.1⟩)]
    rw [hsym]
    have hfacts : ∀ T ∈ meetOf x y h t L x' y' h' t' L', JetOK x y h t L ∧ JetOK x' y' h' t' L' ∧ 0 ≤ T ∧ T ≤ L + 1 ∧ T ≤ L' + 1 ∧ meetB x y h t L x' y' h' t' L' T = true := fun T hT => by
      unfold meetOf at hT
      split at hT
      · rename_i hj
        have hm := meetL_mem _ _ _ _ hT
        have hj' := hj
        unfold JetOK at hj'
        have hmn : 0 ≤ mn (L + 1) (L' + 1) ∧ mn (L + 1) (L' + 1) ≤ L + 1 ∧ mn (L + 1) (L' + 1) ≤ L' + 1 := by unfold mn; split <;> omega
        exact ⟨hj.1, hj.2, by omega, by omega, by omega, hm.1⟩
      · cases hT
    have hsort : (meetOf x y h t L x' y' h' t' L').Pairwise (· < ·) := by
      unfold meetOf
      split
      · exact meetL_sorted _ _ _
      · exact List.Pairwise.nil
    have hlen : (meetOf x y h t L x' y' h' t' L').length ≤ 100 := by
      unfold meetOf
      split
      · rename_i hj
        unfold JetOK at hj
        have := meetL_len (meetB x y h t L x' y' h' t' L') (mn (L + 1) (L' + 1) + 1).toNat 0
        have : mn (L + 1) (L' + 1) ≤ 33 := by unfold mn; split <;> omega
        omega
      · simp
    have haa := iMeetV x y h t L x y h t L
    generalize meetOf x y h t L x' y' h' t' L' = M at hfacts hsort hlen
    refine Ev.bind (ints_ev M (by omega)) ?_
    simp only [if_true]
    have loop : ∀ (d : Nat) (i : Int), 0 ≤ i → (M.length : Int) - i = d → Ev (fun k => laws_FnMeet.l0 k M i x y h t L x' y' h' t' L') true := by
      intro d
      induction d with
      | zero =>
        intro i h0 hd
        refine Ev.succ' ?_
        simp only [laws_FnMeet.l0, if_neg (show ¬ i < (M.length : Int) by omega), sIsJet, iIsJet, Option.bind_some, bne_self_eq_false, Bool.false_eq_true, if_false]
        by_cases hj : JetOK x y h t L
        · simp only [hj, decide_true, if_true]
          refine Ev.bind haa ?_
          have hj' := hj
          unfold JetOK at hj'
          simp only [iFlight, Option.bind_some]
          have hfl : flV x y h t L = L + 1 := by unfold flV; rw [if_pos hj]
          rw [hfl, w64 (by omega) (by omega)]
          have hlm : (meetOf x y h t L x y h t L).length = (L + 2).toNat := by
            unfold meetOf
            rw [if_pos ⟨hj, hj⟩, meetL_all]
            · have : mn (L + 1) (L + 1) = L + 1 := by unfold mn; split <;> rfl
              rw [this]; congr 1; omega
            · intro T; unfold meetB; simp
          rw [hlm, show (((L + 2).toNat : Nat) : Int) = L + 1 + 1 by omega]
          simp only [beq_self_eq_true]
          exact Ev.now _
        · simp only [hj, decide_false, Bool.false_eq_true, if_false]
          exact Ev.now _
      | succ d ih =>
        intro i h0 hd
        have hg := rd_get M i h0 (by omega)
        obtain ⟨j1, j2, T0, T1, T2, hB⟩ := hfacts _ (List.mem_of_getElem? hg)
        have hp : paV x y h t L (rd M i) = (x + (tr h (rd M i * t) 0).1, y + (tr h (rd M i * t) 0).2, true) := by unfold paV; rw [if_pos ⟨j1, T0, T1⟩]
        have hp' : paV x' y' h' t' L' (rd M i) = (x' + (tr h' (rd M i * t') 0).1, y' + (tr h' (rd M i * t') 0).2, true) := by unfold paV; rw [if_pos ⟨j2, T0, T2⟩]
        unfold meetB at hB
        rw [hp, hp'] at hB
        simp only [Bool.and_eq_true, beq_iff_eq] at hB
        obtain ⟨⟨q1, q2⟩, q3⟩ := hB
        refine Ev.succ' ?_
        simp only [laws_FnMeet.l0, if_pos (show i < (M.length : Int) by omega), if_pos h0]
        refine Ev.bind (iPlaceAt x y h t L _) (Ev.bind (iPlaceAt x' y' h' t' L' _) ?_)
        rw [hp, hp']
        simp only [if_true, q1, q2, beq_self_eq_true, Bool.not_true, Bool.or_self, Bool.false_eq_true, if_false, iHeight, Option.bind_some, q3]
        rw [w64 (x := i + 1) (by omega) (by omega), w64 (x := i - 1) (by omega) (by omega)]
        by_cases hi : i > 0
        · have hlt : rd M (i - 1) < rd M i := by
            have h1 := rd_get M (i - 1) (by omega) (by omega)
            have h2 := List.pairwise_iff_getElem.1 hsort (i - 1).toNat i.toNat (by omega) (by omega) (by omega)
            rw [List.getElem?_eq_getElem (by omega)] at h1 hg
            rw [Option.some.inj h1, Option.some.inj hg] at h2
            exact h2
          simp only [if_pos hi, if_pos (show 0 ≤ i - 1 by omega), if_pos (show i - 1 < (M.length : Int) by omega), if_neg (show ¬ rd M (i - 1) ≥ rd M i by omega)]
          exact ih (i + 1) (by omega) (by omega)
        · simp only [if_neg hi]
          exact ih (i + 1) (by omega) (by omega)
    exact loop M.length 0 (by omega) (by omega)

end Go.Proofs.Ytlmgokicanlcpaa.Pure
