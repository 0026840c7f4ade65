/- The plain law behind FnExactMeetingsOf: for every input that the row lets in, the printed function of the law answers true. No condition beyond the bounds that the statement names. -/
import Derived.Test.YtlmgokicanlcpaaPFnExactMeetingsOfx7
namespace Go.Proofs.Ytlmgokicanlcpaa.Pure
open Go.RowKit Go.Proofs.Ytlmgokicanlcpaa.PFnExactMeetingsOf Go.Proofs.YtlmgokicanlcpaaW.PrintWords Go.Proofs.YtlmgokicanlcpaaW.PrintLast
open Go.Proofs.YtlmgokicanlcpaaW.PrintMore
set_option linter.unusedVariables false
set_option linter.unusedSimpArgs false

theorem w64 {x : Int} (h0 : -9223372036854775808 ≤ x) (h1 : x ≤ 9223372036854775807) : wrap64 x = x := by unfold wrap64; omega
theorem wfb {a : Int} (h : (Lit.int .i64 a).wf = true) : -9223372036854775808 ≤ a ∧ a ≤ 9223372036854775807 := by
  simp [Lit.wf, IntKind.min, IntKind.max, IntKind.signed, IntKind.bits] at h
  omega
theorem Ev.succ' {α : Type} {g : Nat → Option α} {r : α} (h : Ev (fun k => g (k + 1)) r) : Ev g r := Ev.step (fun _ => rfl) h
theorem dec_congr {p q : Prop} [Decidable p] [Decidable q] (h : p ↔ q) : decide p = decide q := by simp [h]

theorem iWithin (a b c : Int) : impl_isWithin.f a b c = some (decide (b ≤ a ∧ a ≤ c)) := by
  unfold impl_isWithin.f
  split <;> simp <;> omega

theorem iIsMeasure (x : Int) : impl_IsMeasure.f x = some (decide (-4096 ≤ x ∧ x ≤ 4096)) := by
  unfold impl_IsMeasure.f
  rw [iWithin]
  rfl

theorem sIsHeading (x : Int) : spec_IsHeading.f x = some (decide (0 ≤ x ∧ x ≤ 3)) := by
  unfold spec_IsHeading.f
  split <;> simp <;> omega

theorem iIsHeading (x : Int) : impl_IsHeading.f x = some (decide (0 ≤ x ∧ x ≤ 3)) := by
  unfold impl_IsHeading.f
  rw [iWithin]
  rfl

theorem iIsPlace (x y : Int) : impl_IsPlace.f x y = some (decide ((-4096 ≤ x ∧ x ≤ 4096) ∧ (-4096 ≤ y ∧ y ≤ 4096))) := by
  unfold impl_IsPlace.f
  simp only [iIsMeasure, Option.bind_some]
  split <;> rename_i h <;> simp at h ⊢ <;> omega

def JetOK (x y h t l : Int) : Prop := (-1024 ≤ x ∧ x ≤ 1024) ∧ (-1024 ≤ y ∧ y ≤ 1024) ∧ (0 ≤ h ∧ h ≤ 3) ∧ (0 ≤ t ∧ t ≤ 16) ∧ (1 ≤ l ∧ l ≤ 32)
instance (x y h t l : Int) : Decidable (JetOK x y h t l) := by unfold JetOK; infer_instance

theorem sIn (a b c : Int) : spec_l1In.f a b c = some (decide (b ≤ a ∧ a ≤ c)) := by
  unfold spec_l1In.f
  split <;> simp <;> omega

theorem sIsJet (x y h t l : Int) : spec_IsJet.f x y h t l = some (decide (JetOK x y h t l)) := by
  unfold spec_IsJet.f
  simp only [JetOK]
  simp only [sIn, sIsHeading, Option.bind_some]
  by_cases h1 : -1024 ≤ x ∧ x ≤ 1024 <;> by_cases h2 : -1024 ≤ y ∧ y ≤ 1024 <;> by_cases h3 : 0 ≤ h ∧ h ≤ 3 <;> by_cases h4 : 0 ≤ t ∧ t ≤ 16 <;> simp [h1, h2, h3, h4]

theorem iIsJet (x y h t l : Int) : impl_IsJet.f x y h t l = some (decide (JetOK x y h t l)) := by
  unfold impl_IsJet.f
  simp only [JetOK]
  simp only [iWithin, iIsHeading, Option.bind_some]
  by_cases h1 : -1024 ≤ x ∧ x ≤ 1024 <;> by_cases h2 : -1024 ≤ y ∧ y ≤ 1024 <;> by_cases h3 : 0 ≤ h ∧ h ≤ 3 <;> by_cases h4 : 0 ≤ t ∧ t ≤ 16 <;> simp [h1, h2, h3, h4]

theorem toP (x y : Int) : laws_toPlace.f x y = some (x, y) := rfl

theorem toJ (x y h t l : Int) : laws_toJet.f x y h t l = some (x, y, h, t, l) := rfl

theorem tmod_pos {a b : Int} (h : 0 ≤ a) : Int.tmod a b = a % b := Int.tmod_eq_emod_of_nonneg h
theorem tmod_neg' (a b : Int) : Int.tmod (-a) b = -(Int.tmod a b) := Int.neg_tmod a b
theorem tdiv_pos {a b : Int} (h : 0 ≤ a) : Int.tdiv a b = a / b := Int.tdiv_eq_ediv_of_nonneg h
theorem tmod4 (n : Int) : (Int.tmod n 4 < 0 → Int.tmod n 4 + 4 = n % 4) ∧ (¬ Int.tmod n 4 < 0 → Int.tmod n 4 = n % 4) ∧ -3 ≤ Int.tmod n 4 ∧ Int.tmod n 4 ≤ 3 := by
  rcases Int.le_total 0 n with h | h
  · rw [tmod_pos h]; omega
  · obtain ⟨m, rfl⟩ : ∃ m, n = -m := ⟨-n, by omega⟩
    rw [tmod_neg', tmod_pos (by omega)]; omega

theorem sMod (n : Int) : spec_l2Mod.f n = some (n % 4) := by
  have h := tmod4 n
  unfold spec_l2Mod.f
  split
  · rw [w64 (by omega) (by omega)]; simp; omega
  · simp; omega

theorem iTurns (n : Int) : impl_turns.f n = some (n % 4) := by
  have h := tmod4 n
  unfold impl_turns.f
  rw [w64 (by omega) (by omega), tmod_pos (by omega)]
  simp
  by_cases h1 : Int.tmod n 4 < 0 <;> omega

def PL (x y : Int) : Prop := (-4096 ≤ x ∧ x ≤ 4096) ∧ (-4096 ≤ y ∧ y ≤ 4096)
instance (x y : Int) : Decidable (PL x y) := by unfold PL; infer_instance

theorem iPL (x y : Int) : impl_IsPlace.f x y = some (decide (PL x y)) := iIsPlace x y

def chk (x y : Int) : Int × Int × Bool := if PL x y then (x, y, true) else (0, 0, false)

theorem iChk (x y : Int) : impl_checked.f x y = some (chk x y) := by
  unfold impl_checked.f chk
  simp only [iPL, Option.bind_some]
  by_cases h : PL x y <;> simp [h]

theorem sl2Add (x y u v : Int) : spec_l2Add.f x y u v = some (wrap64 (x + u), wrap64 (y + v)) := rfl

def tr (m x y : Int) : Int × Int := if m = 0 then (x, y) else if m = 1 then (-y, x) else if m = 2 then (-x, -y) else (y, -x)
theorem tr0 (x y : Int) : tr 0 x y = (x, y) := by simp [tr]
theorem tr1 (x y : Int) : tr 1 x y = (-y, x) := by simp [tr]
theorem tr2 (x y : Int) : tr 2 x y = (-x, -y) := by simp [tr]
theorem tr3 (x y : Int) : tr 3 x y = (y, -x) := by simp [tr]
theorem tr_bd {m x y b : Int} (hx : -b ≤ x ∧ x ≤ b) (hy : -b ≤ y ∧ y ≤ b) : (-b ≤ (tr m x y).1 ∧ (tr m x y).1 ≤ b) ∧ (-b ≤ (tr m x y).2 ∧ (tr m x y).2 ≤ b) := by
  unfold tr
  split
  · simp; omega
  · split
    · simp; omega
    · split <;> simp <;> omega

theorem sTurnL {x y : Int} (m : Int) (hm : 0 ≤ m ∧ m ≤ 3) (hx : -1000000000 ≤ x ∧ x ≤ 1000000000) (hy : -1000000000 ≤ y ∧ y ≤ 1000000000) : Ev (fun k => spec_l2Turn.l0 k m x y) (tr m x y) := by
  have e : ∀ x y : Int, Ev (fun k => spec_l2Turn.l0 k 0 x y) (x, y) := fun x y => Ev.step (f := fun _ => some (x, y)) (fun k => by simp only [spec_l2Turn.l0]; rw [if_neg (by omega)]) (Ev.now _)
  have s : ∀ (m m' x y : Int) (r : Int × Int), m' = m - 1 → 0 < m → m ≤ 3 → (-1000000000 ≤ y ∧ y ≤ 1000000000) → Ev (fun k => spec_l2Turn.l0 k m' (-y) x) r → Ev (fun k => spec_l2Turn.l0 k m x y) r := fun m m' x y r hm' h0 h3 hy h => by
    refine Ev.step (fun k => ?_) h
    simp only [spec_l2Turn.l0]
    rw [if_pos (by omega), w64 (x := m - 1) (by omega) (by omega), w64 (x := -y) (by omega) (by omega), hm']
  have : m = 0 ∨ m = 1 ∨ m = 2 ∨ m = 3 := by omega
  rcases this with rfl | rfl | rfl | rfl
  · rw [tr0]; exact e x y
  · rw [tr1]; exact s 1 0 _ _ _ (by omega) (by omega) (by omega) hy (e _ _)
  · rw [tr2]; exact s 2 1 _ _ _ (by omega) (by omega) (by omega) hy (s 1 0 _ _ _ (by omega) (by omega) (by omega) hx (e _ _))
  · rw [tr3]
    have := s 3 2 _ _ _ (by omega) (by omega) (by omega) hy (s 2 1 _ _ _ (by omega) (by omega) (by omega) hx (s 1 0 _ _ _ (by omega) (by omega) (by omega) (by omega) (e _ _)))
    rwa [Int.neg_neg] at this

theorem sTurn {x y : Int} (n : Int) (hx : -1000000000 ≤ x ∧ x ≤ 1000000000) (hy : -1000000000 ≤ y ∧ y ≤ 1000000000) : Ev (fun k => spec_l2Turn.f k x y n) (tr (n % 4) x y) := by
  unfold spec_l2Turn.f
  simp only [sMod, Option.bind_some]
  exact sTurnL _ (by omega) hx hy

theorem iTurnL {x y : Int} (m : Int) (hm : 0 ≤ m ∧ m ≤ 3) (hx : -1000000000 ≤ x ∧ x ≤ 1000000000) (hy : -1000000000 ≤ y ∧ y ≤ 1000000000) : Ev (fun k => impl_turned.l0 k m 0 x y) (tr m x y) := by
  have e : ∀ m x y : Int, Ev (fun k => impl_turned.l0 k m m x y) (x, y) := fun m x y => Ev.step (f := fun _ => some (x, y)) (fun k => by simp only [impl_turned.l0]; rw [if_neg (by omega)]) (Ev.now _)
  have s : ∀ (m i i' x y : Int) (r : Int × Int), i' = i + 1 → 0 ≤ i → i < m → m ≤ 3 → (-1000000000 ≤ y ∧ y ≤ 1000000000) → Ev (fun k => impl_turned.l0 k m i' (-y) x) r → Ev (fun k => impl_turned.l0 k m i x y) r := fun m i i' x y r hi' h0 h1 h3 hy h => by
    refine Ev.step (fun k => ?_) h
    simp only [impl_turned.l0]
    rw [if_pos (by omega), w64 (x := i + 1) (by omega) (by omega), w64 (x := -y) (by omega) (by omega), hi']
  have : m = 0 ∨ m = 1 ∨ m = 2 ∨ m = 3 := by omega
  rcases this with rfl | rfl | rfl | rfl
  · rw [tr0]; exact e 0 x y
  · rw [tr1]; exact s 1 0 1 _ _ _ (by omega) (by omega) (by omega) (by omega) hy (e 1 _ _)
  · rw [tr2]; exact s 2 0 1 _ _ _ (by omega) (by omega) (by omega) (by omega) hy (s 2 1 2 _ _ _ (by omega) (by omega) (by omega) (by omega) hx (e 2 _ _))
  · rw [tr3]
    have := s 3 0 1 _ _ _ (by omega) (by omega) (by omega) (by omega) hy (s 3 1 2 _ _ _ (by omega) (by omega) (by omega) (by omega) hx (s 3 2 3 _ _ _ (by omega) (by omega) (by omega) (by omega) (by omega) (e 3 _ _)))
    rwa [Int.neg_neg] at this

theorem iTurn {x y : Int} (n : Int) (hx : -1000000000 ≤ x ∧ x ≤ 1000000000) (hy : -1000000000 ≤ y ∧ y ≤ 1000000000) : Ev (fun k => impl_turned.f k x y n) (tr (n % 4) x y) := by
  unfold impl_turned.f
  simp only [iTurns, Option.bind_some]
  exact iTurnL _ (by omega) hx hy

def stV (x y h s : Int) : Int × Int × Bool := if PL x y ∧ (0 ≤ h ∧ h ≤ 3) ∧ (-4096 ≤ s ∧ s ≤ 4096) then chk (x + (tr h s 0).1) (y + (tr h s 0).2) else (0, 0, false)

theorem iStep (x y h s : Int) : Ev (fun k => impl_StepFrom.f k x y h s) (stV x y h s) := by
  have bad : ∀ b : Bool, b = true → Ev (fun k => impl_StepFrom.j0 k h s b x y) (0, 0, false) := fun b hb => Ev.step (f := fun _ => some (0, 0, false)) (fun k => by simp only [impl_StepFrom.j0]; rw [if_pos hb]) (Ev.now _)
  unfold impl_StepFrom.f stV
  simp only [iPL, iIsHeading, iIsMeasure, Option.bind_some]
  by_cases h1 : PL x y
  · by_cases h2 : 0 ≤ h ∧ h ≤ 3
    · by_cases h3 : -4096 ≤ s ∧ s ≤ 4096
      · simp only [h1, h2, h3, decide_true, if_true, and_self, Bool.not_true]
        have ht := tr_bd (m := h) (x := s) (y := 0) (b := 4096) (by omega) (by omega)
        refine Ev.step (f := fun k => (impl_turned.f k s 0 h).bind fun bt => (impl_checked.f (wrap64 (x + bt.1)) (wrap64 (y + bt.2))).bind fun b2 => some (b2.1, b2.2.1, b2.2.2)) (fun k => by simp only [impl_StepFrom.j0, Bool.false_eq_true, if_false]) ?_
        have hs := iTurn (x := s) (y := 0) h (by omega) (by omega)
        rw [show h % 4 = h by omega] at hs
        refine Ev.bind hs ?_
        unfold PL at h1
        simp only [iChk, Option.bind_some]
        rw [w64 (x := x + _) (by omega) (by omega), w64 (x := y + _) (by omega) (by omega)]
        exact Ev.now _
      · simp only [h1, h2, h3, decide_true, decide_false, if_true, and_false, if_false, Bool.not_false, and_self]
        exact bad _ rfl
    · simp only [h1, h2, decide_true, decide_false, if_true, and_false, false_and, if_false, Bool.false_eq_true]
      exact bad _ rfl
  · simp only [h1, decide_false, false_and, if_false, Bool.false_eq_true]
    exact bad _ rfl

def flV (x y h t l : Int) : Int := if JetOK x y h t l then l + 1 else 0
theorem pb {t u : Int} (ht : 0 ≤ t ∧ t ≤ 1000) (hu : 0 ≤ u ∧ u ≤ 1000) : 0 ≤ t * u ∧ t * u ≤ 1000000 :=
  ⟨Int.mul_nonneg ht.1 hu.1, by have := Int.mul_le_mul ht.2 hu.2 hu.1 (by omega : (0 : Int) ≤ 1000); omega⟩

theorem iFlight (x y h t l : Int) : impl_FlightOf.f x y h t l = some (flV x y h t l) := by
  unfold impl_FlightOf.f flV
  simp only [iIsJet, Option.bind_some]
  by_cases hj : JetOK x y h t l
  · have := hj
    unfold JetOK at this
    rw [w64 (by omega) (by omega)]
    simp [hj]
  · simp [hj]

theorem flight_loop (l : Int) (hl : 1 ≤ l ∧ l ≤ 32) (d : Nat) : ∀ t : Int, 1 ≤ t → l + 1 - t = d → Ev (fun k => spec_FlightOf.l0 k t (t * (l + 1 - t)) (l - 2 * t)) (l + 1) := by
  induction d with
  | zero =>
    intro t h1 hd
    have e : l + 1 - t = 0 := by omega
    refine Ev.step (f := fun _ => some (l + 1)) (fun k => ?_) (Ev.now _)
    simp only [spec_FlightOf.l0]
    rw [e, if_neg (by omega)]
    congr 1; omega
  | succ d ih =>
    intro t h1 hd
    have hp : 0 < t * (l + 1 - t) := Int.mul_pos (by omega) (by omega)
    have hb := pb (t := t) (u := l + 1 - t) (by omega) (by omega)
    have hs : t * (l + 1 - t) + (l - 2 * t) = (t + 1) * (l + 1 - (t + 1)) := by grind
    have hb2 := pb (t := t + 1) (u := l + 1 - (t + 1)) (by omega) (by omega)
    refine Ev.step (fun k => ?_) (ih (t + 1) (by omega) (by omega))
    simp only [spec_FlightOf.l0]
    rw [if_pos hp, w64 (x := t + 1) (by omega) (by omega), hs, w64 (x := (t + 1) * _) (by omega) (by omega), w64 (x := l - 2 * t - 2) (by omega) (by omega), show l - 2 * t - 2 = l - 2 * (t + 1) by omega]
theorem sFlight (x y h t l : Int) : Ev (fun k => spec_FlightOf.f k x y h t l) (flV x y h t l) := by
  unfold spec_FlightOf.f flV
  simp only [sIsJet, Option.bind_some]
  by_cases hj : JetOK x y h t l
  · simp only [hj, decide_true, if_true]
    unfold JetOK at hj
    rw [w64 (by omega) (by omega)]
    have := flight_loop l (by omega) l.toNat 1 (by omega) (by omega)
    rw [show (1 : Int) * (l + 1 - 1) = l by omega, show l - 2 * 1 = l - 2 by omega] at this
    exact this
  · simp only [hj, decide_false, if_false, Bool.false_eq_true]
    exact Ev.now _

def htV (x y h t l T : Int) : Int := if JetOK x y h t l ∧ 0 ≤ T ∧ T ≤ l + 1 then T * (l + 1 - T) else 0

theorem height_loop (x y h t l : Int) (hl : 1 ≤ l ∧ l ≤ 32) (T : Int) (hT : T ≤ l + 1) (d : Nat) : ∀ i : Int, 0 ≤ i → T - i = d → Ev (fun k => spec_HeightAt.l0 k T (i * (l + 1 - i)) i x y h t l) (T * (l + 1 - T)) := by
  induction d with
  | zero =>
    intro i h0 hd
    have e : i = T := by omega
    subst e
    refine Ev.step (f := fun _ => some _) (fun k => ?_) (Ev.now _)
    simp only [spec_HeightAt.l0]
    rw [if_neg (by omega)]
  | succ d ih =>
    intro i h0 hd
    have hb := pb (t := i) (u := l + 1 - i) (by omega) (by omega)
    have hs : i * (l + 1 - i) + l - 2 * i = (i + 1) * (l + 1 - (i + 1)) := by grind
    have hb2 := pb (t := i + 1) (u := l + 1 - (i + 1)) (by omega) (by omega)
    refine Ev.step (fun k => ?_) (ih (i + 1) (by omega) (by omega))
    simp only [spec_HeightAt.l0]
    rw [if_pos (by omega), w64 (x := i * (l + 1 - i) + l) (by omega) (by omega), w64 (x := 2 * i) (by omega) (by omega), hs, w64 (x := (i + 1) * _) (by omega) (by omega), w64 (x := i + 1) (by omega) (by omega)]
theorem sHeight (x y h t l T : Int) : Ev (fun k => spec_HeightAt.f k x y h t l T) (htV x y h t l T) := by
  unfold spec_HeightAt.f
  refine Ev.bind (sFlight x y h t l) ?_
  unfold htV flV
  by_cases hj : JetOK x y h t l
  · rw [if_pos hj]
    have hj' := hj
    unfold JetOK at hj'
    by_cases h1 : T > l + 1
    · simp only [if_pos h1]
      rw [if_neg (by omega)]
      exact Ev.now _
    · simp only [if_neg h1]
      by_cases h0 : 0 ≤ T
      · rw [if_pos ⟨hj, h0, by omega⟩]
        have := height_loop x y h t l (by omega) T (by omega) T.toNat 0 (by omega) (by omega)
        rw [Int.zero_mul] at this
        exact this
      · rw [if_neg (by omega)]
        refine Ev.step (f := fun _ => some 0) (fun k => ?_) (Ev.now _)
        simp only [spec_HeightAt.l0]
        rw [if_neg (by omega)]
  · rw [if_neg hj]
    simp only [hj, false_and, if_false]
    by_cases h1 : T > 0
    · simp only [if_pos h1]
      exact Ev.now _
    · simp only [if_neg h1]
      refine Ev.step (f := fun _ => some 0) (fun k => ?_) (Ev.now _)
      simp only [spec_HeightAt.l0]
      rw [if_neg (by omega)]

theorem iAir (x y h t l T : Int) : impl_isInAir.f x y h t l T = some (decide (JetOK x y h t l ∧ 0 ≤ T ∧ T ≤ l + 1)) := by
  unfold impl_isInAir.f
  simp only [iIsJet, iFlight, iWithin, Option.bind_some, flV]
  by_cases hj : JetOK x y h t l <;> simp [hj]

theorem iHeight (x y h t l T : Int) : impl_HeightAt.f x y h t l T = some (htV x y h t l T) := by
  unfold impl_HeightAt.f htV
  simp only [iAir, Option.bind_some]
  by_cases hj : JetOK x y h t l ∧ 0 ≤ T ∧ T ≤ l + 1
  · have hj' := hj
    unfold JetOK at hj'
    have hb := pb (t := T) (u := l + 1 - T) (by omega) (by omega)
    rw [w64 (x := l + 1) (by omega) (by omega), w64 (x := l + 1 - T) (by omega) (by omega), w64 (x := T * _) (by omega) (by omega), if_pos (by simpa using hj), if_pos hj]
  · rw [if_neg (by simpa using hj), if_neg hj]

theorem rd_get (l : List Int) (i : Int) (h0 : 0 ≤ i) (h1 : i < l.length) : l[i.toNat]? = some (rd l i) := by
  unfold rd
  rw [List.getD_eq_getElem?_getD]
  obtain ⟨v, hv⟩ : ∃ v, l[i.toNat]? = some v := ⟨_, List.getElem?_eq_getElem (by omega)⟩
  rw [hv]; rfl

theorem eqIntS_loop (l : List Int) (hl : l.length ≤ 35184372088832) (d : Nat) : ∀ (i : Int), 0 ≤ i → (l.length : Int) - i = d → Ev (fun k => laws_eqIntS.l0 k l l i) true := by
  induction d with
  | zero =>
    intro i h0 hd
    refine Ev.step (f := fun _ => some true) (fun k => ?_) (Ev.now _)
    simp only [laws_eqIntS.l0]
    rw [if_neg (by omega)]
  | succ d ih =>
    intro i h0 hd
    refine Ev.step (fun k => ?_) (ih (i + 1) (by omega) (by omega))
    simp only [laws_eqIntS.l0]
    rw [if_pos (by omega), if_pos h0, if_pos (by omega), if_pos trivial, w64 (by omega) (by omega)]
theorem eqIntS_ev (l : List Int) (hl : l.length ≤ 35184372088832) : Ev (fun k => laws_eqIntS.f k l l) true := by
  unfold laws_eqIntS.f
  simp only [if_true]
  exact eqIntS_loop l hl l.length 0 (by omega) (by omega)

def paV (x y h t l T : Int) : Int × Int × Bool := if JetOK x y h t l ∧ 0 ≤ T ∧ T ≤ l + 1 then (x + (tr h (T * t) 0).1, y + (tr h (T * t) 0).2, true) else (0, 0, false)
theorem pb2 {T t l : Int} (hT : 0 ≤ T ∧ T ≤ l + 1) (hl : l ≤ 32) (ht : 0 ≤ t ∧ t ≤ 16) : 0 ≤ T * t ∧ T * t ≤ 528 :=
  ⟨Int.mul_nonneg hT.1 ht.1, by have := Int.mul_le_mul (show T ≤ 33 by omega) ht.2 ht.1 (by omega : (0 : Int) ≤ 33); omega⟩

theorem sL3 (x y h t l T : Int) (hj : JetOK x y h t l) (h0 : 0 ≤ T) (h1 : T ≤ l + 1) : Ev (fun k => spec_l3Place.f k x y h t l T) (x + (tr h (T * t) 0).1, y + (tr h (T * t) 0).2) := by
  unfold JetOK at hj
  have hb := pb2 (T := T) (t := t) (l := l) (by omega) (by omega) (by omega)
  have ht := tr_bd (m := h) (x := T * t) (y := 0) (b := 528) (by omega) (by omega)
  unfold spec_l3Place.f
  rw [w64 (x := T * t) (by omega) (by omega)]
  have hs := sTurn (x := T * t) (y := 0) h (by omega) (by omega)
  rw [show h % 4 = h by omega] at hs
  refine Ev.bind hs ?_
  simp only [sl2Add, Option.bind_some]
  rw [w64 (x := x + _) (by omega) (by omega), w64 (x := y + _) (by omega) (by omega)]
  exact Ev.now _

theorem iPlaceAt (x y h t l T : Int) : Ev (fun k => impl_PlaceAt.f k x y h t l T) (paV x y h t l T) := by
  unfold impl_PlaceAt.f paV
  simp only [iAir, Option.bind_some]
  by_cases hj : JetOK x y h t l ∧ 0 ≤ T ∧ T ≤ l + 1
  · rw [if_pos hj]
    simp only [hj, decide_true, if_true, and_self]
    have hj' := hj
    unfold JetOK at hj'
    have hb := pb2 (T := T) (t := t) (l := l) (by omega) (by omega) (by omega)
    have ht := tr_bd (m := h) (x := T * t) (y := 0) (b := 528) (by omega) (by omega)
    rw [w64 (x := T * t) (by omega) (by omega)]
    have hs := iStep x y h (T * t)
    have e : stV x y h (T * t) = (x + (tr h (T * t) 0).1, y + (tr h (T * t) 0).2, true) := by
      unfold stV chk
      rw [if_pos (by unfold PL; omega), if_pos (by unfold PL; omega)]
    rw [e] at hs
    exact Ev.bind hs (Ev.now _)
  · rw [if_neg hj]
    simp only [hj, decide_false, if_false, Bool.false_eq_true]
    exact Ev.now _

def meetB (x y h t l x' y' h' t' l' T : Int) : Bool := ((paV x y h t l T).1 == (paV x' y' h' t' l' T).1 && (paV x y h t l T).2.1 == (paV x' y' h' t' l' T).2.1) && (htV x y h t l T == htV x' y' h' t' l' T)

theorem sMeet_step (x y h t l x' y' h' t' l' T : Int) (acc : List Int) (r : List Int) (hj : JetOK x y h t l) (hj' : JetOK x' y' h' t' l') (h0 : 0 ≤ T) (h1 : T ≤ l + 1) (h2 : T ≤ l' + 1) (hacc : acc.length ≤ 100)
    (hr : Ev (fun k => spec_MeetingsOf.l0 k (if meetB x y h t l x' y' h' t' l' T then acc ++ [T] else acc) (T + 1) x y h t l x' y' h' t' l') r) : Ev (fun k => spec_MeetingsOf.l0 k acc T x y h t l x' y' h' t' l') r := by
  have hl := hj
  have hl' := hj'
  unfold JetOK at hl hl'
  have hf := sFlight x y h t l
  rw [show flV x y h t l = l + 1 by unfold flV; rw [if_pos hj]] at hf
  have hf' := sFlight x' y' h' t' l'
  rw [show flV x' y' h' t' l' = l' + 1 by unfold flV; rw [if_pos hj']] at hf'
  refine Ev.succ' ?_
  simp only [spec_MeetingsOf.l0]
  refine Ev.bind hf ?_
  simp only [if_pos h1]
  refine Ev.bind hf' ?_
  simp only [if_pos h2, sIsJet, Option.bind_some, hj, hj', decide_true, if_true]
  refine Ev.succ' ?_
  simp only [spec_MeetingsOf.j1, if_true]
  refine Ev.bind (sL3 x y h t l T hj h0 h1) (Ev.bind (sL3 x' y' h' t' l' T hj' h0 h2) ?_)
  have ep : paV x y h t l T = (x + (tr h (T * t) 0).1, y + (tr h (T * t) 0).2, true) := by unfold paV; rw [if_pos ⟨hj, h0, h1⟩]
  have ep' : paV x' y' h' t' l' T = (x' + (tr h' (T * t') 0).1, y' + (tr h' (T * t') 0).2, true) := by unfold paV; rw [if_pos ⟨hj', h0, h2⟩]
  rw [w64 (x := T + 1) (by omega) (by omega)]
  unfold meetB at hr
  rw [ep, ep'] at hr
  by_cases hp : ((x + (tr h (T * t) 0).1 == x' + (tr h' (T * t') 0).1) && (y + (tr h (T * t) 0).2 == y' + (tr h' (T * t') 0).2)) = true
  · simp only [if_pos hp]
    refine Ev.bind (sHeight x y h t l T) (Ev.bind (sHeight x' y' h' t' l' T) ?_)
    by_cases hh : htV x y h t l T = htV x' y' h' t' l' T
    · simp only [if_pos hh, if_pos (show acc.length < 17592186044416 by omega)]
      simp only [hp, hh, beq_self_eq_true, Bool.and_self, if_true] at hr
      exact hr
    · simp only [if_neg hh]
      simp only [hp, Bool.true_and, beq_iff_eq, if_neg hh] at hr
      exact hr
  · simp only [if_neg hp]
    rw [Bool.not_eq_true] at hp
    simp only [hp, Bool.false_and, Bool.false_eq_true, if_false] at hr
    exact hr
theorem sMeet_stop (x y h t l x' y' h' t' l' T : Int) (acc : List Int) (hn : ¬ (JetOK x y h t l ∧ JetOK x' y' h' t' l' ∧ T ≤ l + 1 ∧ T ≤ l' + 1)) : Ev (fun k => spec_MeetingsOf.l0 k acc T x y h t l x' y' h' t' l') acc := by
  have hstop : ∀ b : Bool, b = false → Ev (fun k => spec_MeetingsOf.j1 k acc T b x y h t l x' y' h' t' l') acc := fun b hb => by
    refine Ev.succ' ?_
    simp only [spec_MeetingsOf.j1, hb, Bool.false_eq_true, if_false]
    exact Ev.now _
  refine Ev.succ' ?_
  simp only [spec_MeetingsOf.l0]
  refine Ev.bind (sFlight x y h t l) ?_
  by_cases h1 : T ≤ flV x y h t l
  · simp only [if_pos h1]
    refine Ev.bind (sFlight x' y' h' t' l') ?_
    by_cases h2 : T ≤ flV x' y' h' t' l'
    · simp only [if_pos h2, sIsJet, Option.bind_some]
      by_cases hj : JetOK x y h t l
      · simp only [hj, decide_true, if_true]
        by_cases hj' : JetOK x' y' h' t' l'
        · exfalso
          unfold flV at h1 h2
          rw [if_pos hj] at h1
          rw [if_pos hj'] at h2
          exact hn ⟨hj, hj', h1, h2⟩
        · exact hstop _ (by simp [hj'])
      · simp only [hj, decide_false, Bool.false_eq_true, if_false]
        exact hstop _ rfl
    · simp only [if_neg h2]
      exact hstop _ rfl
  · simp only [if_neg h1]
    exact hstop _ rfl

theorem iMeet_step (x y h t l x' y' h' t' l' N T : Int) (acc : List Int) (r : List Int) (h0 : 0 ≤ T) (h1 : T < N) (hN : N ≤ 100) (hacc : acc.length ≤ 100)
    (hr : Ev (fun k => impl_MeetingsOf.l0 k (if meetB x y h t l x' y' h' t' l' T then acc ++ [T] else acc) N (T + 1) x y h t l x' y' h' t' l') r) : Ev (fun k => impl_MeetingsOf.l0 k acc N T x y h t l x' y' h' t' l') r := by
  refine Ev.succ' ?_
  simp only [impl_MeetingsOf.l0, if_pos h1]
  refine Ev.bind (iPlaceAt x y h t l T) (Ev.bind (iPlaceAt x' y' h' t' l' T) ?_)
  rw [w64 (x := T + 1) (by omega) (by omega)]
  unfold meetB at hr
  by_cases hp : ((paV x y h t l T).1 == (paV x' y' h' t' l' T).1 && (paV x y h t l T).2.1 == (paV x' y' h' t' l' T).2.1) = true
  · simp only [if_pos hp, iHeight, Option.bind_some]
    by_cases hh : htV x y h t l T = htV x' y' h' t' l' T
    · simp only [if_pos hh, if_pos (show acc.length < 17592186044416 by omega)]
      simp only [hp, hh, beq_self_eq_true, Bool.and_self, if_true] at hr
      exact hr
    · simp only [if_neg hh]
      simp only [hp, Bool.true_and, beq_iff_eq, if_neg hh] at hr
      exact hr
  · simp only [if_neg hp]
    rw [Bool.not_eq_true] at hp
    simp only [hp, Bool.false_and, Bool.false_eq_true, if_false] at hr
    exact hr
theorem iMeet_stop (x y h t l x' y' h' t' l' N T : Int) (acc : List Int) (h1 : ¬ T < N) : Ev (fun k => impl_MeetingsOf.l0 k acc N T x y h t l x' y' h' t' l') acc := by
  refine Ev.succ' ?_
  simp only [impl_MeetingsOf.l0, if_neg h1]
  exact Ev.now _
theorem iMeet_f (x y h t l x' y' h' t' l' : Int) (r : List Int) (hr : if JetOK x y h t l ∧ JetOK x' y' h' t' l' then Ev (fun k => impl_MeetingsOf.l0 k [] (mn (l + 1) (l' + 1) + 1) 0 x y h t l x' y' h' t' l') r else r = []) : Ev (fun k => impl_MeetingsOf.f k x y h t l x' y' h' t' l') r := by
  unfold impl_MeetingsOf.f
  simp only [iIsJet, Option.bind_some]
  have hbad : ∀ b : Bool, b = true → Ev (fun k => impl_MeetingsOf.j0 k [] b x y h t l x' y' h' t' l') [] := fun b hb => by
    refine Ev.succ' ?_
    simp only [impl_MeetingsOf.j0, if_pos hb]
    exact Ev.now _
  by_cases hj : JetOK x y h t l
  · by_cases hj' : JetOK x' y' h' t' l'
    · rw [if_pos ⟨hj, hj'⟩] at hr
      simp only [hj, hj', decide_true, if_true, Bool.not_true]
      have hl := hj
      have hl' := hj'
      unfold JetOK at hl hl'
      refine Ev.succ' ?_
      simp only [impl_MeetingsOf.j0, Bool.false_eq_true, if_false, iFlight, Option.bind_some]
      rw [show flV x y h t l = l + 1 by unfold flV; rw [if_pos hj], show flV x' y' h' t' l' = l' + 1 by unfold flV; rw [if_pos hj'], w64 (x := _ + 1) (by unfold mn; split <;> omega) (by unfold mn; split <;> omega)]
      exact hr
    · rw [if_neg (by simp [hj'])] at hr
      subst hr
      simp only [hj, hj', decide_true, decide_false, if_true, Bool.not_false]
      exact hbad _ rfl
  · rw [if_neg (by simp [hj])] at hr
    subst hr
    simp only [hj, decide_false, Bool.false_eq_true, if_false]
    exact hbad _ rfl

def meetL (B : Int → Bool) : Nat → Int → List Int
  | 0, _ => []
  | d + 1, T => if B T then T :: meetL B d (T + 1) else meetL B d (T + 1)
theorem meetL_len (B : Int → Bool) : ∀ (d : Nat) (T : Int), (meetL B d T).length ≤ d
  | 0, _ => Nat.le_refl _
  | d + 1, T => by
    have := meetL_len B d (T + 1)
    unfold meetL
    split
    · simp only [List.length_cons]; omega
    · omega

theorem iMeet_loop (x y h t l x' y' h' t' l' N : Int) (hN : N ≤ 100) (d : Nat) : ∀ (T : Int) (acc : List Int), 0 ≤ T → acc.length ≤ T → N - T = d → Ev (fun k => impl_MeetingsOf.l0 k acc N T x y h t l x' y' h' t' l') (acc ++ meetL (meetB x y h t l x' y' h' t' l') d T) := by
  induction d with
  | zero =>
    intro T acc h0 ha hd
    unfold meetL
    rw [List.append_nil]
    exact iMeet_stop x y h t l x' y' h' t' l' N T acc (by omega)
  | succ d ih =>
    intro T acc h0 ha hd
    refine iMeet_step x y h t l x' y' h' t' l' N T acc _ h0 (by omega) hN (by omega) ?_
    unfold meetL
    by_cases hb : meetB x y h t l x' y' h' t' l' T = true
    · simp only [if_pos hb]
      have := ih (T + 1) (acc ++ [T]) (by omega) (by rw [List.length_append, List.length_singleton]; omega) (by omega)
      rw [List.append_assoc] at this
      exact this
    · simp only [if_neg hb]
      exact ih (T + 1) acc (by omega) (by omega) (by omega)
def meetOf (x y h t l x' y' h' t' l' : Int) : List Int := if JetOK x y h t l ∧ JetOK x' y' h' t' l' then meetL (meetB x y h t l x' y' h' t' l') (mn (l + 1) (l' + 1) + 1).toNat 0 else []
theorem iMeetV (x y h t l x' y' h' t' l' : Int) : Ev (fun k => impl_MeetingsOf.f k x y h t l x' y' h' t' l') (meetOf x y h t l x' y' h' t' l') := by
  refine iMeet_f x y h t l x' y' h' t' l' _ ?_
  by_cases hj : JetOK x y h t l ∧ JetOK x' y' h' t' l'
  · rw [if_pos hj]
    unfold meetOf
    rw [if_pos hj]
    unfold JetOK at hj
    have hb : 0 ≤ mn (l + 1) (l' + 1) ∧ mn (l + 1) (l' + 1) ≤ 33 := by unfold mn; split <;> omega
    have := iMeet_loop x y h t l x' y' h' t' l' (mn (l + 1) (l' + 1) + 1) (by omega) (mn (l + 1) (l' + 1) + 1).toNat 0 [] (by omega) (by simp) (by omega)
    rwa [List.nil_append] at this
  · rw [if_neg hj]
    unfold meetOf
    rw [if_neg hj]

theorem sMeetV (x y h t l x' y' h' t' l' : Int) : Ev (fun k => spec_MeetingsOf.f k x y h t l x' y' h' t' l') (meetOf x y h t l x' y' h' t' l') := by
  unfold spec_MeetingsOf.f meetOf
  by_cases hj : JetOK x y h t l ∧ JetOK x' y' h' t' l'
  · rw [if_pos hj]
    have hl := hj
    unfold JetOK at hl
    have hb : 0 ≤ mn (l + 1) (l' + 1) ∧ mn (l + 1) (l' + 1) ≤ 33 ∧ mn (l + 1) (l' + 1) ≤ l + 1 ∧ mn (l + 1) (l' + 1) ≤ l' + 1 ∧ (mn (l + 1) (l' + 1) = l + 1 ∨ mn (l + 1) (l' + 1) = l' + 1) := by unfold mn; split <;> omega
    generalize hm : mn (l + 1) (l' + 1) = m at hb
    have loop : ∀ (d : Nat) (T : Int) (acc : List Int), 0 ≤ T → acc.length ≤ T → m + 1 - T = d → Ev (fun k => spec_MeetingsOf.l0 k acc T x y h t l x' y' h' t' l') (acc ++ meetL (meetB x y h t l x' y' h' t' l') d T) := by
      intro d
      induction d with
      | zero =>
        intro T acc h0 ha hd
        unfold meetL
        rw [List.append_nil]
        exact sMeet_stop x y h t l x' y' h' t' l' T acc (by omega)
      | succ d ih =>
        intro T acc h0 ha hd
        refine sMeet_step x y h t l x' y' h' t' l' T acc _ hj.1 hj.2 h0 (by omega) (by omega) (by omega) ?_
        unfold meetL
        by_cases hb2 : meetB x y h t l x' y' h' t' l' T = true
        · simp only [if_pos hb2]
          have := ih (T + 1) (acc ++ [T]) (by omega) (by rw [List.length_append, List.length_singleton]; omega) (by omega)
          rw [List.append_assoc] at this
          exact this
        · simp only [if_neg hb2]
          exact ih (T + 1) acc (by omega) (by omega) (by omega)
    have := loop (m + 1).toNat 0 [] (by omega) (by simp) (by omega)
    rwa [List.nil_append] at this
  · rw [if_neg hj]
    exact sMeet_stop x y h t l x' y' h' t' l' 0 [] (fun hh => hj ⟨hh.1, hh.2.1⟩)

theorem mark_loop (d : Nat) : ∀ (i n : Int) (l : List Int), l.length ≤ 1048576 → 0 ≤ i → 0 ≤ n → n ≤ 1048577 + i → (∀ j : Nat, (j : Int) < i → l[j]? = some (n - i + j)) → (l.length : Int) - i = d →
    ∃ m, m.length = l.length ∧ (∀ j : Nat, j < m.length → m[j]? = some (n - i + j)) ∧ Ev (fun k => laws_markIntS.l0 k l n i) (n - i + l.length, m) := by
  induction d with
  | zero =>
    intro i n l hl h0 hn hn2 hacc hd
    refine ⟨l, rfl, fun j hj => hacc j (by omega), Ev.succ' ?_⟩
    simp only [laws_markIntS.l0, if_neg (show ¬ i < (l.length : Int) by omega)]
    rw [show n - i + (l.length : Int) = n by omega]
    exact Ev.now _
  | succ d ih =>
    intro i n l hl h0 hn hn2 hacc hd
    obtain ⟨m, m1, m2, m3⟩ := ih (i + 1) (n + 1) (l.set i.toNat n) (by rw [List.length_set]; exact hl) (by omega) (by omega) (by omega) (fun j hj => by
      rw [List.getElem?_set]
      by_cases hji : i.toNat = j
      · rw [if_pos hji, if_pos (by omega)]; congr 1; omega
      · rw [if_neg hji, hacc j (by omega)]; congr 1; omega) (by rw [List.length_set]; omega)
    rw [List.length_set] at m1 m3
    refine ⟨m, m1, fun j hj => by rw [m2 j hj]; congr 1; omega, Ev.succ' ?_⟩
    simp only [laws_markIntS.l0, if_pos (show i < (l.length : Int) by omega), if_pos h0]
    rw [w64 (x := n + 1) (by omega) (by omega), w64 (x := i + 1) (by omega) (by omega)]
    rw [show n + 1 - (i + 1) + (l.length : Int) = n - i + l.length by omega] at m3
    exact m3
theorem held_loop (m : List Int) (hm : m.length ≤ 1048576) (d : Nat) : ∀ (i n : Int), 0 ≤ i → 0 ≤ n → n ≤ 1048577 + i → (∀ j : Nat, j < m.length → m[j]? = some (n - i + j)) → (m.length : Int) - i = d → Ev (fun k => laws_heldIntS.l0 k m n i) (n - i + m.length) := by
  induction d with
  | zero =>
    intro i n h0 hn hn2 hacc hd
    refine Ev.succ' ?_
    simp only [laws_heldIntS.l0, if_neg (show ¬ i < (m.length : Int) by omega)]
    rw [show n - i + (m.length : Int) = n by omega]
    exact Ev.now _
  | succ d ih =>
    intro i n h0 hn hn2 hacc hd
    refine Ev.succ' ?_
    have e : rd m i = n := by
      have h1 := rd_get m i h0 (by omega)
      have h2 := hacc i.toNat (by omega)
      rw [h1] at h2
      have := Option.some.inj h2
      omega
    simp only [laws_heldIntS.l0, if_pos (show i < (m.length : Int) by omega), if_pos h0, if_pos e]
    rw [w64 (x := n + 1) (by omega) (by omega), w64 (x := i + 1) (by omega) (by omega)]
    have := ih (i + 1) (n + 1) (by omega) (by omega) (by omega) (fun j hj => by rw [hacc j hj]; congr 1; omega) (by omega)
    rwa [show n + 1 - (i + 1) + (m.length : Int) = n - i + m.length by omega] at this
theorem mark_held (l : List Int) (hl : l.length ≤ 1048576) : ∃ m, Ev (fun k => laws_markIntS.f k l 1) (1 + (l.length : Int), m) ∧ Ev (fun k => laws_heldIntS.f k m 1) (1 + (l.length : Int)) := by
  obtain ⟨m, m1, m2, m3⟩ := mark_loop l.length 0 1 l hl (by omega) (by omega) (by omega) (fun j hj => by omega) (by omega)
  refine ⟨m, m3, ?_⟩
  have := held_loop m (by omega) m.length 0 1 (by omega) (by omega) (by omega) m2 (by omega)
  rw [m1] at this
  exact this

theorem FnExactMeetingsOf : ∀ (a0_0 : Int) (a0_1 : Int) (a0_2 : Int) (a0_3 : Int) (a0_4 : Int) (a1_0 : Int) (a1_1 : Int) (a1_2 : Int) (a1_3 : Int) (a1_4 : Int), (Lit.int .i64 a0_0).wf = true → (Lit.int .i64 a0_1).wf = true → (Lit.int .i64 a0_2).wf = true → (Lit.int .i64 a0_3).wf = true → (Lit.int .i64 a0_4).wf = true → (Lit.int .i64 a1_0).wf = true → (Lit.int .i64 a1_1).wf = true → (Lit.int .i64 a1_2).wf = true → (Lit.int .i64 a1_3).wf = true → (Lit.int .i64 a1_4).wf = true → ∃ k, laws_FnExactMeetingsOf.f k a0_0 a0_1 a0_2 a0_3 a0_4 a1_0 a1_1 a1_2 a1_3 a1_4 = some true := by
  intro x y h t l x' y' h' t' l' _ _ _ _ _ _ _ _ _ _
  refine Ev.rounds (r := true) ?_
  unfold laws_FnExactMeetingsOf.f
  simp only [toJ, Option.bind_some]
  have hlen : (meetOf x y h t l x' y' h' t' l').length ≤ 100 := by
    unfold meetOf
    split
    · rename_i hj
      unfold JetOK at hj
      have := meetL_len (meetB x y h t l x' y' h' t' l') (mn (l + 1) (l' + 1) + 1).toNat 0
      have : mn (l + 1) (l' + 1) ≤ 33 := by unfold mn; split <;> omega
      omega
    · simp
  have hi := iMeetV x y h t l x' y' h' t' l'
  have he := eqIntS_ev (meetOf x y h t l x' y' h' t' l') (by omega)
  obtain ⟨m, hm, hh⟩ := mark_held (meetOf x y h t l x' y' h' t' l') (by omega)
  refine Ev.bind (sMeetV x y h t l x' y' h' t' l') (Ev.bind hi (Ev.bind he ?_))
  simp only [if_true]
  refine Ev.bind hm (Ev.bind hh ?_)
  simp only [if_true, if_neg (show ¬ (1 + ((meetOf x y h t l x' y' h' t' l').length : Int)) < 0 by omega)]
  refine Ev.bind hi (Ev.bind he ?_)
  simp only [if_true]
  refine Ev.bind hh ?_
  simp only [if_true, if_neg (show ¬ (1 + ((meetOf x y h t l x' y' h' t' l').length : Int)) < 0 by omega)]
  exact Ev.now _

end Go.Proofs.Ytlmgokicanlcpaa.Pure
