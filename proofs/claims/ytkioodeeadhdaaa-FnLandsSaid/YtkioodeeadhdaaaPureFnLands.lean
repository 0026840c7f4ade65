/- The plain law behind FnLands: for every input that the row lets in, the printed function of the law answers true. No condition beyond the bounds that the statement names. -/
import Derived.Test.YtkioodeeadhdaaaQFnLands
namespace Go.Proofs.Ytkioodeeadhdaaa.Pure
open Go.RowKit Go.Proofs.Ytkioodeeadhdaaa.PFnLands Go.Proofs.YtkioodeeadhdaaaW.PrintWords Go.Proofs.YtkioodeeadhdaaaW.PrintLast
open Go.Proofs.YtkioodeeadhdaaaW.PrintMore
set_option linter.unusedVariables false
set_option linter.unusedSimpArgs false

theorem w64 {x : Int} (h0 : -9223372036854775808 ≤ x) (h1 : x ≤ 9223372036854775807) : wrap64 x = x := by unfold wrap64; omega
theorem wfb {a : Int} (h : (Lit.int .i64 a).wf = true) : -9223372036854775808 ≤ a ∧ a ≤ 9223372036854775807 := by
  simp [Lit.wf, IntKind.min, IntKind.max, IntKind.signed, IntKind.bits] at h
  omega
theorem Ev.succ' {α : Type} {g : Nat → Option α} {r : α} (h : Ev (fun k => g (k + 1)) r) : Ev g r := Ev.step (fun _ => rfl) h
theorem dec_congr {p q : Prop} [Decidable p] [Decidable q] (h : p ↔ q) : decide p = decide q := by simp [h]

theorem iWithin (a b c : Int) : impl_isWithin.f a b c = some (decide (b ≤ a ∧ a ≤ c)) := by
  unfold impl_isWithin.f
  split <;> simp <;> omega

theorem iIsMeasure (x : Int) : impl_IsMeasure.f x = some (decide (-4096 ≤ x ∧ x ≤ 4096)) := by
  unfold impl_IsMeasure.f
  rw [iWithin]
  rfl

theorem iIsHeading (x : Int) : impl_IsHeading.f x = some (decide (0 ≤ x ∧ x ≤ 3)) := by
  unfold impl_IsHeading.f
  rw [iWithin]
  rfl

theorem iIsPlace (x y : Int) : impl_IsPlace.f x y = some (decide ((-4096 ≤ x ∧ x ≤ 4096) ∧ (-4096 ≤ y ∧ y ≤ 4096))) := by
  unfold impl_IsPlace.f
  simp only [iIsMeasure, Option.bind_some]
  split <;> rename_i h <;> simp at h ⊢ <;> omega

def JetOK (x y h t l : Int) : Prop := (-1024 ≤ x ∧ x ≤ 1024) ∧ (-1024 ≤ y ∧ y ≤ 1024) ∧ (0 ≤ h ∧ h ≤ 3) ∧ (0 ≤ t ∧ t ≤ 16) ∧ (1 ≤ l ∧ l ≤ 32)
instance (x y h t l : Int) : Decidable (JetOK x y h t l) := by unfold JetOK; infer_instance

theorem iIsJet (x y h t l : Int) : impl_IsJet.f x y h t l = some (decide (JetOK x y h t l)) := by
  unfold impl_IsJet.f
  simp only [JetOK]
  simp only [iWithin, iIsHeading, Option.bind_some]
  by_cases h1 : -1024 ≤ x ∧ x ≤ 1024 <;> by_cases h2 : -1024 ≤ y ∧ y ≤ 1024 <;> by_cases h3 : 0 ≤ h ∧ h ≤ 3 <;> by_cases h4 : 0 ≤ t ∧ t ≤ 16 <;> simp [h1, h2, h3, h4]

theorem tmod_pos {a b : Int} (h : 0 ≤ a) : Int.tmod a b = a % b := Int.tmod_eq_emod_of_nonneg h
theorem tmod_neg' (a b : Int) : Int.tmod (-a) b = -(Int.tmod a b) := Int.neg_tmod a b
theorem tdiv_pos {a b : Int} (h : 0 ≤ a) : Int.tdiv a b = a / b := Int.tdiv_eq_ediv_of_nonneg h
theorem tmod4 (n : Int) : (Int.tmod n 4 < 0 → Int.tmod n 4 + 4 = n % 4) ∧ (¬ Int.tmod n 4 < 0 → Int.tmod n 4 = n % 4) ∧ -3 ≤ Int.tmod n 4 ∧ Int.tmod n 4 ≤ 3 := by
  rcases Int.le_total 0 n with h | h
  · rw [tmod_pos h]; omega
  · obtain ⟨m, rfl⟩ : ∃ m, n = -m := ⟨-n, by omega⟩
    rw [tmod_neg', tmod_pos (by omega)]; omega

theorem iTurns (n : Int) : impl_turns.f n = some (n % 4) := by
  have h := tmod4 n
  unfold impl_turns.f
  rw [w64 (by omega) (by omega), tmod_pos (by omega)]
  simp
  by_cases h1 : Int.tmod n 4 < 0 <;> omega

def PL (x y : Int) : Prop := (-4096 ≤ x ∧ x ≤ 4096) ∧ (-4096 ≤ y ∧ y ≤ 4096)
instance (x y : Int) : Decidable (PL x y) := by unfold PL; infer_instance

theorem iPL (x y : Int) : impl_IsPlace.f x y = some (decide (PL x y)) := iIsPlace x y

def chk (x y : Int) : Int × Int × Bool := if PL x y then (x, y, true) else (0, 0, false)

theorem iChk (x y : Int) : impl_checked.f x y = some (chk x y) := by
  unfold impl_checked.f chk
  simp only [iPL, Option.bind_some]
  by_cases h : PL x y <;> simp [h]

def tr (m x y : Int) : Int × Int := if m = 0 then (x, y) else if m = 1 then (-y, x) else if m = 2 then (-x, -y) else (y, -x)
theorem tr0 (x y : Int) : tr 0 x y = (x, y) := by simp [tr]
theorem tr1 (x y : Int) : tr 1 x y = (-y, x) := by simp [tr]
theorem tr2 (x y : Int) : tr 2 x y = (-x, -y) := by simp [tr]
theorem tr3 (x y : Int) : tr 3 x y = (y, -x) := by simp [tr]
theorem tr_bd {m x y b : Int} (hx : -b ≤ x ∧ x ≤ b) (hy : -b ≤ y ∧ y ≤ b) : (-b ≤ (tr m x y).1 ∧ (tr m x y).1 ≤ b) ∧ (-b ≤ (tr m x y).2 ∧ (tr m x y).2 ≤ b) := by
  unfold tr
  split
  · simp; omega
  · split
    · simp; omega
    · split <;> simp <;> omega

theorem iTurnL {x y : Int} (m : Int) (hm : 0 ≤ m ∧ m ≤ 3) (hx : -1000000000 ≤ x ∧ x ≤ 1000000000) (hy : -1000000000 ≤ y ∧ y ≤ 1000000000) : Ev (fun k => impl_turned.l0 k m 0 x y) (tr m x y) := by
  have e : ∀ m x y : Int, Ev (fun k => impl_turned.l0 k m m x y) (x, y) := fun m x y => Ev.step (f := fun _ => some (x, y)) (fun k => by simp only [impl_turned.l0]; rw [if_neg (by omega)]) (Ev.now _)
  have s : ∀ (m i i' x y : Int) (r : Int × Int), i' = i + 1 → 0 ≤ i → i < m → m ≤ 3 → (-1000000000 ≤ y ∧ y ≤ 1000000000) → Ev (fun k => impl_turned.l0 k m i' (-y) x) r → Ev (fun k => impl_turned.l0 k m i x y) r := fun m i i' x y r hi' h0 h1 h3 hy h => by
    refine Ev.step (fun k => ?_) h
    simp only [impl_turned.l0]
    rw [if_pos (by omega), w64 (x := i + 1) (by omega) (by omega), w64 (x := -y) (by omega) (by omega), hi']
  have : m = 0 ∨ m = 1 ∨ m = 2 ∨ m = 3 := by omega
  rcases this with rfl | rfl | rfl | rfl
  · rw [tr0]; exact e 0 x y
  · rw [tr1]; exact s 1 0 1 _ _ _ (by omega) (by omega) (by omega) (by omega) hy (e 1 _ _)
  · rw [tr2]; exact s 2 0 1 _ _ _ (by omega) (by omega) (by omega) (by omega) hy (s 2 1 2 _ _ _ (by omega) (by omega) (by omega) (by omega) hx (e 2 _ _))
  · rw [tr3]
    have := s 3 0 1 _ _ _ (by omega) (by omega) (by omega) (by omega) hy (s 3 1 2 _ _ _ (by omega) (by omega) (by omega) (by omega) hx (s 3 2 3 _ _ _ (by omega) (by omega) (by omega) (by omega) (by omega) (e 3 _ _)))
    rwa [Int.neg_neg] at this

theorem iTurn {x y : Int} (n : Int) (hx : -1000000000 ≤ x ∧ x ≤ 1000000000) (hy : -1000000000 ≤ y ∧ y ≤ 1000000000) : Ev (fun k => impl_turned.f k x y n) (tr (n % 4) x y) := by
  unfold impl_turned.f
  simp only [iTurns, Option.bind_some]
  exact iTurnL _ (by omega) hx hy

def stV (x y h s : Int) : Int × Int × Bool := if PL x y ∧ (0 ≤ h ∧ h ≤ 3) ∧ (-4096 ≤ s ∧ s ≤ 4096) then chk (x + (tr h s 0).1) (y + (tr h s 0).2) else (0, 0, false)

theorem iStep (x y h s : Int) : Ev (fun k => impl_StepFrom.f k x y h s) (stV x y h s) := by
  have bad : ∀ b : Bool, b = true → Ev (fun k => impl_StepFrom.j0 k h s b x y) (0, 0, false) := fun b hb => Ev.step (f := fun _ => some (0, 0, false)) (fun k => by simp only [impl_StepFrom.j0]; rw [if_pos hb]) (Ev.now _)
  unfold impl_StepFrom.f stV
  simp only [iPL, iIsHeading, iIsMeasure, Option.bind_some]
  by_cases h1 : PL x y
  · by_cases h2 : 0 ≤ h ∧ h ≤ 3
    · by_cases h3 : -4096 ≤ s ∧ s ≤ 4096
      · simp only [h1, h2, h3, decide_true, if_true, and_self, Bool.not_true]
        have ht := tr_bd (m := h) (x := s) (y := 0) (b := 4096) (by omega) (by omega)
        refine Ev.step (f := fun k => (impl_turned.f k s 0 h).bind fun bt => (impl_checked.f (wrap64 (x + bt.1)) (wrap64 (y + bt.2))).bind fun b2 => some (b2.1, b2.2.1, b2.2.2)) (fun k => by simp only [impl_StepFrom.j0, Bool.false_eq_true, if_false]) ?_
        have hs := iTurn (x := s) (y := 0) h (by omega) (by omega)
        rw [show h % 4 = h by omega] at hs
        refine Ev.bind hs ?_
        unfold PL at h1
        simp only [iChk, Option.bind_some]
        rw [w64 (x := x + _) (by omega) (by omega), w64 (x := y + _) (by omega) (by omega)]
        exact Ev.now _
      · simp only [h1, h2, h3, decide_true, decide_false, if_true, and_false, if_false, Bool.not_false, and_self]
        exact bad _ rfl
    · simp only [h1, h2, decide_true, decide_false, if_true, and_false, false_and, if_false, Bool.false_eq_true]
      exact bad _ rfl
  · simp only [h1, decide_false, false_and, if_false, Bool.false_eq_true]
    exact bad _ rfl

def flV (x y h t l : Int) : Int := if JetOK x y h t l then l + 1 else 0
theorem pb {t u : Int} (ht : 0 ≤ t ∧ t ≤ 1000) (hu : 0 ≤ u ∧ u ≤ 1000) : 0 ≤ t * u ∧ t * u ≤ 1000000 :=
  ⟨Int.mul_nonneg ht.1 hu.1, by have := Int.mul_le_mul ht.2 hu.2 hu.1 (by omega : (0 : Int) ≤ 1000); omega⟩

theorem iFlight (x y h t l : Int) : impl_FlightOf.f x y h t l = some (flV x y h t l) := by
  unfold impl_FlightOf.f flV
  simp only [iIsJet, Option.bind_some]
  by_cases hj : JetOK x y h t l
  · have := hj
    unfold JetOK at this
    rw [w64 (by omega) (by omega)]
    simp [hj]
  · simp [hj]

def htV (x y h t l T : Int) : Int := if JetOK x y h t l ∧ 0 ≤ T ∧ T ≤ l + 1 then T * (l + 1 - T) else 0

theorem iAir (x y h t l T : Int) : impl_isInAir.f x y h t l T = some (decide (JetOK x y h t l ∧ 0 ≤ T ∧ T ≤ l + 1)) := by
  unfold impl_isInAir.f
  simp only [iIsJet, iFlight, iWithin, Option.bind_some, flV]
  by_cases hj : JetOK x y h t l <;> simp [hj]

def paV (x y h t l T : Int) : Int × Int × Bool := if JetOK x y h t l ∧ 0 ≤ T ∧ T ≤ l + 1 then (x + (tr h (T * t) 0).1, y + (tr h (T * t) 0).2, true) else (0, 0, false)
theorem pb2 {T t l : Int} (hT : 0 ≤ T ∧ T ≤ l + 1) (hl : l ≤ 32) (ht : 0 ≤ t ∧ t ≤ 16) : 0 ≤ T * t ∧ T * t ≤ 528 :=
  ⟨Int.mul_nonneg hT.1 ht.1, by have := Int.mul_le_mul (show T ≤ 33 by omega) ht.2 ht.1 (by omega : (0 : Int) ≤ 33); omega⟩

theorem iPlaceAt (x y h t l T : Int) : Ev (fun k => impl_PlaceAt.f k x y h t l T) (paV x y h t l T) := by
  unfold impl_PlaceAt.f paV
  simp only [iAir, Option.bind_some]
  by_cases hj : JetOK x y h t l ∧ 0 ≤ T ∧ T ≤ l + 1
  · rw [if_pos hj]
    simp only [hj, decide_true, if_true, and_self]
    have hj' := hj
    unfold JetOK at hj'
    have hb := pb2 (T := T) (t := t) (l := l) (by omega) (by omega) (by omega)
    have ht := tr_bd (m := h) (x := T * t) (y := 0) (b := 528) (by omega) (by omega)
    rw [w64 (x := T * t) (by omega) (by omega)]
    have hs := iStep x y h (T * t)
    have e : stV x y h (T * t) = (x + (tr h (T * t) 0).1, y + (tr h (T * t) 0).2, true) := by
      unfold stV chk
      rw [if_pos (by unfold PL; omega), if_pos (by unfold PL; omega)]
    rw [e] at hs
    exact Ev.bind hs (Ev.now _)
  · rw [if_neg hj]
    simp only [hj, decide_false, if_false, Bool.false_eq_true]
    exact Ev.now _

def laV (x y h t l : Int) : Int × Int × Bool := paV x y h t l (flV x y h t l)

theorem iLanding (x y h t l : Int) : Ev (fun k => impl_LandingOf.f k x y h t l) (laV x y h t l) := by
  unfold impl_LandingOf.f
  simp only [iFlight, Option.bind_some]
  exact Ev.bind (iPlaceAt x y h t l _) (Ev.now _)

theorem and255 (x : Int) : 0 ≤ bits .and .i64 x 255 ∧ bits .and .i64 x 255 ≤ 255 := by
  simp only [bits]
  have h : ((BitVec.ofInt IntKind.i64.bits x &&& BitVec.ofInt IntKind.i64.bits 255).toNat : Int) ≤ 255 := by
    rw [BitVec.toNat_and]
    have : (BitVec.ofInt IntKind.i64.bits x).toNat &&& (BitVec.ofInt IntKind.i64.bits 255).toNat ≤ 255 := Nat.le_trans Nat.and_le_right (by decide)
    omega
  have h0 : (0 : Int) ≤ ((BitVec.ofInt IntKind.i64.bits x &&& BitVec.ofInt IntKind.i64.bits 255).toNat : Int) := Int.natCast_nonneg _
  generalize ((BitVec.ofInt IntKind.i64.bits x &&& BitVec.ofInt IntKind.i64.bits 255).toNat : Int) = z at h h0
  have e : IntKind.i64.wrap z = z := by
    simp [IntKind.wrap, IntKind.bits, IntKind.signed]
    split <;> omega
  rw [e]
  exact ⟨h0, h⟩
theorem dByte {l : List Int} {i : Int} (h : Int) (hl : l.length ≤ 4096) (hi : 0 ≤ i) : ∃ x i' h', spec_l1Byte.f l i h = some (x, i', h') ∧ (0 ≤ x ∧ x ≤ 255) ∧ 0 ≤ i' := by
  unfold spec_l1Byte.f
  by_cases hlt : i < (l.length : Int)
  · rw [if_pos hlt, if_pos hi]
    exact ⟨_, _, _, rfl, and255 _, by rw [w64 (by omega) (by omega)]; omega⟩
  · rw [if_neg hlt]
    exact ⟨_, _, _, rfl, and255 _, hi⟩

theorem tmod_bd {a n : Int} (ha : 0 ≤ a) (hn : 0 < n) : 0 ≤ Int.tmod a n ∧ Int.tmod a n < n := by
  rw [tmod_pos ha]
  exact ⟨Int.emod_nonneg _ (by omega), Int.emod_lt_of_pos _ hn⟩
theorem dBelow {l : List Int} {i : Int} (h : Int) {n : Int} (hl : l.length ≤ 4096) (hi : 0 ≤ i) (hn : 0 < n) : ∃ x i' h', spec_l1Below.f l i h n = some (x, i', h') ∧ (0 ≤ x ∧ x < n) ∧ 0 ≤ i' := by
  unfold spec_l1Below.f
  rw [if_neg (by omega)]
  split
  · obtain ⟨x, i1, h1, e, hx, hi1⟩ := dByte h hl hi
    rw [e]
    simp only [Option.bind_some]
    rw [if_neg (by omega)]
    exact ⟨_, _, _, rfl, tmod_bd hx.1 hn, hi1⟩
  · obtain ⟨x, i1, h1, e1, hx, hi1⟩ := dByte h hl hi
    rw [e1]
    simp only [Option.bind_some]
    obtain ⟨y, i2, h2, e2, hy, hi2⟩ := dByte h1 hl hi1
    rw [e2]
    simp only [Option.bind_some]
    obtain ⟨z, i3, h3, e3, hz, hi3⟩ := dByte h2 hl hi2
    rw [e3]
    simp only [Option.bind_some]
    rw [if_neg (by omega)]
    refine ⟨_, _, _, rfl, tmod_bd ?_ hn, hi3⟩
    rw [w64 (x := x * 65536) (by omega) (by omega), w64 (x := y * 256) (by omega) (by omega), w64 (x := x * 65536 + y * 256) (by omega) (by omega), w64 (x := x * 65536 + y * 256 + z) (by omega) (by omega)]
    omega

theorem dSome {l : List Int} {i : Int} (h : Int) {a b : Int} (hl : l.length ≤ 4096) (hi : 0 ≤ i) (hab : -1000000 ≤ a ∧ a ≤ b ∧ b ≤ 1000000) : ∃ x i' h', spec_l1Some.f l i h a b = some (x, i', h') ∧ (a ≤ x ∧ x ≤ b) ∧ 0 ≤ i' := by
  unfold spec_l1Some.f
  rw [w64 (x := b - a) (by omega) (by omega), w64 (x := b - a + 1) (by omega) (by omega)]
  obtain ⟨x, i1, h1, e, hx, hi1⟩ := dBelow h hl hi (show 0 < b - a + 1 by omega)
  rw [e]
  simp only [Option.bind_some]
  refine ⟨_, _, _, rfl, ?_, hi1⟩
  rw [w64 (by omega) (by omega)]
  omega

theorem new_loop (l : List Int) (hl : l.length ≤ 4096) (d : Nat) : ∀ (i h : Int), 0 ≤ i → (l.length : Int) - i = d → ∃ h', Ev (fun k => spec_l1New.l0 k l h i) (l, 0, h') := by
  induction d with
  | zero =>
    intro i h h0 hd
    refine ⟨h, Ev.succ' ?_⟩
    simp only [spec_l1New.l0, if_neg (show ¬ i < (l.length : Int) by omega)]
    exact Ev.now _
  | succ d ih =>
    intro i h h0 hd
    by_cases h4 : i < 4000
    · obtain ⟨h', e⟩ := ih (i + 1) (bits .and .i64 (wrap64 ((wrap64 ((wrap64 (h * 167)) + (wrap64 (rd l i)))) + 29)) 1073741823) (by omega) (by omega)
      refine ⟨h', Ev.succ' ?_⟩
      simp only [spec_l1New.l0, if_pos (show i < (l.length : Int) by omega), if_pos h4, if_pos h0]
      rw [w64 (x := i + 1) (by omega) (by omega)]
      exact e
    · refine ⟨h, Ev.succ' ?_⟩
      simp only [spec_l1New.l0, if_pos (show i < (l.length : Int) by omega), if_neg h4]
      exact Ev.now _
theorem dNew (l : List Int) (hl : l.length ≤ 4096) : ∃ h, Ev (fun k => spec_l1New.f k l) (l, 0, h) := by
  unfold spec_l1New.f
  exact new_loop l hl l.length 0 _ (by omega) (by omega)

theorem lawBig (l : List Int) : laws_big.f l = some (decide ((l.length : Int) > 4096)) := rfl

theorem dPlace {l : List Int} {i : Int} (h : Int) (hl : l.length ≤ 4096) (hi : 0 ≤ i) : ∃ x y i' h', spec_l2Draw.f l i h = some (x, y, i', h') ∧ (-64 ≤ x ∧ x ≤ 64) ∧ (-64 ≤ y ∧ y ≤ 64) ∧ 0 ≤ i' := by
  unfold spec_l2Draw.f
  obtain ⟨x, i1, h1, e1, hx, hi1⟩ := dSome h (a := -64) (b := 64) hl hi (by omega)
  rw [e1]
  simp only [Option.bind_some]
  obtain ⟨y, i2, h2, e2, hy, hi2⟩ := dSome h1 (a := -64) (b := 64) hl hi1 (by omega)
  rw [e2]
  simp only [Option.bind_some]
  exact ⟨_, _, _, _, rfl, hx, hy, hi2⟩

theorem dJet {l : List Int} {i : Int} (h : Int) (hl : l.length ≤ 4096) (hi : 0 ≤ i) : ∃ x y hd t lf i' h', spec_l3Draw.f l i h = some (x, y, hd, t, lf, i', h') ∧ ((-64 ≤ x ∧ x ≤ 64) ∧ (-64 ≤ y ∧ y ≤ 64) ∧ (0 ≤ hd ∧ hd ≤ 3) ∧ (0 ≤ t ∧ t ≤ 16) ∧ (1 ≤ lf ∧ lf ≤ 32)) ∧ 0 ≤ i' := by
  unfold spec_l3Draw.f
  obtain ⟨x, y, i1, h1, e1, hx, hy, hi1⟩ := dPlace h hl hi
  rw [e1]
  simp only [Option.bind_some]
  obtain ⟨hd, i2, h2, e2, hhd, hi2⟩ := dBelow h1 hl hi1 (show (0 : Int) < 4 by omega)
  rw [e2]
  simp only [Option.bind_some]
  obtain ⟨t, i3, h3, e3, ht, hi3⟩ := dBelow h2 hl hi2 (show (0 : Int) < 17 by omega)
  rw [e3]
  simp only [Option.bind_some]
  obtain ⟨lf, i4, h4, e4, hlf, hi4⟩ := dSome h3 (a := 1) (b := 32) hl hi3 (by omega)
  rw [e4]
  simp only [Option.bind_some]
  exact ⟨_, _, _, _, _, _, _, rfl, ⟨hx, hy, ⟨hhd.1, by omega⟩, ⟨ht.1, by omega⟩, hlf⟩, hi4⟩

theorem drawJet (l : List Int) (hl : l.length ≤ 4096) : ∃ x y h t lf, ((-64 ≤ x ∧ x ≤ 64) ∧ (-64 ≤ y ∧ y ≤ 64) ∧ (0 ≤ h ∧ h ≤ 3) ∧ (0 ≤ t ∧ t ≤ 16) ∧ (1 ≤ lf ∧ lf ≤ 32)) ∧ Ev (fun k => spec_DrawJet.f k l) (x, y, h, t, lf) := by
  obtain ⟨h0, e0⟩ := dNew l hl
  obtain ⟨x, y, h, t, lf, i1, h1, e1, hj, _⟩ := dJet (i := 0) h0 hl (by omega)
  refine ⟨x, y, h, t, lf, hj, ?_⟩
  unfold spec_DrawJet.f
  refine Ev.bind e0 ?_
  simp only [e1, Option.bind_some]
  exact Ev.now _

theorem htF {x y h t l : Int} (hj : JetOK x y h t l) (T : Int) (h0 : 0 ≤ T) (h1 : T ≤ l + 1) : htV x y h t l T = T * (l + 1 - T) := by unfold htV; rw [if_pos ⟨hj, h0, h1⟩]
theorem htO {x y h t l : Int} (T : Int) (h1 : ¬ (0 ≤ T ∧ T ≤ l + 1)) : htV x y h t l T = 0 := by unfold htV; rw [if_neg (by omega)]
theorem flF {x y h t l : Int} (hj : JetOK x y h t l) : flV x y h t l = l + 1 := by unfold flV; rw [if_pos hj]

theorem iReach (x y h t l : Int) : impl_ReachOf.f x y h t l = some (wrap64 (t * flV x y h t l)) := by
  unfold impl_ReachOf.f
  simp only [iFlight, Option.bind_some]

theorem tr_lin (m a b : Int) : (tr m (a + b) 0).1 = (tr m a 0).1 + (tr m b 0).1 ∧ (tr m (a + b) 0).2 = (tr m a 0).2 + (tr m b 0).2 := by
  unfold tr
  split
  · simp
  · split
    · simp
    · split <;> simp <;> omega

theorem FnLands : ∀ (l0 : List Int), l0.length ≤ maxLen → l0.length * 1 ≤ 140737488351232 → (∀ x ∈ l0, (Lit.int .u8 x).wf = true) → ∃ k, laws_FnLands.f k l0 = some true := by
  intro l _ _ _
  refine Ev.rounds (r := true) ?_
  unfold laws_FnLands.f
  simp only [lawBig, Option.bind_some]
  by_cases hb : (l.length : Int) > 4096
  · simp only [hb, decide_true, if_true]
    exact Ev.now _
  · simp only [hb, decide_false, Bool.false_eq_true, if_false]
    obtain ⟨x, y, h, t, L, hd, e⟩ := drawJet l (by omega)
    refine Ev.bind e ?_
    have hj : JetOK x y h t L := by unfold JetOK; omega
    have hpa : ∀ T, 0 ≤ T → T ≤ L + 1 → paV x y h t L T = (x + (tr h (T * t) 0).1, y + (tr h (T * t) 0).2, true) := fun T h0 h1 => by unfold paV; rw [if_pos ⟨hj, h0, h1⟩]
    have hpb := pb2 (T := L + 1) (t := t) (l := L) (by omega) (by omega) (by omega)
    have htb := tr_bd (m := h) (x := (L + 1) * t) (y := 0) (b := 528) (by omega) (by omega)
    refine Ev.bind (iLanding x y h t L) ?_
    unfold laV
    rw [flF hj, hpa (L + 1) (by omega) (by omega)]
    simp only [iReach, Option.bind_some, flF hj]
    rw [Int.mul_comm t (L + 1), w64 (x := (L + 1) * t) (by omega) (by omega)]
    refine Ev.bind (iStep x y h ((L + 1) * t)) ?_
    have hst : stV x y h ((L + 1) * t) = (x + (tr h ((L + 1) * t) 0).1, y + (tr h ((L + 1) * t) 0).2, true) := by
      unfold stV chk
      rw [if_pos (by unfold PL; omega), if_pos (by unfold PL; omega)]
    rw [hst]
    simp only [if_true, beq_self_eq_true, Bool.not_true, Bool.or_self, Bool.false_eq_true, if_false, iFlight, Option.bind_some, flF hj]
    rw [w64 (x := (L + 1) * t) (by omega) (by omega)]
    simp only [bne_self_eq_false]
    refine Ev.succ' ?_
    simp only [laws_FnLands.j0, Bool.false_eq_true, if_false]
    have loop : ∀ (d : Nat) (T : Int), 0 ≤ T → L + 1 - T = d → Ev (fun k => laws_FnLands.l0 k T x y h t L) true := by
      intro d
      induction d with
      | zero =>
        intro T h0 hdd
        refine Ev.succ' ?_
        simp only [laws_FnLands.l0, iFlight, Option.bind_some, flF hj, if_neg (show ¬ T < L + 1 by omega)]
        rw [w64 (by omega) (by omega)]
        refine Ev.bind (iPlaceAt x y h t L (L + 1 + 1)) ?_
        rw [show paV x y h t L (L + 1 + 1) = (0, 0, false) by unfold paV; rw [if_neg (by omega)]]
        exact Ev.now _
      | succ d ih =>
        intro T h0 hdd
        refine Ev.succ' ?_
        have hp1 := pb2 (T := T) (t := t) (l := L) (by omega) (by omega) (by omega)
        have hp2 := pb2 (T := T + 1) (t := t) (l := L) (by omega) (by omega) (by omega)
        have ht1 := tr_bd (m := h) (x := T * t) (y := 0) (b := 528) (by omega) (by omega)
        have ht2 := tr_bd (m := h) (x := t) (y := 0) (b := 528) (by omega) (by omega)
        have hl := tr_lin h (T * t) t
        have hm : (T + 1) * t = T * t + t := by rw [Int.add_mul, Int.one_mul]
        simp only [laws_FnLands.l0, iFlight, Option.bind_some, flF hj, if_pos (show T < L + 1 by omega)]
        rw [w64 (by omega) (by omega)]
        refine Ev.bind (iPlaceAt x y h t L T) (Ev.bind (iPlaceAt x y h t L (T + 1)) ?_)
        rw [hpa T h0 (by omega), hpa (T + 1) (by omega) (by omega)]
        refine Ev.bind (iStep _ _ h t) ?_
        have hst2 : stV (x + (tr h (T * t) 0).1) (y + (tr h (T * t) 0).2) h t = (x + (tr h ((T + 1) * t) 0).1, y + (tr h ((T + 1) * t) 0).2, true) := by
          unfold stV chk
          rw [if_pos (by unfold PL; omega), if_pos (by unfold PL; omega), hm, hl.1, hl.2, Int.add_assoc, Int.add_assoc]
        rw [hst2]
        simp only [if_true, beq_self_eq_true, Bool.not_true, Bool.or_self, Bool.false_eq_true, if_false]
        exact ih (T + 1) (by omega) (by omega)
    exact loop (L + 1).toNat 0 (by omega) (by omega)

end Go.Proofs.Ytkioodeeadhdaaa.Pure
