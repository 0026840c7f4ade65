/- The plain law behind FnPeak: for every input that the row lets in, the printed function of the law answers true. No condition beyond the bounds that the statement names. -/
import Derived.Test.YtkioodeeadhdaaaPFnPeakx2
namespace Go.Proofs.Ytkioodeeadhdaaa.Pure
open Go.RowKit Go.Proofs.Ytkioodeeadhdaaa.PFnPeak Go.Proofs.YtkioodeeadhdaaaW.PrintWords Go.Proofs.YtkioodeeadhdaaaW.PrintLast
open Go.Proofs.YtkioodeeadhdaaaW.PrintMore
set_option linter.unusedVariables false
set_option linter.unusedSimpArgs false

theorem w64 {x : Int} (h0 : -9223372036854775808 ≤ x) (h1 : x ≤ 9223372036854775807) : wrap64 x = x := by unfold wrap64; omega
theorem wfb {a : Int} (h : (Lit.int .i64 a).wf = true) : -9223372036854775808 ≤ a ∧ a ≤ 9223372036854775807 := by
  simp [Lit.wf, IntKind.min, IntKind.max, IntKind.signed, IntKind.bits] at h
  omega
theorem Ev.succ' {α : Type} {g : Nat → Option α} {r : α} (h : Ev (fun k => g (k + 1)) r) : Ev g r := Ev.step (fun _ => rfl) h
theorem dec_congr {p q : Prop} [Decidable p] [Decidable q] (h : p ↔ q) : decide p = decide q := by simp [h]

theorem iWithin (a b c : Int) : impl_isWithin.f a b c = some (decide (b ≤ a ∧ a ≤ c)) := by
  unfold impl_isWithin.f
  split <;> simp <;> omega

theorem iIsHeading (x : Int) : impl_IsHeading.f x = some (decide (0 ≤ x ∧ x ≤ 3)) := by
  unfold impl_IsHeading.f
  rw [iWithin]
  rfl

def JetOK (x y h t l : Int) : Prop := (-1024 ≤ x ∧ x ≤ 1024) ∧ (-1024 ≤ y ∧ y ≤ 1024) ∧ (0 ≤ h ∧ h ≤ 3) ∧ (0 ≤ t ∧ t ≤ 16) ∧ (1 ≤ l ∧ l ≤ 32)
instance (x y h t l : Int) : Decidable (JetOK x y h t l) := by unfold JetOK; infer_instance

theorem iIsJet (x y h t l : Int) : impl_IsJet.f x y h t l = some (decide (JetOK x y h t l)) := by
  unfold impl_IsJet.f
  simp only [JetOK]
  simp only [iWithin, iIsHeading, Option.bind_some]
  by_cases h1 : -1024 ≤ x ∧ x ≤ 1024 <;> by_cases h2 : -1024 ≤ y ∧ y ≤ 1024 <;> by_cases h3 : 0 ≤ h ∧ h ≤ 3 <;> by_cases h4 : 0 ≤ t ∧ t ≤ 16 <;> simp [h1, h2, h3, h4]

theorem tmod_pos {a b : Int} (h : 0 ≤ a) : Int.tmod a b = a % b := Int.tmod_eq_emod_of_nonneg h
theorem tmod_neg' (a b : Int) : Int.tmod (-a) b = -(Int.tmod a b) := Int.neg_tmod a b
theorem tdiv_pos {a b : Int} (h : 0 ≤ a) : Int.tdiv a b = a / b := Int.tdiv_eq_ediv_of_nonneg h
theorem tmod4 (n : Int) : (Int.tmod n 4 < 0 → Int.tmod n 4 + 4 = n % 4) ∧ (¬ Int.tmod n 4 < 0 → Int.tmod n 4 = n % 4) ∧ -3 ≤ Int.tmod n 4 ∧ Int.tmod n 4 ≤ 3 := by
  rcases Int.le_total 0 n with h | h
  · rw [tmod_pos h]; omega
  · obtain ⟨m, rfl⟩ : ∃ m, n = -m := ⟨-n, by omega⟩
    rw [tmod_neg', tmod_pos (by omega)]; omega

def flV (x y h t l : Int) : Int := if JetOK x y h t l then l + 1 else 0
theorem pb {t u : Int} (ht : 0 ≤ t ∧ t ≤ 1000) (hu : 0 ≤ u ∧ u ≤ 1000) : 0 ≤ t * u ∧ t * u ≤ 1000000 :=
  ⟨Int.mul_nonneg ht.1 hu.1, by have := Int.mul_le_mul ht.2 hu.2 hu.1 (by omega : (0 : Int) ≤ 1000); omega⟩

theorem iFlight (x y h t l : Int) : impl_FlightOf.f x y h t l = some (flV x y h t l) := by
  unfold impl_FlightOf.f flV
  simp only [iIsJet, Option.bind_some]
  by_cases hj : JetOK x y h t l
  · have := hj
    unfold JetOK at this
    rw [w64 (by omega) (by omega)]
    simp [hj]
  · simp [hj]

def htV (x y h t l T : Int) : Int := if JetOK x y h t l ∧ 0 ≤ T ∧ T ≤ l + 1 then T * (l + 1 - T) else 0

theorem iAir (x y h t l T : Int) : impl_isInAir.f x y h t l T = some (decide (JetOK x y h t l ∧ 0 ≤ T ∧ T ≤ l + 1)) := by
  unfold impl_isInAir.f
  simp only [iIsJet, iFlight, iWithin, Option.bind_some, flV]
  by_cases hj : JetOK x y h t l <;> simp [hj]

theorem iHeight (x y h t l T : Int) : impl_HeightAt.f x y h t l T = some (htV x y h t l T) := by
  unfold impl_HeightAt.f htV
  simp only [iAir, Option.bind_some]
  by_cases hj : JetOK x y h t l ∧ 0 ≤ T ∧ T ≤ l + 1
  · have hj' := hj
    unfold JetOK at hj'
    have hb := pb (t := T) (u := l + 1 - T) (by omega) (by omega)
    rw [w64 (x := l + 1) (by omega) (by omega), w64 (x := l + 1 - T) (by omega) (by omega), w64 (x := T * _) (by omega) (by omega), if_pos (by simpa using hj), if_pos hj]
  · rw [if_neg (by simpa using hj), if_neg hj]

def pkV (x y h t l : Int) : Int × Int := if JetOK x y h t l then ((l + 1) / 2, ((l + 1) / 2) * (l + 1 - (l + 1) / 2)) else (0, 0)

theorem iPeak (x y h t l : Int) : impl_PeakOf.f x y h t l = some (pkV x y h t l) := by
  unfold impl_PeakOf.f pkV
  simp only [iFlight, iHeight, Option.bind_some, flV, htV]
  by_cases hj : JetOK x y h t l
  · have hj' := hj
    unfold JetOK at hj'
    simp only [hj, if_true, true_and]
    rw [tdiv_pos (by omega), w64 (by omega) (by omega), if_pos (by omega)]
  · simp only [hj, if_false, false_and]
    simp [wrap64]

theorem iLift_step (H l : Int) (hl : 1 ≤ l ∧ l ≤ 32) (r : Int × Bool) (h : Ev (fun k => if (pkV 0 0 0 0 l).2 ≥ H then some (l, true) else impl_LiftFor.l0 k H (l + 1)) r) : Ev (fun k => impl_LiftFor.l0 k H l) r := by
  refine Ev.step (fun k => ?_) h
  simp only [impl_LiftFor.l0, iPeak, Option.bind_some]
  rw [if_pos (by omega), w64 (by omega) (by omega)]
theorem iLift_end (H : Int) : Ev (fun k => impl_LiftFor.l0 k H 33) (0, false) := by
  refine Ev.step (f := fun _ => some (0, false)) (fun k => ?_) (Ev.now _)
  simp only [impl_LiftFor.l0]
  rw [if_neg (by omega)]

theorem and255 (x : Int) : 0 ≤ bits .and .i64 x 255 ∧ bits .and .i64 x 255 ≤ 255 := by
  simp only [bits]
  have h : ((BitVec.ofInt IntKind.i64.bits x &&& BitVec.ofInt IntKind.i64.bits 255).toNat : Int) ≤ 255 := by
    rw [BitVec.toNat_and]
    have : (BitVec.ofInt IntKind.i64.bits x).toNat &&& (BitVec.ofInt IntKind.i64.bits 255).toNat ≤ 255 := Nat.le_trans Nat.and_le_right (by decide)
    omega
  have h0 : (0 : Int) ≤ ((BitVec.ofInt IntKind.i64.bits x &&& BitVec.ofInt IntKind.i64.bits 255).toNat : Int) := Int.natCast_nonneg _
  generalize ((BitVec.ofInt IntKind.i64.bits x &&& BitVec.ofInt IntKind.i64.bits 255).toNat : Int) = z at h h0
  have e : IntKind.i64.wrap z = z := by
    simp [IntKind.wrap, IntKind.bits, IntKind.signed]
    split <;> omega
  rw [e]
  exact ⟨h0, h⟩
theorem dByte {l : List Int} {i : Int} (h : Int) (hl : l.length ≤ 4096) (hi : 0 ≤ i) : ∃ x i' h', spec_l1Byte.f l i h = some (x, i', h') ∧ (0 ≤ x ∧ x ≤ 255) ∧ 0 ≤ i' := by
  unfold spec_l1Byte.f
  by_cases hlt : i < (l.length : Int)
  · rw [if_pos hlt, if_pos hi]
    exact ⟨_, _, _, rfl, and255 _, by rw [w64 (by omega) (by omega)]; omega⟩
  · rw [if_neg hlt]
    exact ⟨_, _, _, rfl, and255 _, hi⟩

theorem tmod_bd {a n : Int} (ha : 0 ≤ a) (hn : 0 < n) : 0 ≤ Int.tmod a n ∧ Int.tmod a n < n := by
  rw [tmod_pos ha]
  exact ⟨Int.emod_nonneg _ (by omega), Int.emod_lt_of_pos _ hn⟩
theorem dBelow {l : List Int} {i : Int} (h : Int) {n : Int} (hl : l.length ≤ 4096) (hi : 0 ≤ i) (hn : 0 < n) : ∃ x i' h', spec_l1Below.f l i h n = some (x, i', h') ∧ (0 ≤ x ∧ x < n) ∧ 0 ≤ i' := by
  unfold spec_l1Below.f
  rw [if_neg (by omega)]
  split
  · obtain ⟨x, i1, h1, e, hx, hi1⟩ := dByte h hl hi
    rw [e]
    simp only [Option.bind_some]
    rw [if_neg (by omega)]
    exact ⟨_, _, _, rfl, tmod_bd hx.1 hn, hi1⟩
  · obtain ⟨x, i1, h1, e1, hx, hi1⟩ := dByte h hl hi
    rw [e1]
    simp only [Option.bind_some]
    obtain ⟨y, i2, h2, e2, hy, hi2⟩ := dByte h1 hl hi1
    rw [e2]
    simp only [Option.bind_some]
    obtain ⟨z, i3, h3, e3, hz, hi3⟩ := dByte h2 hl hi2
    rw [e3]
    simp only [Option.bind_some]
    rw [if_neg (by omega)]
    refine ⟨_, _, _, rfl, tmod_bd ?_ hn, hi3⟩
    rw [w64 (x := x * 65536) (by omega) (by omega), w64 (x := y * 256) (by omega) (by omega), w64 (x := x * 65536 + y * 256) (by omega) (by omega), w64 (x := x * 65536 + y * 256 + z) (by omega) (by omega)]
    omega

theorem dSome {l : List Int} {i : Int} (h : Int) {a b : Int} (hl : l.length ≤ 4096) (hi : 0 ≤ i) (hab : -1000000 ≤ a ∧ a ≤ b ∧ b ≤ 1000000) : ∃ x i' h', spec_l1Some.f l i h a b = some (x, i', h') ∧ (a ≤ x ∧ x ≤ b) ∧ 0 ≤ i' := by
  unfold spec_l1Some.f
  rw [w64 (x := b - a) (by omega) (by omega), w64 (x := b - a + 1) (by omega) (by omega)]
  obtain ⟨x, i1, h1, e, hx, hi1⟩ := dBelow h hl hi (show 0 < b - a + 1 by omega)
  rw [e]
  simp only [Option.bind_some]
  refine ⟨_, _, _, rfl, ?_, hi1⟩
  rw [w64 (by omega) (by omega)]
  omega

theorem new_loop (l : List Int) (hl : l.length ≤ 4096) (d : Nat) : ∀ (i h : Int), 0 ≤ i → (l.length : Int) - i = d → ∃ h', Ev (fun k => spec_l1New.l0 k l h i) (l, 0, h') := by
  induction d with
  | zero =>
    intro i h h0 hd
    refine ⟨h, Ev.succ' ?_⟩
    simp only [spec_l1New.l0, if_neg (show ¬ i < (l.length : Int) by omega)]
    exact Ev.now _
  | succ d ih =>
    intro i h h0 hd
    by_cases h4 : i < 4000
    · obtain ⟨h', e⟩ := ih (i + 1) (bits .and .i64 (wrap64 ((wrap64 ((wrap64 (h * 167)) + (wrap64 (rd l i)))) + 29)) 1073741823) (by omega) (by omega)
      refine ⟨h', Ev.succ' ?_⟩
      simp only [spec_l1New.l0, if_pos (show i < (l.length : Int) by omega), if_pos h4, if_pos h0]
      rw [w64 (x := i + 1) (by omega) (by omega)]
      exact e
    · refine ⟨h, Ev.succ' ?_⟩
      simp only [spec_l1New.l0, if_pos (show i < (l.length : Int) by omega), if_neg h4]
      exact Ev.now _
theorem dNew (l : List Int) (hl : l.length ≤ 4096) : ∃ h, Ev (fun k => spec_l1New.f k l) (l, 0, h) := by
  unfold spec_l1New.f
  exact new_loop l hl l.length 0 _ (by omega) (by omega)

theorem lawBig (l : List Int) : laws_big.f l = some (decide ((l.length : Int) > 4096)) := rfl

theorem dPlace {l : List Int} {i : Int} (h : Int) (hl : l.length ≤ 4096) (hi : 0 ≤ i) : ∃ x y i' h', spec_l2Draw.f l i h = some (x, y, i', h') ∧ (-64 ≤ x ∧ x ≤ 64) ∧ (-64 ≤ y ∧ y ≤ 64) ∧ 0 ≤ i' := by
  unfold spec_l2Draw.f
  obtain ⟨x, i1, h1, e1, hx, hi1⟩ := dSome h (a := -64) (b := 64) hl hi (by omega)
  rw [e1]
  simp only [Option.bind_some]
  obtain ⟨y, i2, h2, e2, hy, hi2⟩ := dSome h1 (a := -64) (b := 64) hl hi1 (by omega)
  rw [e2]
  simp only [Option.bind_some]
  exact ⟨_, _, _, _, rfl, hx, hy, hi2⟩

theorem dJet {l : List Int} {i : Int} (h : Int) (hl : l.length ≤ 4096) (hi : 0 ≤ i) : ∃ x y hd t lf i' h', spec_l3Draw.f l i h = some (x, y, hd, t, lf, i', h') ∧ ((-64 ≤ x ∧ x ≤ 64) ∧ (-64 ≤ y ∧ y ≤ 64) ∧ (0 ≤ hd ∧ hd ≤ 3) ∧ (0 ≤ t ∧ t ≤ 16) ∧ (1 ≤ lf ∧ lf ≤ 32)) ∧ 0 ≤ i' := by
  unfold spec_l3Draw.f
  obtain ⟨x, y, i1, h1, e1, hx, hy, hi1⟩ := dPlace h hl hi
  rw [e1]
  simp only [Option.bind_some]
  obtain ⟨hd, i2, h2, e2, hhd, hi2⟩ := dBelow h1 hl hi1 (show (0 : Int) < 4 by omega)
  rw [e2]
  simp only [Option.bind_some]
  obtain ⟨t, i3, h3, e3, ht, hi3⟩ := dBelow h2 hl hi2 (show (0 : Int) < 17 by omega)
  rw [e3]
  simp only [Option.bind_some]
  obtain ⟨lf, i4, h4, e4, hlf, hi4⟩ := dSome h3 (a := 1) (b := 32) hl hi3 (by omega)
  rw [e4]
  simp only [Option.bind_some]
  exact ⟨_, _, _, _, _, _, _, rfl, ⟨hx, hy, ⟨hhd.1, by omega⟩, ⟨ht.1, by omega⟩, hlf⟩, hi4⟩

theorem drawJet (l : List Int) (hl : l.length ≤ 4096) : ∃ x y h t lf, ((-64 ≤ x ∧ x ≤ 64) ∧ (-64 ≤ y ∧ y ≤ 64) ∧ (0 ≤ h ∧ h ≤ 3) ∧ (0 ≤ t ∧ t ≤ 16) ∧ (1 ≤ lf ∧ lf ≤ 32)) ∧ Ev (fun k => spec_DrawJet.f k l) (x, y, h, t, lf) := by
  obtain ⟨h0, e0⟩ := dNew l hl
  obtain ⟨x, y, h, t, lf, i1, h1, e1, hj, _⟩ := dJet (i := 0) h0 hl (by omega)
  refine ⟨x, y, h, t, lf, hj, ?_⟩
  unfold spec_DrawJet.f
  refine Ev.bind e0 ?_
  simp only [e1, Option.bind_some]
  exact Ev.now _

theorem htF {x y h t l : Int} (hj : JetOK x y h t l) (T : Int) (h0 : 0 ≤ T) (h1 : T ≤ l + 1) : htV x y h t l T = T * (l + 1 - T) := by unfold htV; rw [if_pos ⟨hj, h0, h1⟩]
theorem htO {x y h t l : Int} (T : Int) (h1 : ¬ (0 ≤ T ∧ T ≤ l + 1)) : htV x y h t l T = 0 := by unfold htV; rw [if_neg (by omega)]
theorem flF {x y h t l : Int} (hj : JetOK x y h t l) : flV x y h t l = l + 1 := by unfold flV; rw [if_pos hj]

def peakN (l : Int) : Int := ((l + 1) / 2) * (l + 1 - (l + 1) / 2)
theorem peakN_tab : ∀ a b : Fin 34, a < b → peakN (a.val : Int) < peakN (b.val : Int) := by decide
theorem peakN_lt {a b : Int} (ha : 0 ≤ a) (hab : a < b) (hb : b ≤ 33) : peakN a < peakN b := by
  have := peakN_tab ⟨a.toNat, by omega⟩ ⟨b.toNat, by omega⟩ (by simp; omega)
  simp only at this
  rwa [show ((a.toNat : Nat) : Int) = a by omega, show ((b.toNat : Nat) : Int) = b by omega] at this
theorem pkF {x y h t l : Int} (hj : JetOK x y h t l) : pkV x y h t l = ((l + 1) / 2, peakN l) := by unfold pkV; rw [if_pos hj]; rfl

theorem lift_of_peak (l : Int) (hl : 1 ≤ l ∧ l ≤ 32) (d : Nat) : ∀ l0 : Int, 1 ≤ l0 → l - l0 = d → Ev (fun k => impl_LiftFor.l0 k (peakN l) l0) (l, true) := by
  induction d with
  | zero =>
    intro l0 h1 hd
    obtain rfl : l0 = l := by omega
    refine iLift_step _ l0 hl _ ?_
    rw [pkF (show JetOK 0 0 0 0 l0 by unfold JetOK; omega)]
    simp only [if_pos (show peakN l0 ≥ peakN l0 by omega)]
    exact Ev.now _
  | succ d ih =>
    intro l0 h1 hd
    refine iLift_step _ l0 (by omega) _ ?_
    rw [pkF (show JetOK 0 0 0 0 l0 by unfold JetOK; omega)]
    have := peakN_lt (a := l0) (b := l) (by omega) (by omega) (by omega)
    simp only [if_neg (show ¬ peakN l0 ≥ peakN l by omega)]
    exact ih (l0 + 1) (by omega) (by omega)

theorem peak_id2' (l m T : Int) : m * (l + 1 - m) - T * (l + 1 - T) = (T - m) * (T + m - (l + 1)) := by grind

theorem FnPeak : laws_FnPeak.Pure := by
  intro l _ _ _
  refine Ev.rounds (r := true) ?_
  unfold laws_FnPeak.f
  simp only [lawBig, Option.bind_some]
  by_cases hb : (l.length : Int) > 4096
  · simp only [hb, decide_true, if_true]
    exact Ev.now _
  · simp only [hb, decide_false, Bool.false_eq_true, if_false]
    obtain ⟨x, y, h, t, L, hd, e⟩ := drawJet l (by omega)
    refine Ev.bind e ?_
    have hj : JetOK x y h t L := by unfold JetOK; omega
    simp only [iPeak, iHeight, Option.bind_some, pkF hj]
    rw [htF hj ((L + 1) / 2) (by omega) (by omega)]
    simp only [show (L + 1) / 2 * (L + 1 - (L + 1) / 2) = peakN L from rfl, if_true]
    have hfin : Ev (fun k => (impl_LiftFor.f k (peakN L)).bind fun bt => if bt.2 = true then (if bt.1 = L then (if wrap64 (L + 1) > 32 then some true else some (decide ((pkV x y h t (wrap64 (L + 1))).2 > peakN L))) else some false) else some false) true := by
      have h0 : 0 < peakN L := by
        have := peakN_lt (a := 0) (b := L) (by omega) (by omega) (by omega)
        have e0 : peakN 0 = 0 := by decide
        omega
      have hl : Ev (fun k => impl_LiftFor.f k (peakN L)) (L, true) := by
        unfold impl_LiftFor.f
        simp only [if_neg (show ¬ peakN L < 0 by omega)]
        exact lift_of_peak L (by omega) (L - 1).toNat 1 (by omega) (by omega)
      refine Ev.bind hl ?_
      simp only [if_true]
      rw [w64 (by omega) (by omega)]
      by_cases h32 : L + 1 > 32
      · simp only [if_pos h32]
        exact Ev.now _
      · simp only [if_neg h32]
        rw [pkF (show JetOK x y h t (L + 1) by unfold JetOK; omega)]
        have := peakN_lt (a := L) (b := L + 1) (by omega) (by omega) (by omega)
        simp only [this, decide_true, gt_iff_lt]
        exact Ev.now _
    have loop : ∀ (d : Nat) (T : Int), 0 ≤ T → L + 2 - T = d → Ev (fun k => laws_FnPeak.l0 k ((L + 1) / 2) (peakN L) T x y h t L) true := by
      intro d
      induction d with
      | zero =>
        intro T h1 hdd
        refine Ev.succ' ?_
        simp only [laws_FnPeak.l0, iFlight, Option.bind_some, flF hj, if_neg (show ¬ T ≤ L + 1 by omega), iPeak]
        exact hfin
      | succ d ih =>
        intro T h1 hdd
        refine Ev.succ' ?_
        have hid := peak_id2' L ((L + 1) / 2) T
        have hge : 0 ≤ (T - (L + 1) / 2) * (T + (L + 1) / 2 - (L + 1)) := by
          by_cases hc : (L + 1) / 2 < T
          · exact Int.mul_nonneg (by omega) (by omega)
          · exact Int.mul_nonneg_of_nonpos_of_nonpos (by omega) (by omega)
        have hle : T * (L + 1 - T) ≤ peakN L := by unfold peakN; omega
        simp only [laws_FnPeak.l0, iFlight, iHeight, Option.bind_some, flF hj, if_pos (show T ≤ L + 1 by omega), htF hj T h1 (show T ≤ L + 1 by omega), if_neg (show ¬ T * (L + 1 - T) > peakN L by omega)]
        rw [w64 (x := T + 1) (by omega) (by omega)]
        by_cases hc : T < (L + 1) / 2
        · have hgt : 0 < ((L + 1) / 2 - T) * (L + 1 - (T + (L + 1) / 2)) := Int.mul_pos (by omega) (by omega)
          have hid2 : (T - (L + 1) / 2) * (T + (L + 1) / 2 - (L + 1)) = ((L + 1) / 2 - T) * (L + 1 - (T + (L + 1) / 2)) := by grind
          have hne : ¬ T * (L + 1 - T) = peakN L := by unfold peakN; omega
          simp only [if_pos hc, if_neg hne]
          exact ih (T + 1) (by omega) (by omega)
        · simp only [if_neg hc]
          exact ih (T + 1) (by omega) (by omega)
    exact loop (L + 2).toNat 0 (by omega) (by omega)

end Go.Proofs.Ytkioodeeadhdaaa.Pure
