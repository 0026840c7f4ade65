/- The plain law behind FnSteps: for every input that the row lets in, the printed function of the law answers true. No condition beyond the bounds that the statement names. -/
import Derived.Test.YtkioodeeadhdaaaQFnSteps
namespace Go.Proofs.Ytkioodeeadhdaaa.Pure
open Go.RowKit Go.Proofs.Ytkioodeeadhdaaa.PFnSteps Go.Proofs.YtkioodeeadhdaaaW.PrintWords Go.Proofs.YtkioodeeadhdaaaW.PrintLast
open Go.Proofs.YtkioodeeadhdaaaW.PrintMore
set_option linter.unusedVariables false
set_option linter.unusedSimpArgs false

theorem w64 {x : Int} (h0 : -9223372036854775808 ≤ x) (h1 : x ≤ 9223372036854775807) : wrap64 x = x := by unfold wrap64; omega
theorem wfb {a : Int} (h : (Lit.int .i64 a).wf = true) : -9223372036854775808 ≤ a ∧ a ≤ 9223372036854775807 := by
  simp [Lit.wf, IntKind.min, IntKind.max, IntKind.signed, IntKind.bits] at h
  omega
theorem Ev.succ' {α : Type} {g : Nat → Option α} {r : α} (h : Ev (fun k => g (k + 1)) r) : Ev g r := Ev.step (fun _ => rfl) h
theorem dec_congr {p q : Prop} [Decidable p] [Decidable q] (h : p ↔ q) : decide p = decide q := by simp [h]

theorem sIsMeasure (x : Int) : spec_IsMeasure.f x = some (decide (-4096 ≤ x ∧ x ≤ 4096)) := by
  unfold spec_IsMeasure.f
  split <;> simp <;> omega

theorem iWithin (a b c : Int) : impl_isWithin.f a b c = some (decide (b ≤ a ∧ a ≤ c)) := by
  unfold impl_isWithin.f
  split <;> simp <;> omega

theorem iIsMeasure (x : Int) : impl_IsMeasure.f x = some (decide (-4096 ≤ x ∧ x ≤ 4096)) := by
  unfold impl_IsMeasure.f
  rw [iWithin]
  rfl

theorem sIsHeading (x : Int) : spec_IsHeading.f x = some (decide (0 ≤ x ∧ x ≤ 3)) := by
  unfold spec_IsHeading.f
  split <;> simp <;> omega

theorem iIsHeading (x : Int) : impl_IsHeading.f x = some (decide (0 ≤ x ∧ x ≤ 3)) := by
  unfold impl_IsHeading.f
  rw [iWithin]
  rfl

theorem sIsPlace (x y : Int) : spec_IsPlace.f x y = some (decide ((-4096 ≤ x ∧ x ≤ 4096) ∧ (-4096 ≤ y ∧ y ≤ 4096))) := by
  unfold spec_IsPlace.f
  simp only [sIsMeasure, Option.bind_some]
  split <;> rename_i h <;> simp at h ⊢ <;> omega

theorem iIsPlace (x y : Int) : impl_IsPlace.f x y = some (decide ((-4096 ≤ x ∧ x ≤ 4096) ∧ (-4096 ≤ y ∧ y ≤ 4096))) := by
  unfold impl_IsPlace.f
  simp only [iIsMeasure, Option.bind_some]
  split <;> rename_i h <;> simp at h ⊢ <;> omega

theorem tmod_pos {a b : Int} (h : 0 ≤ a) : Int.tmod a b = a % b := Int.tmod_eq_emod_of_nonneg h
theorem tmod_neg' (a b : Int) : Int.tmod (-a) b = -(Int.tmod a b) := Int.neg_tmod a b
theorem tdiv_pos {a b : Int} (h : 0 ≤ a) : Int.tdiv a b = a / b := Int.tdiv_eq_ediv_of_nonneg h
theorem tmod4 (n : Int) : (Int.tmod n 4 < 0 → Int.tmod n 4 + 4 = n % 4) ∧ (¬ Int.tmod n 4 < 0 → Int.tmod n 4 = n % 4) ∧ -3 ≤ Int.tmod n 4 ∧ Int.tmod n 4 ≤ 3 := by
  rcases Int.le_total 0 n with h | h
  · rw [tmod_pos h]; omega
  · obtain ⟨m, rfl⟩ : ∃ m, n = -m := ⟨-n, by omega⟩
    rw [tmod_neg', tmod_pos (by omega)]; omega

theorem sMod (n : Int) : spec_l2Mod.f n = some (n % 4) := by
  have h := tmod4 n
  unfold spec_l2Mod.f
  split
  · rw [w64 (by omega) (by omega)]; simp; omega
  · simp; omega

theorem iTurns (n : Int) : impl_turns.f n = some (n % 4) := by
  have h := tmod4 n
  unfold impl_turns.f
  rw [w64 (by omega) (by omega), tmod_pos (by omega)]
  simp
  by_cases h1 : Int.tmod n 4 < 0 <;> omega

theorem iTurnHeading (h n : Int) : impl_TurnHeading.f h n = some (if 0 ≤ h ∧ h ≤ 3 then (h + n) % 4 else 0) := by
  unfold impl_TurnHeading.f
  simp only [iIsHeading, iTurns, Option.bind_some]
  by_cases hh : 0 ≤ h ∧ h ≤ 3
  · rw [if_pos (by simpa using hh), if_pos hh, w64 (by omega) (by omega), tmod_pos (by omega)]; simp
  · rw [if_neg (by simpa using hh), if_neg hh]

def PL (x y : Int) : Prop := (-4096 ≤ x ∧ x ≤ 4096) ∧ (-4096 ≤ y ∧ y ≤ 4096)
instance (x y : Int) : Decidable (PL x y) := by unfold PL; infer_instance

theorem sPL (x y : Int) : spec_IsPlace.f x y = some (decide (PL x y)) := sIsPlace x y

theorem iPL (x y : Int) : impl_IsPlace.f x y = some (decide (PL x y)) := iIsPlace x y

def chk (x y : Int) : Int × Int × Bool := if PL x y then (x, y, true) else (0, 0, false)

theorem iChk (x y : Int) : impl_checked.f x y = some (chk x y) := by
  unfold impl_checked.f chk
  simp only [iPL, Option.bind_some]
  by_cases h : PL x y <;> simp [h]

def addV (x y u v : Int) : Int × Int × Bool := if PL x y ∧ PL u v then chk (x + u) (y + v) else (0, 0, false)

theorem sl2Add (x y u v : Int) : spec_l2Add.f x y u v = some (wrap64 (x + u), wrap64 (y + v)) := rfl

theorem sAdd (x y u v : Int) : spec_AddPlaces.f x y u v = some (addV x y u v) := by
  unfold spec_AddPlaces.f addV chk
  simp only [sPL, sl2Add, Option.bind_some]
  by_cases h : PL x y
  · by_cases h2 : PL u v
    · rw [w64 (x := x + u) (by unfold PL at h h2; omega) (by unfold PL at h h2; omega), w64 (x := y + v) (by unfold PL at h h2; omega) (by unfold PL at h h2; omega)]
      by_cases h3 : PL (x + u) (y + v) <;> simp [h, h2, h3]
    · simp [h, h2]
  · simp [h]

def tr (m x y : Int) : Int × Int := if m = 0 then (x, y) else if m = 1 then (-y, x) else if m = 2 then (-x, -y) else (y, -x)
theorem tr0 (x y : Int) : tr 0 x y = (x, y) := by simp [tr]
theorem tr1 (x y : Int) : tr 1 x y = (-y, x) := by simp [tr]
theorem tr2 (x y : Int) : tr 2 x y = (-x, -y) := by simp [tr]
theorem tr3 (x y : Int) : tr 3 x y = (y, -x) := by simp [tr]
theorem tr_bd {m x y b : Int} (hx : -b ≤ x ∧ x ≤ b) (hy : -b ≤ y ∧ y ≤ b) : (-b ≤ (tr m x y).1 ∧ (tr m x y).1 ≤ b) ∧ (-b ≤ (tr m x y).2 ∧ (tr m x y).2 ≤ b) := by
  unfold tr
  split
  · simp; omega
  · split
    · simp; omega
    · split <;> simp <;> omega

theorem sTurnL {x y : Int} (m : Int) (hm : 0 ≤ m ∧ m ≤ 3) (hx : -1000000000 ≤ x ∧ x ≤ 1000000000) (hy : -1000000000 ≤ y ∧ y ≤ 1000000000) : Ev (fun k => spec_l2Turn.l0 k m x y) (tr m x y) := by
  have e : ∀ x y : Int, Ev (fun k => spec_l2Turn.l0 k 0 x y) (x, y) := fun x y => Ev.step (f := fun _ => some (x, y)) (fun k => by simp only [spec_l2Turn.l0]; rw [if_neg (by omega)]) (Ev.now _)
  have s : ∀ (m m' x y : Int) (r : Int × Int), m' = m - 1 → 0 < m → m ≤ 3 → (-1000000000 ≤ y ∧ y ≤ 1000000000) → Ev (fun k => spec_l2Turn.l0 k m' (-y) x) r → Ev (fun k => spec_l2Turn.l0 k m x y) r := fun m m' x y r hm' h0 h3 hy h => by
    refine Ev.step (fun k => ?_) h
    simp only [spec_l2Turn.l0]
    rw [if_pos (by omega), w64 (x := m - 1) (by omega) (by omega), w64 (x := -y) (by omega) (by omega), hm']
  have : m = 0 ∨ m = 1 ∨ m = 2 ∨ m = 3 := by omega
  rcases this with rfl | rfl | rfl | rfl
  · rw [tr0]; exact e x y
  · rw [tr1]; exact s 1 0 _ _ _ (by omega) (by omega) (by omega) hy (e _ _)
  · rw [tr2]; exact s 2 1 _ _ _ (by omega) (by omega) (by omega) hy (s 1 0 _ _ _ (by omega) (by omega) (by omega) hx (e _ _))
  · rw [tr3]
    have := s 3 2 _ _ _ (by omega) (by omega) (by omega) hy (s 2 1 _ _ _ (by omega) (by omega) (by omega) hx (s 1 0 _ _ _ (by omega) (by omega) (by omega) (by omega) (e _ _)))
    rwa [Int.neg_neg] at this

theorem sTurn {x y : Int} (n : Int) (hx : -1000000000 ≤ x ∧ x ≤ 1000000000) (hy : -1000000000 ≤ y ∧ y ≤ 1000000000) : Ev (fun k => spec_l2Turn.f k x y n) (tr (n % 4) x y) := by
  unfold spec_l2Turn.f
  simp only [sMod, Option.bind_some]
  exact sTurnL _ (by omega) hx hy

theorem iTurnL {x y : Int} (m : Int) (hm : 0 ≤ m ∧ m ≤ 3) (hx : -1000000000 ≤ x ∧ x ≤ 1000000000) (hy : -1000000000 ≤ y ∧ y ≤ 1000000000) : Ev (fun k => impl_turned.l0 k m 0 x y) (tr m x y) := by
  have e : ∀ m x y : Int, Ev (fun k => impl_turned.l0 k m m x y) (x, y) := fun m x y => Ev.step (f := fun _ => some (x, y)) (fun k => by simp only [impl_turned.l0]; rw [if_neg (by omega)]) (Ev.now _)
  have s : ∀ (m i i' x y : Int) (r : Int × Int), i' = i + 1 → 0 ≤ i → i < m → m ≤ 3 → (-1000000000 ≤ y ∧ y ≤ 1000000000) → Ev (fun k => impl_turned.l0 k m i' (-y) x) r → Ev (fun k => impl_turned.l0 k m i x y) r := fun m i i' x y r hi' h0 h1 h3 hy h => by
    refine Ev.step (fun k => ?_) h
    simp only [impl_turned.l0]
    rw [if_pos (by omega), w64 (x := i + 1) (by omega) (by omega), w64 (x := -y) (by omega) (by omega), hi']
  have : m = 0 ∨ m = 1 ∨ m = 2 ∨ m = 3 := by omega
  rcases this with rfl | rfl | rfl | rfl
  · rw [tr0]; exact e 0 x y
  · rw [tr1]; exact s 1 0 1 _ _ _ (by omega) (by omega) (by omega) (by omega) hy (e 1 _ _)
  · rw [tr2]; exact s 2 0 1 _ _ _ (by omega) (by omega) (by omega) (by omega) hy (s 2 1 2 _ _ _ (by omega) (by omega) (by omega) (by omega) hx (e 2 _ _))
  · rw [tr3]
    have := s 3 0 1 _ _ _ (by omega) (by omega) (by omega) (by omega) hy (s 3 1 2 _ _ _ (by omega) (by omega) (by omega) (by omega) hx (s 3 2 3 _ _ _ (by omega) (by omega) (by omega) (by omega) (by omega) (e 3 _ _)))
    rwa [Int.neg_neg] at this

theorem iTurn {x y : Int} (n : Int) (hx : -1000000000 ≤ x ∧ x ≤ 1000000000) (hy : -1000000000 ≤ y ∧ y ≤ 1000000000) : Ev (fun k => impl_turned.f k x y n) (tr (n % 4) x y) := by
  unfold impl_turned.f
  simp only [iTurns, Option.bind_some]
  exact iTurnL _ (by omega) hx hy

def tpV (x y n : Int) : Int × Int := if PL x y then tr (n % 4) x y else (0, 0)

theorem iTurnPlace (x y n : Int) : Ev (fun k => impl_TurnPlace.f k x y n) (tpV x y n) := by
  unfold impl_TurnPlace.f tpV
  simp only [iPL, Option.bind_some]
  by_cases h : PL x y
  · simp only [h, decide_true, if_true]
    unfold PL at h
    exact Ev.bind (iTurn n (by omega) (by omega)) (Ev.now _)
  · simp only [h, decide_false, if_false]
    exact Ev.now _

def stV (x y h s : Int) : Int × Int × Bool := if PL x y ∧ (0 ≤ h ∧ h ≤ 3) ∧ (-4096 ≤ s ∧ s ≤ 4096) then chk (x + (tr h s 0).1) (y + (tr h s 0).2) else (0, 0, false)

theorem sStep (x y h s : Int) : Ev (fun k => spec_StepFrom.f k x y h s) (stV x y h s) := by
  have bad : ∀ b : Bool, b = true → Ev (fun k => spec_StepFrom.j0 k h s b x y) (0, 0, false) := fun b hb => Ev.step (f := fun _ => some (0, 0, false)) (fun k => by simp only [spec_StepFrom.j0]; rw [if_pos hb]) (Ev.now _)
  unfold spec_StepFrom.f stV
  simp only [sPL, sIsHeading, sIsMeasure, Option.bind_some]
  by_cases h1 : PL x y
  · by_cases h2 : 0 ≤ h ∧ h ≤ 3
    · by_cases h3 : -4096 ≤ s ∧ s ≤ 4096
      · simp only [h1, h2, h3, decide_true, if_true, and_self, Bool.not_true]
        have ht := tr_bd (m := h) (x := s) (y := 0) (b := 4096) (by omega) (by omega)
        refine Ev.step (f := fun k => (spec_l2Turn.f k s 0 h).bind fun bt => (spec_AddPlaces.f x y bt.1 bt.2).bind fun b2 => some (b2.1, b2.2.1, b2.2.2)) (fun k => by simp only [spec_StepFrom.j0, Bool.false_eq_true, if_false]) ?_
        have hs := sTurn (x := s) (y := 0) h (by omega) (by omega)
        rw [show h % 4 = h by omega] at hs
        refine Ev.bind hs ?_
        simp only [sAdd, Option.bind_some, addV]
        rw [if_pos ⟨h1, by unfold PL; omega⟩]
        exact Ev.now _
      · simp only [h1, h2, h3, decide_true, decide_false, if_true, and_false, if_false, Bool.not_false, and_self]
        exact bad _ rfl
    · simp only [h1, h2, decide_true, decide_false, if_true, and_false, false_and, if_false, Bool.false_eq_true]
      exact bad _ rfl
  · simp only [h1, decide_false, false_and, if_false, Bool.false_eq_true]
    exact bad _ rfl

theorem iStep (x y h s : Int) : Ev (fun k => impl_StepFrom.f k x y h s) (stV x y h s) := by
  have bad : ∀ b : Bool, b = true → Ev (fun k => impl_StepFrom.j0 k h s b x y) (0, 0, false) := fun b hb => Ev.step (f := fun _ => some (0, 0, false)) (fun k => by simp only [impl_StepFrom.j0]; rw [if_pos hb]) (Ev.now _)
  unfold impl_StepFrom.f stV
  simp only [iPL, iIsHeading, iIsMeasure, Option.bind_some]
  by_cases h1 : PL x y
  · by_cases h2 : 0 ≤ h ∧ h ≤ 3
    · by_cases h3 : -4096 ≤ s ∧ s ≤ 4096
      · simp only [h1, h2, h3, decide_true, if_true, and_self, Bool.not_true]
        have ht := tr_bd (m := h) (x := s) (y := 0) (b := 4096) (by omega) (by omega)
        refine Ev.step (f := fun k => (impl_turned.f k s 0 h).bind fun bt => (impl_checked.f (wrap64 (x + bt.1)) (wrap64 (y + bt.2))).bind fun b2 => some (b2.1, b2.2.1, b2.2.2)) (fun k => by simp only [impl_StepFrom.j0, Bool.false_eq_true, if_false]) ?_
        have hs := iTurn (x := s) (y := 0) h (by omega) (by omega)
        rw [show h % 4 = h by omega] at hs
        refine Ev.bind hs ?_
        unfold PL at h1
        simp only [iChk, Option.bind_some]
        rw [w64 (x := x + _) (by omega) (by omega), w64 (x := y + _) (by omega) (by omega)]
        exact Ev.now _
      · simp only [h1, h2, h3, decide_true, decide_false, if_true, and_false, if_false, Bool.not_false, and_self]
        exact bad _ rfl
    · simp only [h1, h2, decide_true, decide_false, if_true, and_false, false_and, if_false, Bool.false_eq_true]
      exact bad _ rfl
  · simp only [h1, decide_false, false_and, if_false, Bool.false_eq_true]
    exact bad _ rfl

theorem and255 (x : Int) : 0 ≤ bits .and .i64 x 255 ∧ bits .and .i64 x 255 ≤ 255 := by
  simp only [bits]
  have h : ((BitVec.ofInt IntKind.i64.bits x &&& BitVec.ofInt IntKind.i64.bits 255).toNat : Int) ≤ 255 := by
    rw [BitVec.toNat_and]
    have : (BitVec.ofInt IntKind.i64.bits x).toNat &&& (BitVec.ofInt IntKind.i64.bits 255).toNat ≤ 255 := Nat.le_trans Nat.and_le_right (by decide)
    omega
  have h0 : (0 : Int) ≤ ((BitVec.ofInt IntKind.i64.bits x &&& BitVec.ofInt IntKind.i64.bits 255).toNat : Int) := Int.natCast_nonneg _
  generalize ((BitVec.ofInt IntKind.i64.bits x &&& BitVec.ofInt IntKind.i64.bits 255).toNat : Int) = z at h h0
  have e : IntKind.i64.wrap z = z := by
    simp [IntKind.wrap, IntKind.bits, IntKind.signed]
    split <;> omega
  rw [e]
  exact ⟨h0, h⟩
theorem dByte {l : List Int} {i : Int} (h : Int) (hl : l.length ≤ 4096) (hi : 0 ≤ i) : ∃ x i' h', spec_l1Byte.f l i h = some (x, i', h') ∧ (0 ≤ x ∧ x ≤ 255) ∧ 0 ≤ i' := by
  unfold spec_l1Byte.f
  by_cases hlt : i < (l.length : Int)
  · rw [if_pos hlt, if_pos hi]
    exact ⟨_, _, _, rfl, and255 _, by rw [w64 (by omega) (by omega)]; omega⟩
  · rw [if_neg hlt]
    exact ⟨_, _, _, rfl, and255 _, hi⟩

theorem tmod_bd {a n : Int} (ha : 0 ≤ a) (hn : 0 < n) : 0 ≤ Int.tmod a n ∧ Int.tmod a n < n := by
  rw [tmod_pos ha]
  exact ⟨Int.emod_nonneg _ (by omega), Int.emod_lt_of_pos _ hn⟩
theorem dBelow {l : List Int} {i : Int} (h : Int) {n : Int} (hl : l.length ≤ 4096) (hi : 0 ≤ i) (hn : 0 < n) : ∃ x i' h', spec_l1Below.f l i h n = some (x, i', h') ∧ (0 ≤ x ∧ x < n) ∧ 0 ≤ i' := by
  unfold spec_l1Below.f
  rw [if_neg (by omega)]
  split
  · obtain ⟨x, i1, h1, e, hx, hi1⟩ := dByte h hl hi
    rw [e]
    simp only [Option.bind_some]
    rw [if_neg (by omega)]
    exact ⟨_, _, _, rfl, tmod_bd hx.1 hn, hi1⟩
  · obtain ⟨x, i1, h1, e1, hx, hi1⟩ := dByte h hl hi
    rw [e1]
    simp only [Option.bind_some]
    obtain ⟨y, i2, h2, e2, hy, hi2⟩ := dByte h1 hl hi1
    rw [e2]
    simp only [Option.bind_some]
    obtain ⟨z, i3, h3, e3, hz, hi3⟩ := dByte h2 hl hi2
    rw [e3]
    simp only [Option.bind_some]
    rw [if_neg (by omega)]
    refine ⟨_, _, _, rfl, tmod_bd ?_ hn, hi3⟩
    rw [w64 (x := x * 65536) (by omega) (by omega), w64 (x := y * 256) (by omega) (by omega), w64 (x := x * 65536 + y * 256) (by omega) (by omega), w64 (x := x * 65536 + y * 256 + z) (by omega) (by omega)]
    omega

theorem dSome {l : List Int} {i : Int} (h : Int) {a b : Int} (hl : l.length ≤ 4096) (hi : 0 ≤ i) (hab : -1000000 ≤ a ∧ a ≤ b ∧ b ≤ 1000000) : ∃ x i' h', spec_l1Some.f l i h a b = some (x, i', h') ∧ (a ≤ x ∧ x ≤ b) ∧ 0 ≤ i' := by
  unfold spec_l1Some.f
  rw [w64 (x := b - a) (by omega) (by omega), w64 (x := b - a + 1) (by omega) (by omega)]
  obtain ⟨x, i1, h1, e, hx, hi1⟩ := dBelow h hl hi (show 0 < b - a + 1 by omega)
  rw [e]
  simp only [Option.bind_some]
  refine ⟨_, _, _, rfl, ?_, hi1⟩
  rw [w64 (by omega) (by omega)]
  omega

theorem dOnce {l : List Int} {i : Int} (h : Int) {n : Int} (hl : l.length ≤ 4096) (hi : 0 ≤ i) (hn : 0 < n) : ∃ x i' h', spec_l1Once.f l i h n = some (x, i', h') ∧ 0 ≤ i' := by
  unfold spec_l1Once.f
  obtain ⟨x, i1, h1, e, hx, hi1⟩ := dBelow h hl hi hn
  rw [e]
  simp only [Option.bind_some]
  exact ⟨_, _, _, rfl, hi1⟩

theorem dInt {l : List Int} {i : Int} (h : Int) {m : List Int} (hl : l.length ≤ 4096) (hi : 0 ≤ i) (hm : 0 < m.length) : ∃ x i' h', spec_l1Int.f l i h m = some (x, i', h') ∧ x ∈ m ∧ 0 ≤ i' := by
  unfold spec_l1Int.f
  obtain ⟨x, i1, h1, e, hx, hi1⟩ := dBelow h hl hi (show 0 < (m.length : Int) by omega)
  rw [e]
  simp only [Option.bind_some]
  rw [if_pos hx.1, if_pos hx.2]
  refine ⟨_, _, _, rfl, ?_, hi1⟩
  unfold rd
  rw [List.getD_eq_getElem?_getD, List.getElem?_eq_getElem (by omega)]
  exact List.getElem_mem _

def I64 (x : Int) : Prop := -9223372036854775808 ≤ x ∧ x ≤ 9223372036854775807

theorem dOdd {l : List Int} {i : Int} (h : Int) (hl : l.length ≤ 4096) (hi : 0 ≤ i) : ∃ x i' h', spec_l1Odd.f l i h = some (x, i', h') ∧ I64 x ∧ 0 ≤ i' := by
  unfold spec_l1Odd.f
  obtain ⟨x, i1, h1, e, hx, hi1⟩ := dInt h (m := [(-1), 0, 1, 2, 3, 7, 8, 9, 15, 16, 17, 63, 64, 65, 999, 1000, 4096, 4097, 9223372036854775807, (-9223372036854775808)]) hl hi (by simp)
  rw [e]
  simp only [Option.bind_some]
  refine ⟨_, _, _, rfl, ?_, hi1⟩
  unfold I64
  simp only [List.mem_cons, List.not_mem_nil, or_false] at hx
  omega

theorem dBent {l : List Int} {i : Int} (h : Int) (hl : l.length ≤ 4096) (hi : 0 ≤ i) : ∃ x i' h', spec_l1Bent.f l i h = some (x, i', h') ∧ I64 x ∧ 0 ≤ i' := by
  unfold spec_l1Bent.f
  obtain ⟨b, i1, h1, e, hi1⟩ := dOnce h hl hi (show (0 : Int) < 8 by omega)
  rw [e]
  simp only [Option.bind_some]
  split
  · obtain ⟨x, i2, h2, e2, hx, hi2⟩ := dOdd h1 hl hi1
    rw [e2]
    exact ⟨_, _, _, rfl, hx, hi2⟩
  · obtain ⟨x, i2, h2, e2, hx, hi2⟩ := dSome h1 (a := -100) (b := 100) hl hi1 (by omega)
    rw [e2]
    refine ⟨_, _, _, rfl, ?_, hi2⟩
    unfold I64; omega

theorem new_loop (l : List Int) (hl : l.length ≤ 4096) (d : Nat) : ∀ (i h : Int), 0 ≤ i → (l.length : Int) - i = d → ∃ h', Ev (fun k => spec_l1New.l0 k l h i) (l, 0, h') := by
  induction d with
  | zero =>
    intro i h h0 hd
    refine ⟨h, Ev.succ' ?_⟩
    simp only [spec_l1New.l0, if_neg (show ¬ i < (l.length : Int) by omega)]
    exact Ev.now _
  | succ d ih =>
    intro i h h0 hd
    by_cases h4 : i < 4000
    · obtain ⟨h', e⟩ := ih (i + 1) (bits .and .i64 (wrap64 ((wrap64 ((wrap64 (h * 167)) + (wrap64 (rd l i)))) + 29)) 1073741823) (by omega) (by omega)
      refine ⟨h', Ev.succ' ?_⟩
      simp only [spec_l1New.l0, if_pos (show i < (l.length : Int) by omega), if_pos h4, if_pos h0]
      rw [w64 (x := i + 1) (by omega) (by omega)]
      exact e
    · refine ⟨h, Ev.succ' ?_⟩
      simp only [spec_l1New.l0, if_pos (show i < (l.length : Int) by omega), if_neg h4]
      exact Ev.now _
theorem dNew (l : List Int) (hl : l.length ≤ 4096) : ∃ h, Ev (fun k => spec_l1New.f k l) (l, 0, h) := by
  unfold spec_l1New.f
  exact new_loop l hl l.length 0 _ (by omega) (by omega)

theorem lawBig (l : List Int) : laws_big.f l = some (decide ((l.length : Int) > 4096)) := rfl

theorem dPlace {l : List Int} {i : Int} (h : Int) (hl : l.length ≤ 4096) (hi : 0 ≤ i) : ∃ x y i' h', spec_l2Draw.f l i h = some (x, y, i', h') ∧ (-64 ≤ x ∧ x ≤ 64) ∧ (-64 ≤ y ∧ y ≤ 64) ∧ 0 ≤ i' := by
  unfold spec_l2Draw.f
  obtain ⟨x, i1, h1, e1, hx, hi1⟩ := dSome h (a := -64) (b := 64) hl hi (by omega)
  rw [e1]
  simp only [Option.bind_some]
  obtain ⟨y, i2, h2, e2, hy, hi2⟩ := dSome h1 (a := -64) (b := 64) hl hi1 (by omega)
  rw [e2]
  simp only [Option.bind_some]
  exact ⟨_, _, _, _, rfl, hx, hy, hi2⟩

theorem dAny {l : List Int} {i : Int} (h : Int) (hl : l.length ≤ 4096) (hi : 0 ≤ i) : ∃ x y i' h', Ev (fun k => spec_l2Any.f k l i h) (x, y, i', h') ∧ I64 x ∧ (-5000 ≤ y ∧ y ≤ 5000) ∧ 0 ≤ i' := by
  unfold spec_l2Any.f
  obtain ⟨x, y, i1, h1, e1, hx, hy, hi1⟩ := dPlace h hl hi
  obtain ⟨o, i2, h2, e2, hi2⟩ := dOnce h1 (n := 9) hl hi1 (by omega)
  have hj : ∀ (x' i3 h3 : Int), I64 x' → 0 ≤ i3 → ∃ x y1 i' h', Ev (fun k => spec_l2Any.j0 k l i3 h3 x' y) (x, y1, i', h') ∧ I64 x ∧ (-5000 ≤ y1 ∧ y1 ≤ 5000) ∧ 0 ≤ i' := fun x' i3 h3 hx' hi3 => by
    obtain ⟨o, i4, h4, e4, hi4⟩ := dOnce h3 (n := 9) hl hi3 (by omega)
    cases o with
    | true =>
      obtain ⟨z, i5, h5, e5, hz, hi5⟩ := dInt h4 (m := [4096, (-4096), 4097, (-4097), 4090]) hl hi4 (by simp)
      refine ⟨x', z, i5, h5, Ev.succ' ?_, hx', ?_, hi5⟩
      · simp only [spec_l2Any.j0, e4, e5, Option.bind_some, if_true]
        exact Ev.now _
      · simp only [List.mem_cons, List.not_mem_nil, or_false] at hz
        omega
    | false =>
      refine ⟨x', y, i4, h4, Ev.succ' ?_, hx', by omega, hi4⟩
      simp only [spec_l2Any.j0, e4, Option.bind_some, Bool.false_eq_true, if_false]
      exact Ev.now _
  cases o with
  | true =>
    obtain ⟨x', i3, h3, e3, hx', hi3⟩ := dOdd h2 hl hi2
    obtain ⟨a, b, i', h', e, r⟩ := hj x' i3 h3 hx' hi3
    refine ⟨a, b, i', h', ?_, r⟩
    simp only [e1, e2, e3, Option.bind_some, if_true]
    exact e
  | false =>
    obtain ⟨a, b, i', h', e, r⟩ := hj x i2 h2 (by unfold I64; omega) hi2
    refine ⟨a, b, i', h', ?_, r⟩
    simp only [e1, e2, Option.bind_some, Bool.false_eq_true, if_false]
    exact e

theorem dHeading {l : List Int} {i : Int} (h : Int) (hl : l.length ≤ 4096) (hi : 0 ≤ i) : ∃ n i' h', spec_l2Heading.f l i h = some (n, i', h') ∧ I64 n ∧ 0 ≤ i' := by
  unfold spec_l2Heading.f
  obtain ⟨o, i1, h1, e1, hi1⟩ := dOnce h (n := 12) hl hi (by omega)
  cases o with
  | true =>
    obtain ⟨n, i2, h2, e2, hn, hi2⟩ := dOdd h1 hl hi1
    simp only [e1, e2, Option.bind_some, if_true]
    exact ⟨_, _, _, rfl, hn, hi2⟩
  | false =>
    obtain ⟨n, i2, h2, e2, hn, hi2⟩ := dBelow h1 (n := 4) hl hi1 (by omega)
    simp only [e1, e2, Option.bind_some, Bool.false_eq_true, if_false]
    exact ⟨_, _, _, rfl, by unfold I64; omega, hi2⟩

theorem PL_tr {m x y : Int} (h : PL x y) : PL (tr m x y).1 (tr m x y).2 := by
  unfold PL at h ⊢
  have := tr_bd (m := m) (x := x) (y := y) (b := 4096) (by omega) (by omega)
  omega

theorem FnSteps : ∀ (l0 : List Int), l0.length ≤ maxLen → l0.length * 1 ≤ 140737488351232 → (∀ x ∈ l0, (Lit.int .u8 x).wf = true) → ∃ k, laws_FnSteps.f k l0 = some true := by
  intro l _ _ _
  refine Ev.rounds (r := true) ?_
  unfold laws_FnSteps.f
  simp only [lawBig, Option.bind_some]
  by_cases hb : (l.length : Int) > 4096
  · simp only [hb, decide_true, if_true]
    exact Ev.now _
  · simp only [hb, decide_false, Bool.false_eq_true, if_false]
    have hl : l.length ≤ 4096 := by omega
    obtain ⟨h0, e0⟩ := dNew l hl
    obtain ⟨x, y, i1, h1, e1, hx, hy, hi1⟩ := dAny (i := 0) h0 hl (by omega)
    obtain ⟨h, i2, h2, e2, hh, hi2⟩ := dHeading h1 hl hi1
    obtain ⟨s, i3, h3, e3, hs, hi3⟩ := dBent h2 hl hi2
    have ed : Ev (fun k => spec_DrawStepFrom.f k l) (x, y, h, s) := by
      unfold spec_DrawStepFrom.f
      refine Ev.bind e0 (Ev.bind e1 ?_)
      simp only [e2, e3, Option.bind_some]
      exact Ev.now _
    refine Ev.bind ed (Ev.bind (iStep x y h s) (Ev.bind (sStep x y h s) ?_))
    simp only [bne_self_eq_false, Bool.false_eq_true, if_false]
    by_cases hok : (PL x y ∧ (0 ≤ h ∧ h ≤ 3) ∧ (-4096 ≤ s ∧ s ≤ 4096)) ∧ PL (x + (tr h s 0).1) (y + (tr h s 0).2)
    · obtain ⟨⟨hp, hhd, hsm⟩, hq⟩ := hok
      have ev : stV x y h s = (x + (tr h s 0).1, y + (tr h s 0).2, true) := by
        unfold stV chk
        rw [if_pos ⟨hp, hhd, hsm⟩, if_pos hq]
      rw [ev]
      simp only [if_true, iTurnHeading, Option.bind_some, if_pos hhd]
      rw [w64 (x := -s) (by omega) (by omega)]
      have hneg : (tr h (-s) 0).1 = -(tr h s 0).1 ∧ (tr h (-s) 0).2 = -(tr h s 0).2 := by
        unfold tr
        split
        · simp
        · split
          · simp
          · split <;> simp
      have hopp : (tr ((h + 2) % 4) s 0).1 = -(tr h s 0).1 ∧ (tr ((h + 2) % 4) s 0).2 = -(tr h s 0).2 := by
        have : h = 0 ∨ h = 1 ∨ h = 2 ∨ h = 3 := by omega
        rcases this with rfl | rfl | rfl | rfl <;> simp [tr]
      have hquart : tr ((h + 1) % 4) s 0 = (-(tr h s 0).2, (tr h s 0).1) := by
        have : h = 0 ∨ h = 1 ∨ h = 2 ∨ h = 3 := by omega
        rcases this with rfl | rfl | rfl | rfl <;> simp [tr]
      have b1 : stV (x + (tr h s 0).1) (y + (tr h s 0).2) h (-s) = (x, y, true) := by
        unfold stV
        rw [if_pos ⟨hq, hhd, by omega⟩, hneg.1, hneg.2, show x + (tr h s 0).1 + -(tr h s 0).1 = x by omega, show y + (tr h s 0).2 + -(tr h s 0).2 = y by omega]
        unfold chk
        rw [if_pos hp]
      have b2 : stV (x + (tr h s 0).1) (y + (tr h s 0).2) ((h + 2) % 4) s = (x, y, true) := by
        unfold stV
        rw [if_pos ⟨hq, by omega, hsm⟩, hopp.1, hopp.2, show x + (tr h s 0).1 + -(tr h s 0).1 = x by omega, show y + (tr h s 0).2 + -(tr h s 0).2 = y by omega]
        unfold chk
        rw [if_pos hp]
      have tp : tpV x y 1 = (-y, x) := by unfold tpV; rw [if_pos hp]; simp [tr]
      have tq : tpV (x + (tr h s 0).1) (y + (tr h s 0).2) 1 = (-(y + (tr h s 0).2), x + (tr h s 0).1) := by unfold tpV; rw [if_pos hq]; simp [tr]
      have b3 : stV (-y) x ((h + 1) % 4) s = (-(y + (tr h s 0).2), x + (tr h s 0).1, true) := by
        unfold stV
        rw [if_pos ⟨by unfold PL at hp ⊢; omega, by omega, hsm⟩, hquart]
        simp only
        unfold chk
        rw [show -y + -(tr h s 0).2 = -(y + (tr h s 0).2) by omega, if_pos (by unfold PL at hq ⊢; omega)]
      refine Ev.bind (iStep _ _ h (-s)) (Ev.bind (iStep _ _ ((h + 2) % 4) s) (Ev.bind (iTurnPlace x y 1) ?_))
      rw [b1, b2, tp]
      refine Ev.bind (iStep _ _ ((h + 1) % 4) s) ?_
      rw [b3]
      simp only [if_true, beq_self_eq_true, Bool.and_self]
      refine Ev.bind (iTurnPlace _ _ 1) ?_
      rw [tq]
      simp only [beq_self_eq_true, Bool.and_self]
      exact Ev.now _
    · have ev : stV x y h s = (0, 0, false) := by
        unfold stV chk
        by_cases h1 : PL x y ∧ (0 ≤ h ∧ h ≤ 3) ∧ (-4096 ≤ s ∧ s ≤ 4096)
        · rw [if_pos h1, if_neg (fun h2 => hok ⟨h1, h2⟩)]
        · rw [if_neg h1]
      rw [ev]
      simp only [Bool.false_eq_true, if_false]
      exact Ev.now _

end Go.Proofs.Ytkioodeeadhdaaa.Pure
