/- The plain law behind FnRamp: for every input that the row lets in, the printed function of the law answers true. No condition beyond the bounds that the statement names. -/
import Derived.Test.YtkioodeeadhdaaaPFnRampx2
namespace Go.Proofs.Ytkioodeeadhdaaa.Pure
open Go.RowKit Go.Proofs.Ytkioodeeadhdaaa.PFnRamp Go.Proofs.YtkioodeeadhdaaaW.PrintWords Go.Proofs.YtkioodeeadhdaaaW.PrintLast
open Go.Proofs.YtkioodeeadhdaaaW.PrintMore
set_option linter.unusedVariables false
set_option linter.unusedSimpArgs false

theorem w64 {x : Int} (h0 : -9223372036854775808 ≤ x) (h1 : x ≤ 9223372036854775807) : wrap64 x = x := by unfold wrap64; omega
theorem wfb {a : Int} (h : (Lit.int .i64 a).wf = true) : -9223372036854775808 ≤ a ∧ a ≤ 9223372036854775807 := by
  simp [Lit.wf, IntKind.min, IntKind.max, IntKind.signed, IntKind.bits] at h
  omega
theorem Ev.succ' {α : Type} {g : Nat → Option α} {r : α} (h : Ev (fun k => g (k + 1)) r) : Ev g r := Ev.step (fun _ => rfl) h
theorem dec_congr {p q : Prop} [Decidable p] [Decidable q] (h : p ↔ q) : decide p = decide q := by simp [h]

theorem sIsMeasure (x : Int) : spec_IsMeasure.f x = some (decide (-4096 ≤ x ∧ x ≤ 4096)) := by
  unfold spec_IsMeasure.f
  split <;> simp <;> omega

theorem iWithin (a b c : Int) : impl_isWithin.f a b c = some (decide (b ≤ a ∧ a ≤ c)) := by
  unfold impl_isWithin.f
  split <;> simp <;> omega

theorem iIsMeasure (x : Int) : impl_IsMeasure.f x = some (decide (-4096 ≤ x ∧ x ≤ 4096)) := by
  unfold impl_IsMeasure.f
  rw [iWithin]
  rfl

theorem tmod_pos {a b : Int} (h : 0 ≤ a) : Int.tmod a b = a % b := Int.tmod_eq_emod_of_nonneg h
theorem tmod_neg' (a b : Int) : Int.tmod (-a) b = -(Int.tmod a b) := Int.neg_tmod a b
theorem tdiv_pos {a b : Int} (h : 0 ≤ a) : Int.tdiv a b = a / b := Int.tdiv_eq_ediv_of_nonneg h
theorem tmod4 (n : Int) : (Int.tmod n 4 < 0 → Int.tmod n 4 + 4 = n % 4) ∧ (¬ Int.tmod n 4 < 0 → Int.tmod n 4 = n % 4) ∧ -3 ≤ Int.tmod n 4 ∧ Int.tmod n 4 ≤ 3 := by
  rcases Int.le_total 0 n with h | h
  · rw [tmod_pos h]; omega
  · obtain ⟨m, rfl⟩ : ∃ m, n = -m := ⟨-n, by omega⟩
    rw [tmod_neg', tmod_pos (by omega)]; omega

theorem and255 (x : Int) : 0 ≤ bits .and .i64 x 255 ∧ bits .and .i64 x 255 ≤ 255 := by
  simp only [bits]
  have h : ((BitVec.ofInt IntKind.i64.bits x &&& BitVec.ofInt IntKind.i64.bits 255).toNat : Int) ≤ 255 := by
    rw [BitVec.toNat_and]
    have : (BitVec.ofInt IntKind.i64.bits x).toNat &&& (BitVec.ofInt IntKind.i64.bits 255).toNat ≤ 255 := Nat.le_trans Nat.and_le_right (by decide)
    omega
  have h0 : (0 : Int) ≤ ((BitVec.ofInt IntKind.i64.bits x &&& BitVec.ofInt IntKind.i64.bits 255).toNat : Int) := Int.natCast_nonneg _
  generalize ((BitVec.ofInt IntKind.i64.bits x &&& BitVec.ofInt IntKind.i64.bits 255).toNat : Int) = z at h h0
  have e : IntKind.i64.wrap z = z := by
    simp [IntKind.wrap, IntKind.bits, IntKind.signed]
    split <;> omega
  rw [e]
  exact ⟨h0, h⟩
theorem dByte {l : List Int} {i : Int} (h : Int) (hl : l.length ≤ 4096) (hi : 0 ≤ i) : ∃ x i' h', spec_l1Byte.f l i h = some (x, i', h') ∧ (0 ≤ x ∧ x ≤ 255) ∧ 0 ≤ i' := by
  unfold spec_l1Byte.f
  by_cases hlt : i < (l.length : Int)
  · rw [if_pos hlt, if_pos hi]
    exact ⟨_, _, _, rfl, and255 _, by rw [w64 (by omega) (by omega)]; omega⟩
  · rw [if_neg hlt]
    exact ⟨_, _, _, rfl, and255 _, hi⟩

theorem tmod_bd {a n : Int} (ha : 0 ≤ a) (hn : 0 < n) : 0 ≤ Int.tmod a n ∧ Int.tmod a n < n := by
  rw [tmod_pos ha]
  exact ⟨Int.emod_nonneg _ (by omega), Int.emod_lt_of_pos _ hn⟩
theorem dBelow {l : List Int} {i : Int} (h : Int) {n : Int} (hl : l.length ≤ 4096) (hi : 0 ≤ i) (hn : 0 < n) : ∃ x i' h', spec_l1Below.f l i h n = some (x, i', h') ∧ (0 ≤ x ∧ x < n) ∧ 0 ≤ i' := by
  unfold spec_l1Below.f
  rw [if_neg (by omega)]
  split
  · obtain ⟨x, i1, h1, e, hx, hi1⟩ := dByte h hl hi
    rw [e]
    simp only [Option.bind_some]
    rw [if_neg (by omega)]
    exact ⟨_, _, _, rfl, tmod_bd hx.1 hn, hi1⟩
  · obtain ⟨x, i1, h1, e1, hx, hi1⟩ := dByte h hl hi
    rw [e1]
    simp only [Option.bind_some]
    obtain ⟨y, i2, h2, e2, hy, hi2⟩ := dByte h1 hl hi1
    rw [e2]
    simp only [Option.bind_some]
    obtain ⟨z, i3, h3, e3, hz, hi3⟩ := dByte h2 hl hi2
    rw [e3]
    simp only [Option.bind_some]
    rw [if_neg (by omega)]
    refine ⟨_, _, _, rfl, tmod_bd ?_ hn, hi3⟩
    rw [w64 (x := x * 65536) (by omega) (by omega), w64 (x := y * 256) (by omega) (by omega), w64 (x := x * 65536 + y * 256) (by omega) (by omega), w64 (x := x * 65536 + y * 256 + z) (by omega) (by omega)]
    omega

theorem dSome {l : List Int} {i : Int} (h : Int) {a b : Int} (hl : l.length ≤ 4096) (hi : 0 ≤ i) (hab : -1000000 ≤ a ∧ a ≤ b ∧ b ≤ 1000000) : ∃ x i' h', spec_l1Some.f l i h a b = some (x, i', h') ∧ (a ≤ x ∧ x ≤ b) ∧ 0 ≤ i' := by
  unfold spec_l1Some.f
  rw [w64 (x := b - a) (by omega) (by omega), w64 (x := b - a + 1) (by omega) (by omega)]
  obtain ⟨x, i1, h1, e, hx, hi1⟩ := dBelow h hl hi (show 0 < b - a + 1 by omega)
  rw [e]
  simp only [Option.bind_some]
  refine ⟨_, _, _, rfl, ?_, hi1⟩
  rw [w64 (by omega) (by omega)]
  omega

theorem dOnce {l : List Int} {i : Int} (h : Int) {n : Int} (hl : l.length ≤ 4096) (hi : 0 ≤ i) (hn : 0 < n) : ∃ x i' h', spec_l1Once.f l i h n = some (x, i', h') ∧ 0 ≤ i' := by
  unfold spec_l1Once.f
  obtain ⟨x, i1, h1, e, hx, hi1⟩ := dBelow h hl hi hn
  rw [e]
  simp only [Option.bind_some]
  exact ⟨_, _, _, rfl, hi1⟩

theorem dInt {l : List Int} {i : Int} (h : Int) {m : List Int} (hl : l.length ≤ 4096) (hi : 0 ≤ i) (hm : 0 < m.length) : ∃ x i' h', spec_l1Int.f l i h m = some (x, i', h') ∧ x ∈ m ∧ 0 ≤ i' := by
  unfold spec_l1Int.f
  obtain ⟨x, i1, h1, e, hx, hi1⟩ := dBelow h hl hi (show 0 < (m.length : Int) by omega)
  rw [e]
  simp only [Option.bind_some]
  rw [if_pos hx.1, if_pos hx.2]
  refine ⟨_, _, _, rfl, ?_, hi1⟩
  unfold rd
  rw [List.getD_eq_getElem?_getD, List.getElem?_eq_getElem (by omega)]
  exact List.getElem_mem _

def I64 (x : Int) : Prop := -9223372036854775808 ≤ x ∧ x ≤ 9223372036854775807

theorem dOdd {l : List Int} {i : Int} (h : Int) (hl : l.length ≤ 4096) (hi : 0 ≤ i) : ∃ x i' h', spec_l1Odd.f l i h = some (x, i', h') ∧ I64 x ∧ 0 ≤ i' := by
  unfold spec_l1Odd.f
  obtain ⟨x, i1, h1, e, hx, hi1⟩ := dInt h (m := [(-1), 0, 1, 2, 3, 7, 8, 9, 15, 16, 17, 63, 64, 65, 999, 1000, 4096, 4097, 9223372036854775807, (-9223372036854775808)]) hl hi (by simp)
  rw [e]
  simp only [Option.bind_some]
  refine ⟨_, _, _, rfl, ?_, hi1⟩
  unfold I64
  simp only [List.mem_cons, List.not_mem_nil, or_false] at hx
  omega

theorem dBent {l : List Int} {i : Int} (h : Int) (hl : l.length ≤ 4096) (hi : 0 ≤ i) : ∃ x i' h', spec_l1Bent.f l i h = some (x, i', h') ∧ I64 x ∧ 0 ≤ i' := by
  unfold spec_l1Bent.f
  obtain ⟨b, i1, h1, e, hi1⟩ := dOnce h hl hi (show (0 : Int) < 8 by omega)
  rw [e]
  simp only [Option.bind_some]
  split
  · obtain ⟨x, i2, h2, e2, hx, hi2⟩ := dOdd h1 hl hi1
    rw [e2]
    exact ⟨_, _, _, rfl, hx, hi2⟩
  · obtain ⟨x, i2, h2, e2, hx, hi2⟩ := dSome h1 (a := -100) (b := 100) hl hi1 (by omega)
    rw [e2]
    refine ⟨_, _, _, rfl, ?_, hi2⟩
    unfold I64; omega

theorem new_loop (l : List Int) (hl : l.length ≤ 4096) (d : Nat) : ∀ (i h : Int), 0 ≤ i → (l.length : Int) - i = d → ∃ h', Ev (fun k => spec_l1New.l0 k l h i) (l, 0, h') := by
  induction d with
  | zero =>
    intro i h h0 hd
    refine ⟨h, Ev.succ' ?_⟩
    simp only [spec_l1New.l0, if_neg (show ¬ i < (l.length : Int) by omega)]
    exact Ev.now _
  | succ d ih =>
    intro i h h0 hd
    by_cases h4 : i < 4000
    · obtain ⟨h', e⟩ := ih (i + 1) (bits .and .i64 (wrap64 ((wrap64 ((wrap64 (h * 167)) + (wrap64 (rd l i)))) + 29)) 1073741823) (by omega) (by omega)
      refine ⟨h', Ev.succ' ?_⟩
      simp only [spec_l1New.l0, if_pos (show i < (l.length : Int) by omega), if_pos h4, if_pos h0]
      rw [w64 (x := i + 1) (by omega) (by omega)]
      exact e
    · refine ⟨h, Ev.succ' ?_⟩
      simp only [spec_l1New.l0, if_pos (show i < (l.length : Int) by omega), if_neg h4]
      exact Ev.now _
theorem dNew (l : List Int) (hl : l.length ≤ 4096) : ∃ h, Ev (fun k => spec_l1New.f k l) (l, 0, h) := by
  unfold spec_l1New.f
  exact new_loop l hl l.length 0 _ (by omega) (by omega)

theorem lawBig (l : List Int) : laws_big.f l = some (decide ((l.length : Int) > 4096)) := rfl

theorem floor_val {a n : Int} (hn : 0 < n) (hb : -1000000000000 ≤ a ∧ a ≤ 1000000000000) : impl_floorDiv.f a n = some (a / n) := by
  have hq : -1000000000000 ≤ a / n ∧ a / n ≤ 1000000000000 := by
    constructor
    · have := Int.ediv_le_ediv hn hb.1
      have h2 : -1000000000000 ≤ -1000000000000 / n := by
        have h3 := (Int.le_ediv_iff_mul_le (a := -1000000000000) (b := -1000000000000) hn).2 (by
          have : -1000000000000 * n ≤ -1000000000000 * 1 := Int.mul_le_mul_of_nonpos_left (by omega) (by omega)
          omega)
        exact h3
      omega
    · exact Int.le_trans (Int.ediv_le_ediv hn hb.2) (Int.ediv_le_self _ (by omega))
  have key : (if Int.tmod a n < 0 then Int.tdiv a n - 1 else Int.tdiv a n) = a / n := by
    rcases Int.le_total 0 a with h | h
    · rw [tmod_pos h, tdiv_pos h, if_neg (by have := Int.emod_nonneg a (show n ≠ 0 by omega); omega)]
    · obtain ⟨m, rfl⟩ : ∃ m, a = -m := ⟨-a, by omega⟩
      have hm : 0 ≤ m := by omega
      rw [Int.neg_tmod, Int.neg_tdiv, tmod_pos hm, tdiv_pos hm]
      have e := Int.mul_ediv_add_emod m n
      have r0 := Int.emod_nonneg m (show n ≠ 0 by omega)
      have r1 := Int.emod_lt_of_pos m hn
      by_cases hr : m % n = 0
      · rw [if_neg (by omega)]
        exact ((Int.ediv_emod_unique (a := -m) (r := 0) (q := -(m / n)) hn).2 ⟨by rw [Int.mul_neg]; omega, by omega, by omega⟩).1.symm
      · rw [if_pos (by omega)]
        exact ((Int.ediv_emod_unique (a := -m) (r := n - m % n) (q := -(m / n) - 1) hn).2 ⟨by rw [Int.mul_sub, Int.mul_neg, Int.mul_one]; omega, by omega, by omega⟩).1.symm
  unfold impl_floorDiv.f
  rw [if_neg (by omega)]
  by_cases h : Int.tmod a n < 0
  · rw [if_pos h] at key
    rw [if_pos h, w64 (x := Int.tdiv a n) (by omega) (by omega), key, w64 (by omega) (by omega)]
  · rw [if_neg h] at key
    rw [if_neg h, key, w64 (by omega) (by omega)]
def rampV (a b i n : Int) : Int := if ¬ ((-4096 ≤ a ∧ a ≤ 4096) ∧ (-4096 ≤ b ∧ b ≤ 4096)) then 0 else if i ≥ n then b else if i ≤ 0 ∨ n > 999 then a else a + i * (b - a) / n
theorem rampV_ok {a b : Int} (i n : Int) (ha : -4096 ≤ a ∧ a ≤ 4096) (hb : -4096 ≤ b ∧ b ≤ 4096) : rampV a b i n = if i ≥ n then b else if i ≤ 0 ∨ n > 999 then a else a + i * (b - a) / n := by
  unfold rampV
  exact if_neg (fun h => h ⟨ha, hb⟩)
theorem ramp_bd {a b i n : Int} (ha : -4096 ≤ a ∧ a ≤ 4096) (hb : -4096 ≤ b ∧ b ≤ 4096) (hi : 0 ≤ i) (hin : i ≤ n) (hn : 0 < n) : (a ≤ b → 0 ≤ i * (b - a) / n ∧ i * (b - a) / n ≤ b - a) ∧ (b ≤ a → b - a ≤ i * (b - a) / n ∧ i * (b - a) / n ≤ 0) := by
  constructor
  · intro h
    constructor
    · exact Int.ediv_nonneg (Int.mul_nonneg hi (by omega)) (by omega)
    · have := Int.ediv_le_ediv hn (Int.mul_le_mul_of_nonneg_right hin (show 0 ≤ b - a by omega))
      rwa [Int.mul_ediv_cancel_left _ (show n ≠ 0 by omega)] at this
  · intro h
    constructor
    · have := Int.ediv_le_ediv hn (Int.mul_le_mul_of_nonpos_right hin (show b - a ≤ 0 by omega))
      rwa [Int.mul_ediv_cancel_left _ (show n ≠ 0 by omega)] at this
    · have h1 : i * (b - a) ≤ 0 := Int.mul_nonpos_of_nonneg_of_nonpos hi (by omega)
      have := Int.ediv_le_ediv hn h1
      rwa [Int.zero_ediv] at this

theorem iRamp (a b i n : Int) : Ev (fun k => impl_RampAt.f k a b i n) (rampV a b i n) := by
  unfold impl_RampAt.f
  simp only [iIsMeasure, Option.bind_some]
  have bad : ∀ t : Bool, t = true → ¬ ((-4096 ≤ a ∧ a ≤ 4096) ∧ (-4096 ≤ b ∧ b ≤ 4096)) → Ev (fun k => impl_RampAt.j0 k a b i n t) (rampV a b i n) := fun t ht hh => by
    refine Ev.succ' ?_
    simp only [impl_RampAt.j0, if_pos ht]
    unfold rampV
    rw [if_pos hh]
    exact Ev.now _
  by_cases ha : -4096 ≤ a ∧ a ≤ 4096
  · simp only [ha, and_self, decide_true, if_true]
    by_cases hb : -4096 ≤ b ∧ b ≤ 4096
    · simp only [hb, and_self, decide_true, Bool.not_true]
      refine Ev.succ' ?_
      simp only [impl_RampAt.j0, Bool.false_eq_true, if_false]
      rw [rampV_ok i n ha hb]
      by_cases h1 : i ≥ n
      · simp only [if_pos h1]; exact Ev.now _
      · simp only [if_neg h1]
        by_cases h2 : i ≤ 0
        · simp only [if_pos h2, if_pos (show i ≤ 0 ∨ n > 999 from Or.inl h2)]; exact Ev.now _
        · by_cases h3 : n > 999
          · simp only [if_neg h2, if_pos h3, if_pos (show i ≤ 0 ∨ n > 999 from Or.inr h3)]; exact Ev.now _
          · simp only [if_neg (show ¬ (i ≤ 0 ∨ n > 999) by omega)]
            have hp := ramp_bd (i := i) (n := n) ha hb (by omega) (by omega) (by omega)
            have h9 : -1000 * 8192 ≤ i * (b - a) ∧ i * (b - a) ≤ 1000 * 8192 := by
              rcases Int.le_total a b with h | h
              · have := Int.mul_nonneg (show 0 ≤ i by omega) (show 0 ≤ b - a by omega)
                have h8 := Int.mul_le_mul (show i ≤ 1000 by omega) (show b - a ≤ 8192 by omega) (by omega) (by omega)
                omega
              · have := Int.mul_nonneg (show 0 ≤ i by omega) (show 0 ≤ a - b by omega)
                have h8 := Int.mul_le_mul (show i ≤ 1000 by omega) (show a - b ≤ 8192 by omega) (by omega) (by omega)
                have e : i * (b - a) = - (i * (a - b)) := by rw [← Int.mul_neg, Int.neg_sub]
                omega
            have hf := floor_val (a := i * (b - a)) (n := n) (by omega) (by omega)
            simp only [if_neg h2, if_neg h3]
            rw [w64 (x := b - a) (by omega) (by omega), w64 (x := i * (b - a)) (by omega) (by omega), hf]
            simp only [Option.bind_some]
            have h7 : -8192 ≤ i * (b - a) / n ∧ i * (b - a) / n ≤ 8192 := by
              rcases Int.le_total a b with h | h
              · have := hp.1 h; omega
              · have := hp.2 h; omega
            rw [w64 (x := a + _) (by omega) (by omega)]
            exact Ev.now _
    · simp only [hb, decide_false, Bool.not_false]
      exact bad _ rfl (by omega)
  · simp only [ha, decide_false, Bool.false_eq_true, if_false]
    exact bad _ rfl (by omega)

theorem drawRamp (l : List Int) (hl : l.length ≤ 4096) : ∃ a b i n, (I64 a ∧ I64 b ∧ I64 i ∧ I64 n) ∧ Ev (fun k => spec_DrawRampAt.f k l) (a, b, i, n) := by
  obtain ⟨h0, e0⟩ := dNew l hl
  unfold spec_DrawRampAt.f
  obtain ⟨o, i1, h1, e1, hi1⟩ := dOnce (i := 0) h0 (n := 8) hl (by omega) (by omega)
  cases o with
  | true =>
    obtain ⟨a, i2, h2, e2, ha, hi2⟩ := dBent h1 hl hi1
    obtain ⟨b, i3, h3, e3, hb, hi3⟩ := dBent h2 hl hi2
    obtain ⟨i, i4, h4, e4, hi, hi4⟩ := dOdd h3 hl hi3
    obtain ⟨n, i5, h5, e5, hn, hi5⟩ := dOdd h4 hl hi4
    refine ⟨a, b, i, n, ⟨ha, hb, hi, hn⟩, Ev.bind e0 ?_⟩
    simp only [e1, e2, e3, e4, e5, Option.bind_some, if_true]
    exact Ev.now _
  | false =>
    obtain ⟨a, i2, h2, e2, ha, hi2⟩ := dBent h1 hl hi1
    obtain ⟨b, i3, h3, e3, hb, hi3⟩ := dBent h2 hl hi2
    obtain ⟨i, i4, h4, e4, hi, hi4⟩ := dBelow h3 (n := 20) hl hi3 (by omega)
    obtain ⟨n, i5, h5, e5, hn, hi5⟩ := dBelow h4 (n := 18) hl hi4 (by omega)
    refine ⟨a, b, i - 1, n, ⟨ha, hb, by unfold I64; omega, by unfold I64; omega⟩, Ev.bind e0 ?_⟩
    simp only [e1, e2, e3, e4, e5, Option.bind_some, Bool.false_eq_true, if_false]
    rw [w64 (x := i - 1) (by omega) (by omega)]
    exact Ev.now _

theorem FnRamp : laws_FnRamp.Pure := by
  intro l _ _ _
  refine Ev.rounds (r := true) ?_
  unfold laws_FnRamp.f
  simp only [lawBig, Option.bind_some]
  by_cases hb : (l.length : Int) > 4096
  · simp only [hb, decide_true, if_true]
    exact Ev.now _
  · simp only [hb, decide_false, Bool.false_eq_true, if_false]
    obtain ⟨a, b, i, n, ⟨ia, ib, ii, iN⟩, e⟩ := drawRamp l (by omega)
    refine Ev.bind e ?_
    unfold I64 at ia ib ii iN
    simp only [iIsMeasure, sIsMeasure, Option.bind_some, bne_self_eq_false, Bool.false_eq_true, if_false]
    have none : ∀ t : Bool, t = true → ¬ ((-4096 ≤ a ∧ a ≤ 4096) ∧ (-4096 ≤ b ∧ b ≤ 4096)) → Ev (fun k => laws_FnRamp.j0 k a b i n t) true := fun t ht hh => by
      refine Ev.succ' ?_
      simp only [laws_FnRamp.j0, if_pos ht]
      refine Ev.bind (iRamp a b i n) ?_
      rw [show rampV a b i n = 0 by unfold rampV; rw [if_pos hh]]
      exact Ev.now _
    by_cases ha : -4096 ≤ a ∧ a ≤ 4096
    · simp only [ha, and_self, decide_true, if_true]
      by_cases hbm : -4096 ≤ b ∧ b ≤ 4096
      · simp only [hbm, and_self, decide_true, Bool.not_true]
        have hx : (mn a b ≤ rampV a b i n ∧ rampV a b i n ≤ mx a b) := by
          have hp := fun h0 h1 h2 => ramp_bd (i := i) (n := n) ha hbm h0 h1 h2
          rw [rampV_ok i n ha hbm]
          unfold mn mx
          by_cases h1 : i ≥ n
          · rw [if_pos h1]; constructor <;> split <;> omega
          · rw [if_neg h1]
            by_cases h2 : i ≤ 0 ∨ n > 999
            · rw [if_pos h2]; constructor <;> split <;> omega
            · rw [if_neg h2]
              have := hp (by omega) (by omega) (by omega)
              constructor <;> split <;> omega
        have hfin : Ev (fun k => laws_FnRamp.j1 k a b i n (rampV a b i n) false) true := by
          refine Ev.succ' ?_
          simp only [laws_FnRamp.j1, Bool.false_eq_true, if_false]
          by_cases c1 : i ≥ 999
          · simp only [if_pos c1]; exact Ev.now _
          · by_cases c2 : n > 999
            · simp only [if_neg c1, if_pos c2]; exact Ev.now _
            · by_cases c3 : i < 0
              · simp only [if_neg c1, if_neg c2, if_pos c3]; exact Ev.now _
              · simp only [if_neg c1, if_neg c2, if_neg c3]
                rw [w64 (x := i + 1) (by omega) (by omega)]
                refine Ev.bind (iRamp a b (i + 1) n) ?_
                have hmono : (a ≤ b → rampV a b i n ≤ rampV a b (i + 1) n) ∧ (b ≤ a → rampV a b (i + 1) n ≤ rampV a b i n) := by
                  rw [rampV_ok i n ha hbm, rampV_ok (i + 1) n ha hbm]
                  by_cases h1 : i ≥ n
                  · rw [if_pos h1, if_pos (by omega)]; omega
                  · rw [if_neg h1]
                    by_cases h2 : i + 1 ≥ n
                    · rw [if_pos h2]
                      by_cases h3 : i ≤ 0 ∨ n > 999
                      · rw [if_pos h3]; omega
                      · rw [if_neg h3]
                        have hp := ramp_bd (i := i) (n := n) ha hbm (by omega) (by omega) (by omega)
                        constructor
                        · intro h; have := hp.1 h; omega
                        · intro h; have := hp.2 h; omega
                    · rw [if_neg h2, if_neg (show ¬ (i + 1 ≤ 0 ∨ n > 999) by omega)]
                      have hq := ramp_bd (i := i + 1) (n := n) ha hbm (by omega) (by omega) (by omega)
                      by_cases h3 : i ≤ 0 ∨ n > 999
                      · rw [if_pos h3]
                        constructor
                        · intro h; have := hq.1 h; omega
                        · intro h; have := hq.2 h; omega
                      · rw [if_neg h3]
                        constructor
                        · intro h
                          have := Int.ediv_le_ediv (c := n) (by omega) (Int.mul_le_mul_of_nonneg_right (show i ≤ i + 1 by omega) (show 0 ≤ b - a by omega))
                          omega
                        · intro h
                          have := Int.ediv_le_ediv (c := n) (by omega) (Int.mul_le_mul_of_nonpos_right (show i ≤ i + 1 by omega) (show b - a ≤ 0 by omega))
                          omega
                by_cases d1 : a > b
                · simp only [if_pos d1, if_neg (show ¬ a < b by omega), show decide (rampV a b i n ≥ rampV a b (i + 1) n) = true by simpa using hmono.2 (by omega)]
                  exact Ev.now _
                · simp only [if_neg d1, if_pos (hmono.1 (by omega))]
                  by_cases d2 : a < b
                  · simp only [if_pos d2]; exact Ev.now _
                  · simp only [if_neg d2, show decide (rampV a b i n ≥ rampV a b (i + 1) n) = true by simpa using hmono.2 (by omega)]
                    exact Ev.now _
        have hn : Ev (fun k => (impl_RampAt.f k a b n n).bind fun t => laws_FnRamp.j1 k a b i n (rampV a b i n) (t != b)) true := by
          refine Ev.bind (iRamp a b n n) ?_
          rw [show rampV a b n n = b by rw [rampV_ok n n ha hbm, if_pos (by omega)]]
          simp only [bne_self_eq_false]
          exact hfin
        refine Ev.succ' ?_
        simp only [laws_FnRamp.j0, Bool.false_eq_true, if_false]
        refine Ev.bind (iRamp a b i n) ?_
        simp only [if_neg (show ¬ rampV a b i n < mn a b by omega), if_neg (show ¬ rampV a b i n > mx a b by omega)]
        by_cases h0 : n > 0
        · simp only [if_pos h0]
          refine Ev.bind (iRamp a b 0 n) ?_
          rw [show rampV a b 0 n = a by rw [rampV_ok 0 n ha hbm, if_neg (by omega), if_pos (by omega)]]
          simp only [if_true]
          exact hn
        · simp only [if_neg h0]
          exact hn
      · simp only [hbm, decide_false, Bool.not_false]
        exact none _ rfl (by omega)
    · simp only [ha, decide_false, Bool.false_eq_true, if_false]
      exact none _ rfl (by omega)

end Go.Proofs.Ytkioodeeadhdaaa.Pure
