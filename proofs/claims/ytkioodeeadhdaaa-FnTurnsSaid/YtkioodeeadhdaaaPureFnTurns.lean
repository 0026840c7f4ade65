/- The plain law behind FnTurns: for every input that the row lets in, the printed function of the law answers true. No condition beyond the bounds that the statement names. -/
import Derived.Test.YtkioodeeadhdaaaPFnTurnsx4
namespace Go.Proofs.Ytkioodeeadhdaaa.Pure
open Go.RowKit Go.Proofs.Ytkioodeeadhdaaa.PFnTurns Go.Proofs.YtkioodeeadhdaaaW.PrintWords Go.Proofs.YtkioodeeadhdaaaW.PrintLast
open Go.Proofs.YtkioodeeadhdaaaW.PrintMore
set_option linter.unusedVariables false
set_option linter.unusedSimpArgs false

theorem w64 {x : Int} (h0 : -9223372036854775808 ≤ x) (h1 : x ≤ 9223372036854775807) : wrap64 x = x := by unfold wrap64; omega
theorem wfb {a : Int} (h : (Lit.int .i64 a).wf = true) : -9223372036854775808 ≤ a ∧ a ≤ 9223372036854775807 := by
  simp [Lit.wf, IntKind.min, IntKind.max, IntKind.signed, IntKind.bits] at h
  omega
theorem Ev.succ' {α : Type} {g : Nat → Option α} {r : α} (h : Ev (fun k => g (k + 1)) r) : Ev g r := Ev.step (fun _ => rfl) h
theorem dec_congr {p q : Prop} [Decidable p] [Decidable q] (h : p ↔ q) : decide p = decide q := by simp [h]

theorem sIsMeasure (x : Int) : spec_IsMeasure.f x = some (decide (-4096 ≤ x ∧ x ≤ 4096)) := by
  unfold spec_IsMeasure.f
  split <;> simp <;> omega

theorem iWithin (a b c : Int) : impl_isWithin.f a b c = some (decide (b ≤ a ∧ a ≤ c)) := by
  unfold impl_isWithin.f
  split <;> simp <;> omega

theorem iIsMeasure (x : Int) : impl_IsMeasure.f x = some (decide (-4096 ≤ x ∧ x ≤ 4096)) := by
  unfold impl_IsMeasure.f
  rw [iWithin]
  rfl

theorem iIsHeading (x : Int) : impl_IsHeading.f x = some (decide (0 ≤ x ∧ x ≤ 3)) := by
  unfold impl_IsHeading.f
  rw [iWithin]
  rfl

theorem sIsPlace (x y : Int) : spec_IsPlace.f x y = some (decide ((-4096 ≤ x ∧ x ≤ 4096) ∧ (-4096 ≤ y ∧ y ≤ 4096))) := by
  unfold spec_IsPlace.f
  simp only [sIsMeasure, Option.bind_some]
  split <;> rename_i h <;> simp at h ⊢ <;> omega

theorem iIsPlace (x y : Int) : impl_IsPlace.f x y = some (decide ((-4096 ≤ x ∧ x ≤ 4096) ∧ (-4096 ≤ y ∧ y ≤ 4096))) := by
  unfold impl_IsPlace.f
  simp only [iIsMeasure, Option.bind_some]
  split <;> rename_i h <;> simp at h ⊢ <;> omega

theorem tmod_pos {a b : Int} (h : 0 ≤ a) : Int.tmod a b = a % b := Int.tmod_eq_emod_of_nonneg h
theorem tmod_neg' (a b : Int) : Int.tmod (-a) b = -(Int.tmod a b) := Int.neg_tmod a b
theorem tdiv_pos {a b : Int} (h : 0 ≤ a) : Int.tdiv a b = a / b := Int.tdiv_eq_ediv_of_nonneg h
theorem tmod4 (n : Int) : (Int.tmod n 4 < 0 → Int.tmod n 4 + 4 = n % 4) ∧ (¬ Int.tmod n 4 < 0 → Int.tmod n 4 = n % 4) ∧ -3 ≤ Int.tmod n 4 ∧ Int.tmod n 4 ≤ 3 := by
  rcases Int.le_total 0 n with h | h
  · rw [tmod_pos h]; omega
  · obtain ⟨m, rfl⟩ : ∃ m, n = -m := ⟨-n, by omega⟩
    rw [tmod_neg', tmod_pos (by omega)]; omega

theorem iTurns (n : Int) : impl_turns.f n = some (n % 4) := by
  have h := tmod4 n
  unfold impl_turns.f
  rw [w64 (by omega) (by omega), tmod_pos (by omega)]
  simp
  by_cases h1 : Int.tmod n 4 < 0 <;> omega

theorem iTurnHeading (h n : Int) : impl_TurnHeading.f h n = some (if 0 ≤ h ∧ h ≤ 3 then (h + n) % 4 else 0) := by
  unfold impl_TurnHeading.f
  simp only [iIsHeading, iTurns, Option.bind_some]
  by_cases hh : 0 ≤ h ∧ h ≤ 3
  · rw [if_pos (by simpa using hh), if_pos hh, w64 (by omega) (by omega), tmod_pos (by omega)]; simp
  · rw [if_neg (by simpa using hh), if_neg hh]

def PL (x y : Int) : Prop := (-4096 ≤ x ∧ x ≤ 4096) ∧ (-4096 ≤ y ∧ y ≤ 4096)
instance (x y : Int) : Decidable (PL x y) := by unfold PL; infer_instance

theorem sPL (x y : Int) : spec_IsPlace.f x y = some (decide (PL x y)) := sIsPlace x y

theorem iPL (x y : Int) : impl_IsPlace.f x y = some (decide (PL x y)) := iIsPlace x y

def tr (m x y : Int) : Int × Int := if m = 0 then (x, y) else if m = 1 then (-y, x) else if m = 2 then (-x, -y) else (y, -x)
theorem tr0 (x y : Int) : tr 0 x y = (x, y) := by simp [tr]
theorem tr1 (x y : Int) : tr 1 x y = (-y, x) := by simp [tr]
theorem tr2 (x y : Int) : tr 2 x y = (-x, -y) := by simp [tr]
theorem tr3 (x y : Int) : tr 3 x y = (y, -x) := by simp [tr]
theorem tr_bd {m x y b : Int} (hx : -b ≤ x ∧ x ≤ b) (hy : -b ≤ y ∧ y ≤ b) : (-b ≤ (tr m x y).1 ∧ (tr m x y).1 ≤ b) ∧ (-b ≤ (tr m x y).2 ∧ (tr m x y).2 ≤ b) := by
  unfold tr
  split
  · simp; omega
  · split
    · simp; omega
    · split <;> simp <;> omega

theorem iTurnL {x y : Int} (m : Int) (hm : 0 ≤ m ∧ m ≤ 3) (hx : -1000000000 ≤ x ∧ x ≤ 1000000000) (hy : -1000000000 ≤ y ∧ y ≤ 1000000000) : Ev (fun k => impl_turned.l0 k m 0 x y) (tr m x y) := by
  have e : ∀ m x y : Int, Ev (fun k => impl_turned.l0 k m m x y) (x, y) := fun m x y => Ev.step (f := fun _ => some (x, y)) (fun k => by simp only [impl_turned.l0]; rw [if_neg (by omega)]) (Ev.now _)
  have s : ∀ (m i i' x y : Int) (r : Int × Int), i' = i + 1 → 0 ≤ i → i < m → m ≤ 3 → (-1000000000 ≤ y ∧ y ≤ 1000000000) → Ev (fun k => impl_turned.l0 k m i' (-y) x) r → Ev (fun k => impl_turned.l0 k m i x y) r := fun m i i' x y r hi' h0 h1 h3 hy h => by
    refine Ev.step (fun k => ?_) h
    simp only [impl_turned.l0]
    rw [if_pos (by omega), w64 (x := i + 1) (by omega) (by omega), w64 (x := -y) (by omega) (by omega), hi']
  have : m = 0 ∨ m = 1 ∨ m = 2 ∨ m = 3 := by omega
  rcases this with rfl | rfl | rfl | rfl
  · rw [tr0]; exact e 0 x y
  · rw [tr1]; exact s 1 0 1 _ _ _ (by omega) (by omega) (by omega) (by omega) hy (e 1 _ _)
  · rw [tr2]; exact s 2 0 1 _ _ _ (by omega) (by omega) (by omega) (by omega) hy (s 2 1 2 _ _ _ (by omega) (by omega) (by omega) (by omega) hx (e 2 _ _))
  · rw [tr3]
    have := s 3 0 1 _ _ _ (by omega) (by omega) (by omega) (by omega) hy (s 3 1 2 _ _ _ (by omega) (by omega) (by omega) (by omega) hx (s 3 2 3 _ _ _ (by omega) (by omega) (by omega) (by omega) (by omega) (e 3 _ _)))
    rwa [Int.neg_neg] at this

theorem iTurn {x y : Int} (n : Int) (hx : -1000000000 ≤ x ∧ x ≤ 1000000000) (hy : -1000000000 ≤ y ∧ y ≤ 1000000000) : Ev (fun k => impl_turned.f k x y n) (tr (n % 4) x y) := by
  unfold impl_turned.f
  simp only [iTurns, Option.bind_some]
  exact iTurnL _ (by omega) hx hy

def tpV (x y n : Int) : Int × Int := if PL x y then tr (n % 4) x y else (0, 0)

theorem iTurnPlace (x y n : Int) : Ev (fun k => impl_TurnPlace.f k x y n) (tpV x y n) := by
  unfold impl_TurnPlace.f tpV
  simp only [iPL, Option.bind_some]
  by_cases h : PL x y
  · simp only [h, decide_true, if_true]
    unfold PL at h
    exact Ev.bind (iTurn n (by omega) (by omega)) (Ev.now _)
  · simp only [h, decide_false, if_false]
    exact Ev.now _

theorem and255 (x : Int) : 0 ≤ bits .and .i64 x 255 ∧ bits .and .i64 x 255 ≤ 255 := by
  simp only [bits]
  have h : ((BitVec.ofInt IntKind.i64.bits x &&& BitVec.ofInt IntKind.i64.bits 255).toNat : Int) ≤ 255 := by
    rw [BitVec.toNat_and]
    have : (BitVec.ofInt IntKind.i64.bits x).toNat &&& (BitVec.ofInt IntKind.i64.bits 255).toNat ≤ 255 := Nat.le_trans Nat.and_le_right (by decide)
    omega
  have h0 : (0 : Int) ≤ ((BitVec.ofInt IntKind.i64.bits x &&& BitVec.ofInt IntKind.i64.bits 255).toNat : Int) := Int.natCast_nonneg _
  generalize ((BitVec.ofInt IntKind.i64.bits x &&& BitVec.ofInt IntKind.i64.bits 255).toNat : Int) = z at h h0
  have e : IntKind.i64.wrap z = z := by
    simp [IntKind.wrap, IntKind.bits, IntKind.signed]
    split <;> omega
  rw [e]
  exact ⟨h0, h⟩
theorem dByte {l : List Int} {i : Int} (h : Int) (hl : l.length ≤ 4096) (hi : 0 ≤ i) : ∃ x i' h', spec_l1Byte.f l i h = some (x, i', h') ∧ (0 ≤ x ∧ x ≤ 255) ∧ 0 ≤ i' := by
  unfold spec_l1Byte.f
  by_cases hlt : i < (l.length : Int)
  · rw [if_pos hlt, if_pos hi]
    exact ⟨_, _, _, rfl, and255 _, by rw [w64 (by omega) (by omega)]; omega⟩
  · rw [if_neg hlt]
    exact ⟨_, _, _, rfl, and255 _, hi⟩

theorem tmod_bd {a n : Int} (ha : 0 ≤ a) (hn : 0 < n) : 0 ≤ Int.tmod a n ∧ Int.tmod a n < n := by
  rw [tmod_pos ha]
  exact ⟨Int.emod_nonneg _ (by omega), Int.emod_lt_of_pos _ hn⟩
theorem dBelow {l : List Int} {i : Int} (h : Int) {n : Int} (hl : l.length ≤ 4096) (hi : 0 ≤ i) (hn : 0 < n) : ∃ x i' h', spec_l1Below.f l i h n = some (x, i', h') ∧ (0 ≤ x ∧ x < n) ∧ 0 ≤ i' := by
  unfold spec_l1Below.f
  rw [if_neg (by omega)]
  split
  · obtain ⟨x, i1, h1, e, hx, hi1⟩ := dByte h hl hi
    rw [e]
    simp only [Option.bind_some]
    rw [if_neg (by omega)]
    exact ⟨_, _, _, rfl, tmod_bd hx.1 hn, hi1⟩
  · obtain ⟨x, i1, h1, e1, hx, hi1⟩ := dByte h hl hi
    rw [e1]
    simp only [Option.bind_some]
    obtain ⟨y, i2, h2, e2, hy, hi2⟩ := dByte h1 hl hi1
    rw [e2]
    simp only [Option.bind_some]
    obtain ⟨z, i3, h3, e3, hz, hi3⟩ := dByte h2 hl hi2
    rw [e3]
    simp only [Option.bind_some]
    rw [if_neg (by omega)]
    refine ⟨_, _, _, rfl, tmod_bd ?_ hn, hi3⟩
    rw [w64 (x := x * 65536) (by omega) (by omega), w64 (x := y * 256) (by omega) (by omega), w64 (x := x * 65536 + y * 256) (by omega) (by omega), w64 (x := x * 65536 + y * 256 + z) (by omega) (by omega)]
    omega

theorem dSome {l : List Int} {i : Int} (h : Int) {a b : Int} (hl : l.length ≤ 4096) (hi : 0 ≤ i) (hab : -1000000 ≤ a ∧ a ≤ b ∧ b ≤ 1000000) : ∃ x i' h', spec_l1Some.f l i h a b = some (x, i', h') ∧ (a ≤ x ∧ x ≤ b) ∧ 0 ≤ i' := by
  unfold spec_l1Some.f
  rw [w64 (x := b - a) (by omega) (by omega), w64 (x := b - a + 1) (by omega) (by omega)]
  obtain ⟨x, i1, h1, e, hx, hi1⟩ := dBelow h hl hi (show 0 < b - a + 1 by omega)
  rw [e]
  simp only [Option.bind_some]
  refine ⟨_, _, _, rfl, ?_, hi1⟩
  rw [w64 (by omega) (by omega)]
  omega

theorem dOnce {l : List Int} {i : Int} (h : Int) {n : Int} (hl : l.length ≤ 4096) (hi : 0 ≤ i) (hn : 0 < n) : ∃ x i' h', spec_l1Once.f l i h n = some (x, i', h') ∧ 0 ≤ i' := by
  unfold spec_l1Once.f
  obtain ⟨x, i1, h1, e, hx, hi1⟩ := dBelow h hl hi hn
  rw [e]
  simp only [Option.bind_some]
  exact ⟨_, _, _, rfl, hi1⟩

theorem dInt {l : List Int} {i : Int} (h : Int) {m : List Int} (hl : l.length ≤ 4096) (hi : 0 ≤ i) (hm : 0 < m.length) : ∃ x i' h', spec_l1Int.f l i h m = some (x, i', h') ∧ x ∈ m ∧ 0 ≤ i' := by
  unfold spec_l1Int.f
  obtain ⟨x, i1, h1, e, hx, hi1⟩ := dBelow h hl hi (show 0 < (m.length : Int) by omega)
  rw [e]
  simp only [Option.bind_some]
  rw [if_pos hx.1, if_pos hx.2]
  refine ⟨_, _, _, rfl, ?_, hi1⟩
  unfold rd
  rw [List.getD_eq_getElem?_getD, List.getElem?_eq_getElem (by omega)]
  exact List.getElem_mem _

def I64 (x : Int) : Prop := -9223372036854775808 ≤ x ∧ x ≤ 9223372036854775807

theorem dOdd {l : List Int} {i : Int} (h : Int) (hl : l.length ≤ 4096) (hi : 0 ≤ i) : ∃ x i' h', spec_l1Odd.f l i h = some (x, i', h') ∧ I64 x ∧ 0 ≤ i' := by
  unfold spec_l1Odd.f
  obtain ⟨x, i1, h1, e, hx, hi1⟩ := dInt h (m := [(-1), 0, 1, 2, 3, 7, 8, 9, 15, 16, 17, 63, 64, 65, 999, 1000, 4096, 4097, 9223372036854775807, (-9223372036854775808)]) hl hi (by simp)
  rw [e]
  simp only [Option.bind_some]
  refine ⟨_, _, _, rfl, ?_, hi1⟩
  unfold I64
  simp only [List.mem_cons, List.not_mem_nil, or_false] at hx
  omega

theorem new_loop (l : List Int) (hl : l.length ≤ 4096) (d : Nat) : ∀ (i h : Int), 0 ≤ i → (l.length : Int) - i = d → ∃ h', Ev (fun k => spec_l1New.l0 k l h i) (l, 0, h') := by
  induction d with
  | zero =>
    intro i h h0 hd
    refine ⟨h, Ev.succ' ?_⟩
    simp only [spec_l1New.l0, if_neg (show ¬ i < (l.length : Int) by omega)]
    exact Ev.now _
  | succ d ih =>
    intro i h h0 hd
    by_cases h4 : i < 4000
    · obtain ⟨h', e⟩ := ih (i + 1) (bits .and .i64 (wrap64 ((wrap64 ((wrap64 (h * 167)) + (wrap64 (rd l i)))) + 29)) 1073741823) (by omega) (by omega)
      refine ⟨h', Ev.succ' ?_⟩
      simp only [spec_l1New.l0, if_pos (show i < (l.length : Int) by omega), if_pos h4, if_pos h0]
      rw [w64 (x := i + 1) (by omega) (by omega)]
      exact e
    · refine ⟨h, Ev.succ' ?_⟩
      simp only [spec_l1New.l0, if_pos (show i < (l.length : Int) by omega), if_neg h4]
      exact Ev.now _
theorem dNew (l : List Int) (hl : l.length ≤ 4096) : ∃ h, Ev (fun k => spec_l1New.f k l) (l, 0, h) := by
  unfold spec_l1New.f
  exact new_loop l hl l.length 0 _ (by omega) (by omega)

theorem lawBig (l : List Int) : laws_big.f l = some (decide ((l.length : Int) > 4096)) := rfl

theorem dPlace {l : List Int} {i : Int} (h : Int) (hl : l.length ≤ 4096) (hi : 0 ≤ i) : ∃ x y i' h', spec_l2Draw.f l i h = some (x, y, i', h') ∧ (-64 ≤ x ∧ x ≤ 64) ∧ (-64 ≤ y ∧ y ≤ 64) ∧ 0 ≤ i' := by
  unfold spec_l2Draw.f
  obtain ⟨x, i1, h1, e1, hx, hi1⟩ := dSome h (a := -64) (b := 64) hl hi (by omega)
  rw [e1]
  simp only [Option.bind_some]
  obtain ⟨y, i2, h2, e2, hy, hi2⟩ := dSome h1 (a := -64) (b := 64) hl hi1 (by omega)
  rw [e2]
  simp only [Option.bind_some]
  exact ⟨_, _, _, _, rfl, hx, hy, hi2⟩

theorem dAny {l : List Int} {i : Int} (h : Int) (hl : l.length ≤ 4096) (hi : 0 ≤ i) : ∃ x y i' h', Ev (fun k => spec_l2Any.f k l i h) (x, y, i', h') ∧ I64 x ∧ (-5000 ≤ y ∧ y ≤ 5000) ∧ 0 ≤ i' := by
  unfold spec_l2Any.f
  obtain ⟨x, y, i1, h1, e1, hx, hy, hi1⟩ := dPlace h hl hi
  obtain ⟨o, i2, h2, e2, hi2⟩ := dOnce h1 (n := 9) hl hi1 (by omega)
  have hj : ∀ (x' i3 h3 : Int), I64 x' → 0 ≤ i3 → ∃ x y1 i' h', Ev (fun k => spec_l2Any.j0 k l i3 h3 x' y) (x, y1, i', h') ∧ I64 x ∧ (-5000 ≤ y1 ∧ y1 ≤ 5000) ∧ 0 ≤ i' := fun x' i3 h3 hx' hi3 => by
    obtain ⟨o, i4, h4, e4, hi4⟩ := dOnce h3 (n := 9) hl hi3 (by omega)
    cases o with
    | true =>
      obtain ⟨z, i5, h5, e5, hz, hi5⟩ := dInt h4 (m := [4096, (-4096), 4097, (-4097), 4090]) hl hi4 (by simp)
      refine ⟨x', z, i5, h5, Ev.succ' ?_, hx', ?_, hi5⟩
      · simp only [spec_l2Any.j0, e4, e5, Option.bind_some, if_true]
        exact Ev.now _
      · simp only [List.mem_cons, List.not_mem_nil, or_false] at hz
        omega
    | false =>
      refine ⟨x', y, i4, h4, Ev.succ' ?_, hx', by omega, hi4⟩
      simp only [spec_l2Any.j0, e4, Option.bind_some, Bool.false_eq_true, if_false]
      exact Ev.now _
  cases o with
  | true =>
    obtain ⟨x', i3, h3, e3, hx', hi3⟩ := dOdd h2 hl hi2
    obtain ⟨a, b, i', h', e, r⟩ := hj x' i3 h3 hx' hi3
    refine ⟨a, b, i', h', ?_, r⟩
    simp only [e1, e2, e3, Option.bind_some, if_true]
    exact e
  | false =>
    obtain ⟨a, b, i', h', e, r⟩ := hj x i2 h2 (by unfold I64; omega) hi2
    refine ⟨a, b, i', h', ?_, r⟩
    simp only [e1, e2, Option.bind_some, Bool.false_eq_true, if_false]
    exact e

theorem dTurns {l : List Int} {i : Int} (h : Int) (hl : l.length ≤ 4096) (hi : 0 ≤ i) : ∃ n i' h', spec_l2Turns.f l i h = some (n, i', h') ∧ I64 n ∧ 0 ≤ i' := by
  unfold spec_l2Turns.f
  obtain ⟨o, i1, h1, e1, hi1⟩ := dOnce h (n := 6) hl hi (by omega)
  cases o with
  | true =>
    obtain ⟨n, i2, h2, e2, hn, hi2⟩ := dOdd h1 hl hi1
    simp only [e1, e2, Option.bind_some, if_true]
    exact ⟨_, _, _, rfl, hn, hi2⟩
  | false =>
    obtain ⟨n, i2, h2, e2, hn, hi2⟩ := dBelow h1 (n := 12) hl hi1 (by omega)
    simp only [e1, e2, Option.bind_some, Bool.false_eq_true, if_false]
    exact ⟨_, _, _, rfl, by rw [w64 (by omega) (by omega)]; unfold I64; omega, hi2⟩

theorem dHeading {l : List Int} {i : Int} (h : Int) (hl : l.length ≤ 4096) (hi : 0 ≤ i) : ∃ n i' h', spec_l2Heading.f l i h = some (n, i', h') ∧ I64 n ∧ 0 ≤ i' := by
  unfold spec_l2Heading.f
  obtain ⟨o, i1, h1, e1, hi1⟩ := dOnce h (n := 12) hl hi (by omega)
  cases o with
  | true =>
    obtain ⟨n, i2, h2, e2, hn, hi2⟩ := dOdd h1 hl hi1
    simp only [e1, e2, Option.bind_some, if_true]
    exact ⟨_, _, _, rfl, hn, hi2⟩
  | false =>
    obtain ⟨n, i2, h2, e2, hn, hi2⟩ := dBelow h1 (n := 4) hl hi1 (by omega)
    simp only [e1, e2, Option.bind_some, Bool.false_eq_true, if_false]
    exact ⟨_, _, _, rfl, by unfold I64; omega, hi2⟩

theorem tr_add (m n x y : Int) : tr (m % 4) (tr (n % 4) x y).1 (tr (n % 4) x y).2 = tr ((n + m) % 4) x y := by
  have hm : m % 4 = 0 ∨ m % 4 = 1 ∨ m % 4 = 2 ∨ m % 4 = 3 := by omega
  have hn : n % 4 = 0 ∨ n % 4 = 1 ∨ n % 4 = 2 ∨ n % 4 = 3 := by omega
  rcases hm with hm | hm | hm | hm <;> rcases hn with hn | hn | hn | hn
  · rw [hm, hn, show (n + m) % 4 = 0 by omega]; simp [tr]
  · rw [hm, hn, show (n + m) % 4 = 1 by omega]; simp [tr]
  · rw [hm, hn, show (n + m) % 4 = 2 by omega]; simp [tr]
  · rw [hm, hn, show (n + m) % 4 = 3 by omega]; simp [tr]
  · rw [hm, hn, show (n + m) % 4 = 1 by omega]; simp [tr]
  · rw [hm, hn, show (n + m) % 4 = 2 by omega]; simp [tr]
  · rw [hm, hn, show (n + m) % 4 = 3 by omega]; simp [tr]
  · rw [hm, hn, show (n + m) % 4 = 0 by omega]; simp [tr]
  · rw [hm, hn, show (n + m) % 4 = 2 by omega]; simp [tr]
  · rw [hm, hn, show (n + m) % 4 = 3 by omega]; simp [tr]
  · rw [hm, hn, show (n + m) % 4 = 0 by omega]; simp [tr]
  · rw [hm, hn, show (n + m) % 4 = 1 by omega]; simp [tr]
  · rw [hm, hn, show (n + m) % 4 = 3 by omega]; simp [tr]
  · rw [hm, hn, show (n + m) % 4 = 0 by omega]; simp [tr]
  · rw [hm, hn, show (n + m) % 4 = 1 by omega]; simp [tr]
  · rw [hm, hn, show (n + m) % 4 = 2 by omega]; simp [tr]
theorem tr_zero (x y : Int) : tr (0 % 4) x y = (x, y) := by simp [tr]
theorem tr_norm (m x y : Int) : (tr m x y).1 * (tr m x y).1 + (tr m x y).2 * (tr m x y).2 = x * x + y * y := by
  unfold tr
  split
  · rfl
  · split
    · simp only [Int.neg_mul_neg]; omega
    · split
      · simp only [Int.neg_mul_neg]
      · simp only [Int.neg_mul_neg]; omega
theorem tmod4' (n : Int) : Int.tmod n 4 % 4 = n % 4 ∧ -3 ≤ Int.tmod n 4 ∧ Int.tmod n 4 ≤ 3 := by
  have h := tmod4 n
  by_cases h1 : Int.tmod n 4 < 0 <;> omega
theorem sq_bd {x : Int} (h : -4096 ≤ x ∧ x ≤ 4096) : 0 ≤ x * x ∧ x * x ≤ 16777216 := by
  rcases Int.le_total 0 x with h0 | h0
  · exact ⟨Int.mul_nonneg h0 h0, by have := Int.mul_le_mul h.2 h.2 h0 (by omega : (0 : Int) ≤ 4096); omega⟩
  · have := Int.mul_le_mul (show -x ≤ 4096 by omega) (show -x ≤ 4096 by omega) (by omega) (by omega : (0 : Int) ≤ 4096)
    have h2 := Int.mul_nonneg (show 0 ≤ -x by omega) (show 0 ≤ -x by omega)
    rw [Int.neg_mul_neg] at this h2
    omega

theorem PL_tr {m x y : Int} (h : PL x y) : PL (tr m x y).1 (tr m x y).2 := by
  unfold PL at h ⊢
  have := tr_bd (m := m) (x := x) (y := y) (b := 4096) (by omega) (by omega)
  omega

theorem FnTurns : laws_FnTurns.Pure := by
  intro l _ _ _
  refine Ev.rounds (r := true) ?_
  unfold laws_FnTurns.f
  simp only [lawBig, Option.bind_some]
  by_cases hb : (l.length : Int) > 4096
  · simp only [hb, decide_true, if_true]
    exact Ev.now _
  · simp only [hb, decide_false, Bool.false_eq_true, if_false]
    have hl : l.length ≤ 4096 := by omega
    obtain ⟨h0, e0⟩ := dNew l hl
    obtain ⟨x, y, i1, h1, e1, hx, hy, hi1⟩ := dAny (i := 0) h0 hl (by omega)
    obtain ⟨n, i2, h2, e2, hn, hi2⟩ := dTurns h1 hl hi1
    obtain ⟨hd, i3, h3, e3, hhd, hi3⟩ := dHeading (i := 0) h0 hl (by omega)
    obtain ⟨m, i4, h4, e4, hm, hi4⟩ := dTurns h3 hl hi3
    have ed : Ev (fun k => spec_DrawTurnPlace.f k l) (x, y, n) := by
      unfold spec_DrawTurnPlace.f
      refine Ev.bind e0 (Ev.bind e1 ?_)
      simp only [e2, Option.bind_some]
      exact Ev.now _
    have eh : Ev (fun k => spec_DrawTurnHeading.f k l) (hd, m) := by
      unfold spec_DrawTurnHeading.f
      refine Ev.bind e0 ?_
      simp only [e3, e4, Option.bind_some]
      exact Ev.now _
    refine Ev.bind ed (Ev.bind eh ?_)
    simp only [iPL, sPL, Option.bind_some, bne_self_eq_false, Bool.false_eq_true, if_false]
    by_cases hp : PL x y
    · simp only [hp, decide_true, if_true]
      refine Ev.bind (iTurnPlace x y n) ?_
      have hq : PL (tr (n % 4) x y).1 (tr (n % 4) x y).2 := PL_tr hp
      have e5 : tpV x y n = tr (n % 4) x y := by unfold tpV; rw [if_pos hp]
      rw [e5]
      have t1 := tmod4' n
      have t2 := tmod4' m
      rw [w64 (x := 4 - Int.tmod n 4) (by omega) (by omega)]
      refine Ev.bind (iTurnPlace _ _ (4 - Int.tmod n 4)) ?_
      have e6 : tpV (tr (n % 4) x y).1 (tr (n % 4) x y).2 (4 - Int.tmod n 4) = (x, y) := by
        unfold tpV
        rw [if_pos hq, tr_add, show (n + (4 - Int.tmod n 4)) % 4 = 0 % 4 by omega, tr_zero]
      rw [e6]
      have sx := sq_bd (x := x) (by unfold PL at hp; omega)
      have sy := sq_bd (x := y) (by unfold PL at hp; omega)
      have sx' := sq_bd (x := (tr (n % 4) x y).1) (by unfold PL at hq; omega)
      have sy' := sq_bd (x := (tr (n % 4) x y).2) (by unfold PL at hq; omega)
      have hnorm := tr_norm (n % 4) x y
      simp only [beq_self_eq_true, Bool.not_true, Bool.or_self, Bool.false_eq_true, if_false]
      rw [w64 (x := x * x) (by omega) (by omega), w64 (x := y * y) (by omega) (by omega), w64 (x := (tr (n % 4) x y).1 * (tr (n % 4) x y).1) (by omega) (by omega), w64 (x := (tr (n % 4) x y).2 * (tr (n % 4) x y).2) (by omega) (by omega), hnorm]
      simp only [if_true]
      refine Ev.bind (iTurnPlace x y (Int.tmod n 4)) ?_
      have e7 : tpV x y (Int.tmod n 4) = tr (n % 4) x y := by unfold tpV; rw [if_pos hp, t1.1]
      rw [e7]
      simp only [beq_self_eq_true, Bool.not_true, Bool.or_self]
      refine Ev.succ' ?_
      simp only [laws_FnTurns.j0, Bool.false_eq_true, if_false]
      rw [w64 (x := Int.tmod n 4 + Int.tmod m 4) (by omega) (by omega), w64 (x := Int.tmod m 4 + Int.tmod n 4) (by omega) (by omega)]
      refine Ev.bind (iTurnPlace _ _ (Int.tmod m 4)) (Ev.bind (iTurnPlace x y (Int.tmod n 4 + Int.tmod m 4)) ?_)
      have e8 : tpV (tr (n % 4) x y).1 (tr (n % 4) x y).2 (Int.tmod m 4) = tpV x y (Int.tmod n 4 + Int.tmod m 4) := by
        unfold tpV
        rw [if_pos hq, if_pos hp, tr_add, show (n + Int.tmod m 4) % 4 = (Int.tmod n 4 + Int.tmod m 4) % 4 by omega]
      rw [e8]
      simp only [beq_self_eq_true, Bool.not_true, Bool.or_self, Bool.false_eq_true, if_false, iIsHeading, iTurnHeading, Option.bind_some]
      by_cases hh : 0 ≤ hd ∧ hd ≤ 3
      · simp only [hh, and_self, decide_true, if_true]
        have hr : 0 ≤ (hd + m) % 4 ∧ (hd + m) % 4 ≤ 3 := by omega
        simp only [hr, and_self, decide_true, if_true, show ((hd + m) % 4 + Int.tmod n 4) % 4 = (hd + (Int.tmod m 4 + Int.tmod n 4)) % 4 by omega]
        exact Ev.now _
      · simp only [hh, decide_false, Bool.false_eq_true, if_false]
        exact Ev.now _
    · simp only [hp, decide_false, Bool.false_eq_true, if_false]
      refine Ev.bind (iTurnPlace x y n) ?_
      rw [show tpV x y n = (0, 0) by unfold tpV; rw [if_neg hp]]
      exact Ev.now _

end Go.Proofs.Ytkioodeeadhdaaa.Pure
