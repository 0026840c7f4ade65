/- The plain law behind FnBoxes: for every input that the row lets in, the printed function of the law answers true. No condition beyond the bounds that the statement names. -/
import Derived.Test.YtkioodeeadhdaaaQFnBoxes
namespace Go.Proofs.Ytkioodeeadhdaaa.Pure
open Go.RowKit Go.Proofs.Ytkioodeeadhdaaa.PFnBoxes Go.Proofs.YtkioodeeadhdaaaW.PrintWords Go.Proofs.YtkioodeeadhdaaaW.PrintLast
open Go.Proofs.YtkioodeeadhdaaaW.PrintMore
set_option linter.unusedVariables false
set_option linter.unusedSimpArgs false

theorem w64 {x : Int} (h0 : -9223372036854775808 ≤ x) (h1 : x ≤ 9223372036854775807) : wrap64 x = x := by unfold wrap64; omega
theorem wfb {a : Int} (h : (Lit.int .i64 a).wf = true) : -9223372036854775808 ≤ a ∧ a ≤ 9223372036854775807 := by
  simp [Lit.wf, IntKind.min, IntKind.max, IntKind.signed, IntKind.bits] at h
  omega
theorem Ev.succ' {α : Type} {g : Nat → Option α} {r : α} (h : Ev (fun k => g (k + 1)) r) : Ev g r := Ev.step (fun _ => rfl) h
theorem dec_congr {p q : Prop} [Decidable p] [Decidable q] (h : p ↔ q) : decide p = decide q := by simp [h]

theorem sIsMeasure (x : Int) : spec_IsMeasure.f x = some (decide (-4096 ≤ x ∧ x ≤ 4096)) := by
  unfold spec_IsMeasure.f
  split <;> simp <;> omega

theorem iWithin (a b c : Int) : impl_isWithin.f a b c = some (decide (b ≤ a ∧ a ≤ c)) := by
  unfold impl_isWithin.f
  split <;> simp <;> omega

theorem iIsMeasure (x : Int) : impl_IsMeasure.f x = some (decide (-4096 ≤ x ∧ x ≤ 4096)) := by
  unfold impl_IsMeasure.f
  rw [iWithin]
  rfl

theorem sIsPlace (x y : Int) : spec_IsPlace.f x y = some (decide ((-4096 ≤ x ∧ x ≤ 4096) ∧ (-4096 ≤ y ∧ y ≤ 4096))) := by
  unfold spec_IsPlace.f
  simp only [sIsMeasure, Option.bind_some]
  split <;> rename_i h <;> simp at h ⊢ <;> omega

theorem iIsPlace (x y : Int) : impl_IsPlace.f x y = some (decide ((-4096 ≤ x ∧ x ≤ 4096) ∧ (-4096 ≤ y ∧ y ≤ 4096))) := by
  unfold impl_IsPlace.f
  simp only [iIsMeasure, Option.bind_some]
  split <;> rename_i h <;> simp at h ⊢ <;> omega

def BoxOK (x y u v : Int) : Prop := ((-4096 ≤ x ∧ x ≤ 4096) ∧ (-4096 ≤ y ∧ y ≤ 4096)) ∧ ((-4096 ≤ u ∧ u ≤ 4096) ∧ (-4096 ≤ v ∧ v ≤ 4096)) ∧ x ≤ u ∧ y ≤ v
instance (x y u v : Int) : Decidable (BoxOK x y u v) := by unfold BoxOK; infer_instance

theorem sIsBox (x y u v : Int) : spec_IsBox.f x y u v = some (decide (BoxOK x y u v)) := by
  unfold spec_IsBox.f
  simp only [BoxOK]
  simp only [sIsPlace, Option.bind_some]
  by_cases h1 : (-4096 ≤ x ∧ x ≤ 4096) ∧ (-4096 ≤ y ∧ y ≤ 4096) <;> by_cases h2 : (-4096 ≤ u ∧ u ≤ 4096) ∧ (-4096 ≤ v ∧ v ≤ 4096) <;> by_cases h3 : x ≤ u <;> simp [h1, h2, h3]

theorem iIsBox (x y u v : Int) : impl_IsBox.f x y u v = some (decide (BoxOK x y u v)) := by
  unfold impl_IsBox.f
  simp only [BoxOK]
  simp only [iIsPlace, Option.bind_some]
  by_cases h1 : (-4096 ≤ x ∧ x ≤ 4096) ∧ (-4096 ≤ y ∧ y ≤ 4096) <;> by_cases h2 : (-4096 ≤ u ∧ u ≤ 4096) ∧ (-4096 ≤ v ∧ v ≤ 4096) <;> by_cases h3 : x ≤ u <;> simp [h1, h2, h3]

theorem iInBox (x y u v p q : Int) : impl_InBox.f x y u v p q = some (decide (BoxOK x y u v ∧ (x ≤ p ∧ p ≤ u) ∧ (y ≤ q ∧ q ≤ v))) := by
  unfold impl_InBox.f
  simp only [iIsBox, iWithin, Option.bind_some]
  by_cases h : BoxOK x y u v
  · simp only [h, decide_true, if_true, true_and]
    by_cases h1 : x ≤ p <;> by_cases h2 : p ≤ u <;> by_cases h3 : y ≤ q <;> simp [h1, h2, h3]
  · simp [h]

theorem tmod_pos {a b : Int} (h : 0 ≤ a) : Int.tmod a b = a % b := Int.tmod_eq_emod_of_nonneg h
theorem tmod_neg' (a b : Int) : Int.tmod (-a) b = -(Int.tmod a b) := Int.neg_tmod a b
theorem tdiv_pos {a b : Int} (h : 0 ≤ a) : Int.tdiv a b = a / b := Int.tdiv_eq_ediv_of_nonneg h
theorem tmod4 (n : Int) : (Int.tmod n 4 < 0 → Int.tmod n 4 + 4 = n % 4) ∧ (¬ Int.tmod n 4 < 0 → Int.tmod n 4 = n % 4) ∧ -3 ≤ Int.tmod n 4 ∧ Int.tmod n 4 ≤ 3 := by
  rcases Int.le_total 0 n with h | h
  · rw [tmod_pos h]; omega
  · obtain ⟨m, rfl⟩ : ∃ m, n = -m := ⟨-n, by omega⟩
    rw [tmod_neg', tmod_pos (by omega)]; omega

theorem iTurns (n : Int) : impl_turns.f n = some (n % 4) := by
  have h := tmod4 n
  unfold impl_turns.f
  rw [w64 (by omega) (by omega), tmod_pos (by omega)]
  simp
  by_cases h1 : Int.tmod n 4 < 0 <;> omega

def PL (x y : Int) : Prop := (-4096 ≤ x ∧ x ≤ 4096) ∧ (-4096 ≤ y ∧ y ≤ 4096)
instance (x y : Int) : Decidable (PL x y) := by unfold PL; infer_instance

theorem iPL (x y : Int) : impl_IsPlace.f x y = some (decide (PL x y)) := iIsPlace x y

def tr (m x y : Int) : Int × Int := if m = 0 then (x, y) else if m = 1 then (-y, x) else if m = 2 then (-x, -y) else (y, -x)
theorem tr0 (x y : Int) : tr 0 x y = (x, y) := by simp [tr]
theorem tr1 (x y : Int) : tr 1 x y = (-y, x) := by simp [tr]
theorem tr2 (x y : Int) : tr 2 x y = (-x, -y) := by simp [tr]
theorem tr3 (x y : Int) : tr 3 x y = (y, -x) := by simp [tr]
theorem tr_bd {m x y b : Int} (hx : -b ≤ x ∧ x ≤ b) (hy : -b ≤ y ∧ y ≤ b) : (-b ≤ (tr m x y).1 ∧ (tr m x y).1 ≤ b) ∧ (-b ≤ (tr m x y).2 ∧ (tr m x y).2 ≤ b) := by
  unfold tr
  split
  · simp; omega
  · split
    · simp; omega
    · split <;> simp <;> omega

theorem iTurnL {x y : Int} (m : Int) (hm : 0 ≤ m ∧ m ≤ 3) (hx : -1000000000 ≤ x ∧ x ≤ 1000000000) (hy : -1000000000 ≤ y ∧ y ≤ 1000000000) : Ev (fun k => impl_turned.l0 k m 0 x y) (tr m x y) := by
  have e : ∀ m x y : Int, Ev (fun k => impl_turned.l0 k m m x y) (x, y) := fun m x y => Ev.step (f := fun _ => some (x, y)) (fun k => by simp only [impl_turned.l0]; rw [if_neg (by omega)]) (Ev.now _)
  have s : ∀ (m i i' x y : Int) (r : Int × Int), i' = i + 1 → 0 ≤ i → i < m → m ≤ 3 → (-1000000000 ≤ y ∧ y ≤ 1000000000) → Ev (fun k => impl_turned.l0 k m i' (-y) x) r → Ev (fun k => impl_turned.l0 k m i x y) r := fun m i i' x y r hi' h0 h1 h3 hy h => by
    refine Ev.step (fun k => ?_) h
    simp only [impl_turned.l0]
    rw [if_pos (by omega), w64 (x := i + 1) (by omega) (by omega), w64 (x := -y) (by omega) (by omega), hi']
  have : m = 0 ∨ m = 1 ∨ m = 2 ∨ m = 3 := by omega
  rcases this with rfl | rfl | rfl | rfl
  · rw [tr0]; exact e 0 x y
  · rw [tr1]; exact s 1 0 1 _ _ _ (by omega) (by omega) (by omega) (by omega) hy (e 1 _ _)
  · rw [tr2]; exact s 2 0 1 _ _ _ (by omega) (by omega) (by omega) (by omega) hy (s 2 1 2 _ _ _ (by omega) (by omega) (by omega) (by omega) hx (e 2 _ _))
  · rw [tr3]
    have := s 3 0 1 _ _ _ (by omega) (by omega) (by omega) (by omega) hy (s 3 1 2 _ _ _ (by omega) (by omega) (by omega) (by omega) hx (s 3 2 3 _ _ _ (by omega) (by omega) (by omega) (by omega) (by omega) (e 3 _ _)))
    rwa [Int.neg_neg] at this

theorem iTurn {x y : Int} (n : Int) (hx : -1000000000 ≤ x ∧ x ≤ 1000000000) (hy : -1000000000 ≤ y ∧ y ≤ 1000000000) : Ev (fun k => impl_turned.f k x y n) (tr (n % 4) x y) := by
  unfold impl_turned.f
  simp only [iTurns, Option.bind_some]
  exact iTurnL _ (by omega) hx hy

def tpV (x y n : Int) : Int × Int := if PL x y then tr (n % 4) x y else (0, 0)

theorem iTurnPlace (x y n : Int) : Ev (fun k => impl_TurnPlace.f k x y n) (tpV x y n) := by
  unfold impl_TurnPlace.f tpV
  simp only [iPL, Option.bind_some]
  by_cases h : PL x y
  · simp only [h, decide_true, if_true]
    unfold PL at h
    exact Ev.bind (iTurn n (by omega) (by omega)) (Ev.now _)
  · simp only [h, decide_false, if_false]
    exact Ev.now _

theorem getD_get {α : Type} (l : List α) (d : α) (i : Int) (h0 : 0 ≤ i) (h1 : i < l.length) : l[i.toNat]? = some (l.getD i.toNat d) := by
  rw [List.getD_eq_getElem?_getD]
  obtain ⟨v, hv⟩ : ∃ v, l[i.toNat]? = some v := ⟨_, List.getElem?_eq_getElem (by omega)⟩
  rw [hv]; rfl

theorem and255 (x : Int) : 0 ≤ bits .and .i64 x 255 ∧ bits .and .i64 x 255 ≤ 255 := by
  simp only [bits]
  have h : ((BitVec.ofInt IntKind.i64.bits x &&& BitVec.ofInt IntKind.i64.bits 255).toNat : Int) ≤ 255 := by
    rw [BitVec.toNat_and]
    have : (BitVec.ofInt IntKind.i64.bits x).toNat &&& (BitVec.ofInt IntKind.i64.bits 255).toNat ≤ 255 := Nat.le_trans Nat.and_le_right (by decide)
    omega
  have h0 : (0 : Int) ≤ ((BitVec.ofInt IntKind.i64.bits x &&& BitVec.ofInt IntKind.i64.bits 255).toNat : Int) := Int.natCast_nonneg _
  generalize ((BitVec.ofInt IntKind.i64.bits x &&& BitVec.ofInt IntKind.i64.bits 255).toNat : Int) = z at h h0
  have e : IntKind.i64.wrap z = z := by
    simp [IntKind.wrap, IntKind.bits, IntKind.signed]
    split <;> omega
  rw [e]
  exact ⟨h0, h⟩
theorem dByte {l : List Int} {i : Int} (h : Int) (hl : l.length ≤ 4096) (hi : 0 ≤ i) : ∃ x i' h', spec_l1Byte.f l i h = some (x, i', h') ∧ (0 ≤ x ∧ x ≤ 255) ∧ 0 ≤ i' := by
  unfold spec_l1Byte.f
  by_cases hlt : i < (l.length : Int)
  · rw [if_pos hlt, if_pos hi]
    exact ⟨_, _, _, rfl, and255 _, by rw [w64 (by omega) (by omega)]; omega⟩
  · rw [if_neg hlt]
    exact ⟨_, _, _, rfl, and255 _, hi⟩

theorem tmod_bd {a n : Int} (ha : 0 ≤ a) (hn : 0 < n) : 0 ≤ Int.tmod a n ∧ Int.tmod a n < n := by
  rw [tmod_pos ha]
  exact ⟨Int.emod_nonneg _ (by omega), Int.emod_lt_of_pos _ hn⟩
theorem dBelow {l : List Int} {i : Int} (h : Int) {n : Int} (hl : l.length ≤ 4096) (hi : 0 ≤ i) (hn : 0 < n) : ∃ x i' h', spec_l1Below.f l i h n = some (x, i', h') ∧ (0 ≤ x ∧ x < n) ∧ 0 ≤ i' := by
  unfold spec_l1Below.f
  rw [if_neg (by omega)]
  split
  · obtain ⟨x, i1, h1, e, hx, hi1⟩ := dByte h hl hi
    rw [e]
    simp only [Option.bind_some]
    rw [if_neg (by omega)]
    exact ⟨_, _, _, rfl, tmod_bd hx.1 hn, hi1⟩
  · obtain ⟨x, i1, h1, e1, hx, hi1⟩ := dByte h hl hi
    rw [e1]
    simp only [Option.bind_some]
    obtain ⟨y, i2, h2, e2, hy, hi2⟩ := dByte h1 hl hi1
    rw [e2]
    simp only [Option.bind_some]
    obtain ⟨z, i3, h3, e3, hz, hi3⟩ := dByte h2 hl hi2
    rw [e3]
    simp only [Option.bind_some]
    rw [if_neg (by omega)]
    refine ⟨_, _, _, rfl, tmod_bd ?_ hn, hi3⟩
    rw [w64 (x := x * 65536) (by omega) (by omega), w64 (x := y * 256) (by omega) (by omega), w64 (x := x * 65536 + y * 256) (by omega) (by omega), w64 (x := x * 65536 + y * 256 + z) (by omega) (by omega)]
    omega

theorem dSome {l : List Int} {i : Int} (h : Int) {a b : Int} (hl : l.length ≤ 4096) (hi : 0 ≤ i) (hab : -1000000 ≤ a ∧ a ≤ b ∧ b ≤ 1000000) : ∃ x i' h', spec_l1Some.f l i h a b = some (x, i', h') ∧ (a ≤ x ∧ x ≤ b) ∧ 0 ≤ i' := by
  unfold spec_l1Some.f
  rw [w64 (x := b - a) (by omega) (by omega), w64 (x := b - a + 1) (by omega) (by omega)]
  obtain ⟨x, i1, h1, e, hx, hi1⟩ := dBelow h hl hi (show 0 < b - a + 1 by omega)
  rw [e]
  simp only [Option.bind_some]
  refine ⟨_, _, _, rfl, ?_, hi1⟩
  rw [w64 (by omega) (by omega)]
  omega

theorem dOnce {l : List Int} {i : Int} (h : Int) {n : Int} (hl : l.length ≤ 4096) (hi : 0 ≤ i) (hn : 0 < n) : ∃ x i' h', spec_l1Once.f l i h n = some (x, i', h') ∧ 0 ≤ i' := by
  unfold spec_l1Once.f
  obtain ⟨x, i1, h1, e, hx, hi1⟩ := dBelow h hl hi hn
  rw [e]
  simp only [Option.bind_some]
  exact ⟨_, _, _, rfl, hi1⟩

theorem dInt {l : List Int} {i : Int} (h : Int) {m : List Int} (hl : l.length ≤ 4096) (hi : 0 ≤ i) (hm : 0 < m.length) : ∃ x i' h', spec_l1Int.f l i h m = some (x, i', h') ∧ x ∈ m ∧ 0 ≤ i' := by
  unfold spec_l1Int.f
  obtain ⟨x, i1, h1, e, hx, hi1⟩ := dBelow h hl hi (show 0 < (m.length : Int) by omega)
  rw [e]
  simp only [Option.bind_some]
  rw [if_pos hx.1, if_pos hx.2]
  refine ⟨_, _, _, rfl, ?_, hi1⟩
  unfold rd
  rw [List.getD_eq_getElem?_getD, List.getElem?_eq_getElem (by omega)]
  exact List.getElem_mem _

def I64 (x : Int) : Prop := -9223372036854775808 ≤ x ∧ x ≤ 9223372036854775807

theorem dOdd {l : List Int} {i : Int} (h : Int) (hl : l.length ≤ 4096) (hi : 0 ≤ i) : ∃ x i' h', spec_l1Odd.f l i h = some (x, i', h') ∧ I64 x ∧ 0 ≤ i' := by
  unfold spec_l1Odd.f
  obtain ⟨x, i1, h1, e, hx, hi1⟩ := dInt h (m := [(-1), 0, 1, 2, 3, 7, 8, 9, 15, 16, 17, 63, 64, 65, 999, 1000, 4096, 4097, 9223372036854775807, (-9223372036854775808)]) hl hi (by simp)
  rw [e]
  simp only [Option.bind_some]
  refine ⟨_, _, _, rfl, ?_, hi1⟩
  unfold I64
  simp only [List.mem_cons, List.not_mem_nil, or_false] at hx
  omega

theorem new_loop (l : List Int) (hl : l.length ≤ 4096) (d : Nat) : ∀ (i h : Int), 0 ≤ i → (l.length : Int) - i = d → ∃ h', Ev (fun k => spec_l1New.l0 k l h i) (l, 0, h') := by
  induction d with
  | zero =>
    intro i h h0 hd
    refine ⟨h, Ev.succ' ?_⟩
    simp only [spec_l1New.l0, if_neg (show ¬ i < (l.length : Int) by omega)]
    exact Ev.now _
  | succ d ih =>
    intro i h h0 hd
    by_cases h4 : i < 4000
    · obtain ⟨h', e⟩ := ih (i + 1) (bits .and .i64 (wrap64 ((wrap64 ((wrap64 (h * 167)) + (wrap64 (rd l i)))) + 29)) 1073741823) (by omega) (by omega)
      refine ⟨h', Ev.succ' ?_⟩
      simp only [spec_l1New.l0, if_pos (show i < (l.length : Int) by omega), if_pos h4, if_pos h0]
      rw [w64 (x := i + 1) (by omega) (by omega)]
      exact e
    · refine ⟨h, Ev.succ' ?_⟩
      simp only [spec_l1New.l0, if_pos (show i < (l.length : Int) by omega), if_neg h4]
      exact Ev.now _
theorem dNew (l : List Int) (hl : l.length ≤ 4096) : ∃ h, Ev (fun k => spec_l1New.f k l) (l, 0, h) := by
  unfold spec_l1New.f
  exact new_loop l hl l.length 0 _ (by omega) (by omega)

theorem lawBig (l : List Int) : laws_big.f l = some (decide ((l.length : Int) > 4096)) := rfl

theorem dPlace {l : List Int} {i : Int} (h : Int) (hl : l.length ≤ 4096) (hi : 0 ≤ i) : ∃ x y i' h', spec_l2Draw.f l i h = some (x, y, i', h') ∧ (-64 ≤ x ∧ x ≤ 64) ∧ (-64 ≤ y ∧ y ≤ 64) ∧ 0 ≤ i' := by
  unfold spec_l2Draw.f
  obtain ⟨x, i1, h1, e1, hx, hi1⟩ := dSome h (a := -64) (b := 64) hl hi (by omega)
  rw [e1]
  simp only [Option.bind_some]
  obtain ⟨y, i2, h2, e2, hy, hi2⟩ := dSome h1 (a := -64) (b := 64) hl hi1 (by omega)
  rw [e2]
  simp only [Option.bind_some]
  exact ⟨_, _, _, _, rfl, hx, hy, hi2⟩

theorem dAny {l : List Int} {i : Int} (h : Int) (hl : l.length ≤ 4096) (hi : 0 ≤ i) : ∃ x y i' h', Ev (fun k => spec_l2Any.f k l i h) (x, y, i', h') ∧ I64 x ∧ (-5000 ≤ y ∧ y ≤ 5000) ∧ 0 ≤ i' := by
  unfold spec_l2Any.f
  obtain ⟨x, y, i1, h1, e1, hx, hy, hi1⟩ := dPlace h hl hi
  obtain ⟨o, i2, h2, e2, hi2⟩ := dOnce h1 (n := 9) hl hi1 (by omega)
  have hj : ∀ (x' i3 h3 : Int), I64 x' → 0 ≤ i3 → ∃ x y1 i' h', Ev (fun k => spec_l2Any.j0 k l i3 h3 x' y) (x, y1, i', h') ∧ I64 x ∧ (-5000 ≤ y1 ∧ y1 ≤ 5000) ∧ 0 ≤ i' := fun x' i3 h3 hx' hi3 => by
    obtain ⟨o, i4, h4, e4, hi4⟩ := dOnce h3 (n := 9) hl hi3 (by omega)
    cases o with
    | true =>
      obtain ⟨z, i5, h5, e5, hz, hi5⟩ := dInt h4 (m := [4096, (-4096), 4097, (-4097), 4090]) hl hi4 (by simp)
      refine ⟨x', z, i5, h5, Ev.succ' ?_, hx', ?_, hi5⟩
      · simp only [spec_l2Any.j0, e4, e5, Option.bind_some, if_true]
        exact Ev.now _
      · simp only [List.mem_cons, List.not_mem_nil, or_false] at hz
        omega
    | false =>
      refine ⟨x', y, i4, h4, Ev.succ' ?_, hx', by omega, hi4⟩
      simp only [spec_l2Any.j0, e4, Option.bind_some, Bool.false_eq_true, if_false]
      exact Ev.now _
  cases o with
  | true =>
    obtain ⟨x', i3, h3, e3, hx', hi3⟩ := dOdd h2 hl hi2
    obtain ⟨a, b, i', h', e, r⟩ := hj x' i3 h3 hx' hi3
    refine ⟨a, b, i', h', ?_, r⟩
    simp only [e1, e2, e3, Option.bind_some, if_true]
    exact e
  | false =>
    obtain ⟨a, b, i', h', e, r⟩ := hj x i2 h2 (by unfold I64; omega) hi2
    refine ⟨a, b, i', h', ?_, r⟩
    simp only [e1, e2, Option.bind_some, Bool.false_eq_true, if_false]
    exact e

theorem drawList_loop {l : List Int} (hl : l.length ≤ 4096) (d : Nat) : ∀ (acc : List S25) (n i h : Int), 0 ≤ i → n ≤ d → acc.length + d ≤ 100 →
    ∃ L i' h', Ev (fun k => spec_l2List.l0 k acc n l i h) (L, i', h') ∧ L.length ≤ 101 ∧ 0 ≤ i' := by
  have fin : ∀ (acc : List S25) (n i h : Int), 0 ≤ i → ¬ n > 0 → acc.length ≤ 100 → ∃ L i' h', Ev (fun k => spec_l2List.l0 k acc n l i h) (L, i', h') ∧ L.length ≤ 101 ∧ 0 ≤ i' := by
    intro acc n i h hi hn ha
    obtain ⟨b, i1, h1, e1, hi1⟩ := dOnce h (n := 8) hl hi (by omega)
    cases b with
    | true =>
      obtain ⟨x, y, i2, h2, e2, _, _, hi2⟩ := dAny h1 hl hi1
      refine ⟨acc ++ [⟨x, y⟩], i2, h2, Ev.succ' ?_, by simp; omega, hi2⟩
      simp only [spec_l2List.l0, if_neg hn, e1, Option.bind_some, if_true]
      refine Ev.bind e2 ?_
      simp only [if_pos (show acc.length < 8796093022208 by omega)]
      exact Ev.now _
    | false =>
      refine ⟨acc, i1, h1, Ev.succ' ?_, by omega, hi1⟩
      simp only [spec_l2List.l0, if_neg hn, e1, Option.bind_some, Bool.false_eq_true, if_false]
      exact Ev.now _
  induction d with
  | zero => intro acc n i h hi hn ha; exact fin acc n i h hi (by omega) (by omega)
  | succ d ih =>
    intro acc n i h hi hn ha
    by_cases hz : n > 0
    · have hfalse : ∀ (i h : Int), 0 ≤ i → ∃ L i' h', Ev (fun k => spec_l2List.j1 k acc n false l i h) (L, i', h') ∧ L.length ≤ 101 ∧ 0 ≤ i' := fun i h hi => by
        obtain ⟨x, i1, h1, e1, hx, hi1⟩ := dSome h (a := -3) (b := 3) hl hi (by omega)
        obtain ⟨y, i2, h2, e2, hy, hi2⟩ := dSome h1 (a := -3) (b := 3) hl hi1 (by omega)
        obtain ⟨L, i', h', e3, hL, hi'⟩ := ih (acc ++ [⟨x, y⟩]) (n - 1) i2 h2 hi2 (by omega) (by simp; omega)
        refine ⟨L, i', h', Ev.succ' ?_, hL, hi'⟩
        simp only [spec_l2List.j1, Bool.false_eq_true, if_false, e1, e2, Option.bind_some, if_pos (show acc.length < 8796093022208 by omega)]
        rw [show wrap64 (n - 1) = n - 1 from w64 (by omega) (by omega)]
        exact e3
      by_cases hp : (acc.length : Int) > 0
      · obtain ⟨b, i1, h1, e1, hi1⟩ := dOnce h (n := 4) hl hi (by omega)
        cases b with
        | true =>
          obtain ⟨c, i2, h2, e2, hc, hi2⟩ := dBelow h1 (n := (acc.length : Int)) hl hi1 hp
          obtain ⟨L, i', h', e3, hL, hi'⟩ := ih (acc ++ [⟨(rd_T25 acc c).f0, (rd_T25 acc c).f1⟩]) (n - 1) i2 h2 hi2 (by omega) (by simp; omega)
          refine ⟨L, i', h', Ev.succ' ?_, hL, hi'⟩
          simp only [spec_l2List.l0, if_pos hz, if_pos hp, e1, Option.bind_some]
          refine Ev.succ' ?_
          simp only [spec_l2List.j1, if_true, e2, Option.bind_some, if_pos hc.1, if_pos hc.2, if_pos (show acc.length < 8796093022208 by omega)]
          rw [show wrap64 (n - 1) = n - 1 from w64 (by omega) (by omega)]
          exact e3
        | false =>
          obtain ⟨L, i', h', e3, hL, hi'⟩ := hfalse i1 h1 hi1
          refine ⟨L, i', h', Ev.succ' ?_, hL, hi'⟩
          simp only [spec_l2List.l0, if_pos hz, if_pos hp, e1, Option.bind_some]
          exact e3
      · obtain ⟨L, i', h', e3, hL, hi'⟩ := hfalse i h hi
        refine ⟨L, i', h', Ev.succ' ?_, hL, hi'⟩
        simp only [spec_l2List.l0, if_pos hz, if_neg hp]
        exact e3
    · exact fin acc n i h hi hz (by omega)
theorem drawList {l : List Int} {i : Int} (h : Int) (hl : l.length ≤ 4096) (hi : 0 ≤ i) : ∃ L i' h', Ev (fun k => spec_l2List.f k l i h) (L, i', h') ∧ L.length ≤ 101 ∧ 0 ≤ i' := by
  obtain ⟨n, i1, h1, e1, hn, hi1⟩ := dBelow h (n := 8) hl hi (by omega)
  obtain ⟨L, i', h', e2, hL, hi'⟩ := drawList_loop hl 8 [] n i1 h1 hi1 (by omega) (by simp)
  refine ⟨L, i', h', ?_, hL, hi'⟩
  unfold spec_l2List.f
  simp only [e1, Option.bind_some]
  exact e2

def minL (a : Int) (l : List Int) : Int := l.foldl mn a
def maxL (a : Int) (l : List Int) : Int := l.foldl mx a
theorem minL_le (l : List Int) : ∀ a, minL a l ≤ a ∧ (∀ x ∈ l, minL a l ≤ x) ∧ (minL a l = a ∨ minL a l ∈ l) := by
  induction l with
  | nil => intro a; exact ⟨Int.le_refl _, fun x hx => (by cases hx), Or.inl rfl⟩
  | cons b l ih =>
    intro a
    obtain ⟨h1, h2, h3⟩ := ih (mn a b)
    have hm : mn a b ≤ a ∧ mn a b ≤ b ∧ (mn a b = a ∨ mn a b = b) := by unfold mn; split <;> omega
    show minL (mn a b) l ≤ a ∧ (∀ x ∈ b :: l, minL (mn a b) l ≤ x) ∧ (minL (mn a b) l = a ∨ minL (mn a b) l ∈ b :: l)
    refine ⟨by omega, fun x hx => ?_, ?_⟩
    · rcases List.mem_cons.1 hx with rfl | hx
      · omega
      · exact h2 x hx
    · rcases h3 with h3 | h3
      · rcases hm.2.2 with h | h
        · exact Or.inl (h3.trans h)
        · exact Or.inr (by rw [h3, h]; exact List.mem_cons_self ..)
      · exact Or.inr (List.mem_cons_of_mem _ h3)
theorem maxL_ge (l : List Int) : ∀ a, a ≤ maxL a l ∧ (∀ x ∈ l, x ≤ maxL a l) ∧ (maxL a l = a ∨ maxL a l ∈ l) := by
  induction l with
  | nil => intro a; exact ⟨Int.le_refl _, fun x hx => (by cases hx), Or.inl rfl⟩
  | cons b l ih =>
    intro a
    obtain ⟨h1, h2, h3⟩ := ih (mx a b)
    have hm : a ≤ mx a b ∧ b ≤ mx a b ∧ (mx a b = a ∨ mx a b = b) := by unfold mx; split <;> omega
    show a ≤ maxL (mx a b) l ∧ (∀ x ∈ b :: l, x ≤ maxL (mx a b) l) ∧ (maxL (mx a b) l = a ∨ maxL (mx a b) l ∈ b :: l)
    refine ⟨by omega, fun x hx => ?_, ?_⟩
    · rcases List.mem_cons.1 hx with rfl | hx
      · omega
      · exact h2 x hx
    · rcases h3 with h3 | h3
      · rcases hm.2.2 with h | h
        · exact Or.inl (h3.trans h)
        · exact Or.inr (by rw [h3, h]; exact List.mem_cons_self ..)
      · exact Or.inr (List.mem_cons_of_mem _ h3)



/-- The box of places: least and greatest of each. -/
def AllPL (m : List S25) : Prop := ∀ x ∈ m, PL x.f0 x.f1
theorem iBox_loop (m : List S25) (hm : m.length ≤ 1048576) (d : Nat) : ∀ (i : Nat) (a b c e : Int), m.length - i = d → i ≤ m.length →
    (AllPL (m.drop i) → Ev (fun k => impl_BoxOf.l0 k m (m.length : Int) (i : Int) a b c e) (minL a ((m.drop i).map (·.f0)), minL b ((m.drop i).map (·.f1)), maxL c ((m.drop i).map (·.f0)), maxL e ((m.drop i).map (·.f1)), true)) ∧
    (¬ AllPL (m.drop i) → Ev (fun k => impl_BoxOf.l0 k m (m.length : Int) (i : Int) a b c e) (0, 0, 0, 0, false)) := by
  induction d with
  | zero =>
    intro i a b c e hd hi
    have hn : m.drop i = [] := List.drop_eq_nil_of_le (by omega)
    rw [hn]
    refine ⟨fun _ => Ev.succ' ?_, fun h => absurd (fun x hx => (by cases hx)) h⟩
    simp only [impl_BoxOf.l0, if_neg (show ¬ (i : Int) < (m.length : Int) by omega)]
    exact Ev.now _
  | succ d ih =>
    intro i a b c e hd hi
    have hlt : i < m.length := by omega
    have hrd : rd_T25 m (i : Int) = m[i] := by
      unfold rd_T25
      rw [Int.toNat_natCast, List.getD_eq_getElem?_getD, List.getElem?_eq_getElem hlt]
      rfl
    rw [List.drop_eq_getElem_cons hlt]
    by_cases hp : PL m[i].f0 m[i].f1
    · obtain ⟨h1, h2⟩ := ih (i + 1) (mn a m[i].f0) (mn b m[i].f1) (mx c m[i].f0) (mx e m[i].f1) (by omega) (by omega)
      have hs : ∀ r, Ev (fun k => impl_BoxOf.l0 k m (m.length : Int) ((i + 1 : Nat) : Int) (mn a m[i].f0) (mn b m[i].f1) (mx c m[i].f0) (mx e m[i].f1)) r → Ev (fun k => impl_BoxOf.l0 k m (m.length : Int) (i : Int) a b c e) r := fun r hr => by
        refine Ev.succ' ?_
        simp only [impl_BoxOf.l0, if_pos (show (i : Int) < (m.length : Int) by omega), if_pos (show (0 : Int) ≤ (i : Int) by omega), iPL, Option.bind_some, hrd, hp, decide_true, if_true]
        rw [w64 (by omega) (by omega)]
        exact hr
      refine ⟨fun ha => ?_, fun ha => ?_⟩
      · exact hs _ (h1 (fun x hx => ha x (List.mem_cons_of_mem _ hx)))
      · refine hs _ (h2 (fun hc => ha (fun x hx => ?_)))
        rcases List.mem_cons.1 hx with rfl | hx
        · exact hp
        · exact hc x hx
    · refine ⟨fun ha => absurd (ha _ (List.mem_cons_self ..)) hp, fun _ => Ev.succ' ?_⟩
      simp only [impl_BoxOf.l0, if_pos (show (i : Int) < (m.length : Int) by omega), if_pos (show (0 : Int) ≤ (i : Int) by omega), iPL, Option.bind_some, hrd, hp, decide_false, if_false, Bool.false_eq_true]
      exact Ev.now _
theorem iBoxOf_all (m : List S25) (hm : m.length ≤ 1048576) (hne : 0 < m.length) (ha : AllPL m) :
    Ev (fun k => impl_BoxOf.f k m) (minL m[0].f0 (m.map (·.f0)), minL m[0].f1 (m.map (·.f1)), maxL m[0].f0 (m.map (·.f0)), maxL m[0].f1 (m.map (·.f1)), true) := by
  have hrd : rd_T25 m 0 = m[0] := by
    unfold rd_T25
    rw [Int.toNat_zero, List.getD_eq_getElem?_getD, List.getElem?_eq_getElem hne]
    rfl
  unfold impl_BoxOf.f
  simp only [if_neg (show ¬ (m.length : Int) = 0 by omega), if_pos (show 0 < (m.length : Int) by omega), hrd]
  have := (iBox_loop m hm m.length 0 m[0].f0 m[0].f1 m[0].f0 m[0].f1 (by omega) (by omega)).1 (by rw [List.drop_zero]; exact ha)
  rw [List.drop_zero] at this
  exact this
theorem iBoxOf_not (m : List S25) (hm : m.length ≤ 1048576) (ha : ¬ (0 < m.length ∧ AllPL m)) : Ev (fun k => impl_BoxOf.f k m) (0, 0, 0, 0, false) := by
  by_cases hne : 0 < m.length
  · have hrd : rd_T25 m 0 = m[0] := by
      unfold rd_T25
      rw [Int.toNat_zero, List.getD_eq_getElem?_getD, List.getElem?_eq_getElem hne]
      rfl
    unfold impl_BoxOf.f
    simp only [if_neg (show ¬ (m.length : Int) = 0 by omega), if_pos (show 0 < (m.length : Int) by omega), hrd]
    exact (iBox_loop m hm m.length 0 m[0].f0 m[0].f1 m[0].f0 m[0].f1 (by omega) (by omega)).2 (by rw [List.drop_zero]; exact fun h => ha ⟨hne, h⟩)
  · unfold impl_BoxOf.f
    simp only [if_pos (show (m.length : Int) = 0 by omega)]
    exact Ev.now _

theorem turnIn {x y u v p q n : Int} (hb : BoxOK x y u v) (hp : PL p q) :
    Ev (fun k => (impl_TurnBox.f k x y u v n)) (mn (tr (n % 4) x y).1 (tr (n % 4) u v).1, mn (tr (n % 4) x y).2 (tr (n % 4) u v).2, mx (tr (n % 4) x y).1 (tr (n % 4) u v).1, mx (tr (n % 4) x y).2 (tr (n % 4) u v).2) ∧
    (decide (BoxOK (mn (tr (n % 4) x y).1 (tr (n % 4) u v).1) (mn (tr (n % 4) x y).2 (tr (n % 4) u v).2) (mx (tr (n % 4) x y).1 (tr (n % 4) u v).1) (mx (tr (n % 4) x y).2 (tr (n % 4) u v).2) ∧ (mn (tr (n % 4) x y).1 (tr (n % 4) u v).1 ≤ (tr (n % 4) p q).1 ∧ (tr (n % 4) p q).1 ≤ mx (tr (n % 4) x y).1 (tr (n % 4) u v).1) ∧ (mn (tr (n % 4) x y).2 (tr (n % 4) u v).2 ≤ (tr (n % 4) p q).2 ∧ (tr (n % 4) p q).2 ≤ mx (tr (n % 4) x y).2 (tr (n % 4) u v).2)) = decide (BoxOK x y u v ∧ (x ≤ p ∧ p ≤ u) ∧ (y ≤ q ∧ q ≤ v))) := by
  have hb' := hb
  have hp' := hp
  unfold BoxOK at hb'
  unfold PL at hp'
  have h4 : n % 4 = 0 ∨ n % 4 = 1 ∨ n % 4 = 2 ∨ n % 4 = 3 := by omega
  constructor
  · unfold impl_TurnBox.f
    simp only [iIsBox, Option.bind_some, hb, decide_true, if_true]
    have t1 := tr_bd (m := n % 4) (x := x) (y := y) (b := 4096) (by omega) (by omega)
    have t2 := tr_bd (m := n % 4) (x := u) (y := v) (b := 4096) (by omega) (by omega)
    generalize hA : tr (n % 4) x y = A at t1
    generalize hB : tr (n % 4) u v = B at t2
    have h := iBoxOf_all [⟨A.1, A.2⟩, ⟨B.1, B.2⟩] (by simp) (by simp) (fun z hz => by
      simp only [List.mem_cons, List.not_mem_nil, or_false] at hz
      rcases hz with rfl | rfl
      · exact t1
      · exact t2)
    have mm : ∀ a : Int, mn a a = a := fun a => by unfold mn; split <;> rfl
    have mM : ∀ a : Int, mx a a = a := fun a => by unfold mx; split <;> rfl
    have e : ∀ a b c : Int, minL a [b, c] = mn (mn a b) c := fun _ _ _ => rfl
    have e' : ∀ a b c : Int, maxL a [b, c] = mx (mx a b) c := fun _ _ _ => rfl
    simp only [List.map_cons, List.map_nil, List.getElem_cons_zero, e, e', mm, mM] at h
    have q1 := iTurn (x := x) (y := y) n (by omega) (by omega)
    have q2 := iTurn (x := u) (y := v) n (by omega) (by omega)
    rw [hA] at q1
    rw [hB] at q2
    exact Ev.bind q1 (Ev.bind q2 (Ev.bind h (Ev.now _)))
  · refine dec_congr ?_
    unfold BoxOK mn mx
    rcases h4 with h | h | h | h <;> rw [h]
    · rw [tr0, tr0, tr0]; simp only; split <;> split <;> split <;> split <;> omega
    · rw [tr1, tr1, tr1]; simp only; split <;> split <;> split <;> split <;> omega
    · rw [tr2, tr2, tr2]; simp only; split <;> split <;> split <;> split <;> omega
    · rw [tr3, tr3, tr3]; simp only; split <;> split <;> split <;> split <;> omega

theorem drawBO (l : List Int) (hl : l.length ≤ 4096) : ∃ L, Ev (fun k => spec_DrawBoxOf.f k l) L ∧ L.length ≤ 101 := by
  obtain ⟨h, hn⟩ := dNew l hl
  obtain ⟨L, i', h', e, hL, _⟩ := drawList h hl (Int.le_refl 0)
  refine ⟨L, ?_, hL⟩
  unfold spec_DrawBoxOf.f
  exact Ev.bind hn (Ev.bind e (Ev.now _))
theorem dBox {l : List Int} {i : Int} (h : Int) (hl : l.length ≤ 4096) (hi : 0 ≤ i) : ∃ x y u v i' h', Ev (fun k => spec_l2Box.f k l i h) (x, y, u, v, i', h') ∧ 0 ≤ i' := by
  obtain ⟨x, y, i1, h1, e1, hx, hy, hi1⟩ := dPlace h hl hi
  obtain ⟨a, i2, h2, e2, ha, hi2⟩ := dBelow h1 (n := 90) hl hi1 (by omega)
  obtain ⟨b, i3, h3, e3, hb, hi3⟩ := dBelow h2 (n := 90) hl hi2 (by omega)
  obtain ⟨c, i4, h4, e4, hc, hi4⟩ := dBelow h3 (n := 14) hl hi3 (by omega)
  obtain ⟨u, v, i5, h5, e5, _, _, hi5⟩ := dAny h4 hl hi4
  by_cases c0 : c = 0
  · refine ⟨x, y, u, v, i5, h5, ?_, hi5⟩
    unfold spec_l2Box.f
    simp only [e1, e2, e3, e4, Option.bind_some, if_pos c0]
    exact Ev.bind e5 (Ev.now _)
  · by_cases c1 : c = 1
    · refine ⟨u, v, wrap64 (x + a), wrap64 (y + b), i5, h5, ?_, hi5⟩
      unfold spec_l2Box.f
      simp only [e1, e2, e3, e4, Option.bind_some, if_neg c0, if_pos c1]
      exact Ev.bind e5 (Ev.now _)
    · refine ⟨x, y, wrap64 (x + a), wrap64 (y + b), i4, h4, ?_, hi4⟩
      unfold spec_l2Box.f
      simp only [e1, e2, e3, e4, Option.bind_some, if_neg c0, if_neg c1]
      exact Ev.now _
theorem drawIB (l : List Int) (hl : l.length ≤ 4096) : ∃ x y u v p q, Ev (fun k => spec_DrawInBox.f k l) (x, y, u, v, p, q) := by
  obtain ⟨h, hn⟩ := dNew l hl
  obtain ⟨x, y, u, v, i1, h1, e1, hi1⟩ := dBox h hl (Int.le_refl 0)
  obtain ⟨c, i2, h2, e2, hc, hi2⟩ := dBelow h1 (n := 4) hl hi1 (by omega)
  obtain ⟨p, q, i3, h3, e3, _, _, hi3⟩ := dAny h2 hl hi2
  by_cases c0 : c = 0
  · refine ⟨x, y, u, v, u, v, ?_⟩
    unfold spec_DrawInBox.f
    refine Ev.bind hn (Ev.bind e1 ?_)
    simp only [e2, Option.bind_some, if_pos c0]
    exact Ev.now _
  · by_cases c1 : c = 1
    · refine ⟨x, y, u, v, x, wrap64 (v + 1), ?_⟩
      unfold spec_DrawInBox.f
      refine Ev.bind hn (Ev.bind e1 ?_)
      simp only [e2, Option.bind_some, if_neg c0, if_pos c1]
      exact Ev.now _
    · refine ⟨x, y, u, v, p, q, ?_⟩
      unfold spec_DrawInBox.f
      refine Ev.bind hn (Ev.bind e1 ?_)
      simp only [e2, Option.bind_some, if_neg c0, if_neg c1]
      exact Ev.bind e3 (Ev.now _)
theorem drawTB (l : List Int) (hl : l.length ≤ 4096) : ∃ x y u v n, Ev (fun k => spec_DrawTurnBox.f k l) (x, y, u, v, n) := by
  obtain ⟨h, hn⟩ := dNew l hl
  obtain ⟨x, y, u, v, i1, h1, e1, hi1⟩ := dBox h hl (Int.le_refl 0)
  obtain ⟨b, i2, h2, e2, hi2⟩ := dOnce h1 (n := 6) hl hi1 (by omega)
  cases b with
  | true =>
    obtain ⟨n, i3, h3, e3, _, _⟩ := dOdd h2 hl hi2
    refine ⟨x, y, u, v, n, ?_⟩
    unfold spec_DrawTurnBox.f spec_l2Turns.f
    refine Ev.bind hn (Ev.bind e1 ?_)
    simp only [e2, Option.bind_some, if_true, e3]
    exact Ev.now _
  | false =>
    obtain ⟨n, i3, h3, e3, _, _⟩ := dBelow h2 (n := 12) hl hi2 (by omega)
    refine ⟨x, y, u, v, wrap64 (n - 5), ?_⟩
    unfold spec_DrawTurnBox.f spec_l2Turns.f
    refine Ev.bind hn (Ev.bind e1 ?_)
    simp only [e2, Option.bind_some, Bool.false_eq_true, if_false, e3]
    exact Ev.now _

theorem box_j8 (l : List Int) (hl : l.length ≤ 4096) : Ev (fun k => laws_FnBoxes.j3 k l false) true := by
  obtain ⟨x, y, u, v, p, q, h1⟩ := drawIB l hl
  obtain ⟨_, _, _, _, n, h2⟩ := drawTB l hl
  have j9 : Ev (fun k => laws_FnBoxes.j4 k true) true := Ev.succ' (by simp only [laws_FnBoxes.j4]; exact Ev.now _)
  refine Ev.succ' ?_
  simp only [laws_FnBoxes.j3, Bool.false_eq_true, if_false]
  refine Ev.bind h1 (Ev.bind h2 ?_)
  simp only [iIsBox, sIsBox, iPL, Option.bind_some, bne_self_eq_false, Bool.false_eq_true, if_false, iInBox]
  by_cases hb : BoxOK x y u v
  · by_cases hp : PL p q
    · obtain ⟨t1, t2⟩ := turnIn (n := n) hb hp
      simp only [hb, hp, decide_true, if_true]
      refine Ev.bind t1 ?_
      have t3 := iTurnPlace p q n
      unfold tpV at t3
      rw [if_pos hp] at t3
      refine Ev.bind t3 ?_
      simp only [hb, decide_true] at t2
      simp only [t2, beq_self_eq_true]
      exact j9
    · simp only [hb, hp, decide_true, decide_false, if_true, Bool.false_eq_true, if_false]
      exact j9
  · simp only [hb, decide_false, Bool.false_eq_true, if_false]
    exact j9

instance (m : List S25) : Decidable (AllPL m) := by unfold AllPL; infer_instance
theorem all_cons (a : S25) (m : List S25) : decide (AllPL (a :: m)) = (decide (PL a.f0 a.f1) && decide (AllPL m)) := by
  by_cases h1 : PL a.f0 a.f1
  · by_cases h2 : AllPL m
    · have : AllPL (a :: m) := fun x hx => by
        rcases List.mem_cons.1 hx with rfl | hx
        · exact h1
        · exact h2 x hx
      simp [h1, h2, this]
    · have : ¬ AllPL (a :: m) := fun k => h2 (fun x hx => k x (List.mem_cons_of_mem _ hx))
      simp [h2, this]
  · have : ¬ AllPL (a :: m) := fun k => h1 (k a (List.mem_cons_self ..))
    simp [h1, this]
theorem box_l0 (l : List Int) (L : List S25) (hL : L.length ≤ 1000) (ok : Bool) (a b c e : Int) (r : Bool) (hr : Ev (fun k => laws_FnBoxes.l1 k l L ok [false, false, false, false] 0 a b c e) r) (d : Nat) :
    ∀ (i : Nat) (al : Bool), i ≤ L.length → L.length - i = d → ok = (al && decide (AllPL (L.drop i))) → Ev (fun k => laws_FnBoxes.l0 k l L ok al (i : Int) a b c e) r := by
  induction d with
  | zero =>
    intro i al hi hd ho
    have e0 : AllPL ([] : List S25) := fun x hx => (by cases hx)
    rw [List.drop_eq_nil_of_le (by omega), decide_eq_true e0, Bool.and_true] at ho
    refine Ev.succ' ?_
    simp only [laws_FnBoxes.l0, if_neg (show ¬ (i : Int) < (L.length : Int) by omega), ← ho, bne_self_eq_false, Bool.false_eq_true, if_false]
    exact hr
  | succ d ih =>
    intro i al hi hd ho
    have hlt : i < L.length := by omega
    have hrd : rd_T25 L (i : Int) = L[i] := by
      unfold rd_T25
      rw [Int.toNat_natCast, List.getD_eq_getElem?_getD, List.getElem?_eq_getElem hlt]
      rfl
    rw [List.drop_eq_getElem_cons hlt, all_cons] at ho
    have hw : wrap64 ((i : Int) + 1) = ((i + 1 : Nat) : Int) := by rw [w64 (by omega) (by omega)]; rfl
    have step : ∀ al' : Bool, ok = (al' && decide (AllPL (L.drop (i + 1)))) → Ev (fun k => laws_FnBoxes.l0 k l L ok al' ((i + 1 : Nat) : Int) a b c e) r := fun al' h => ih (i + 1) al' (by omega) (by omega) h
    refine Ev.succ' ?_
    simp only [laws_FnBoxes.l0, if_pos (show (i : Int) < (L.length : Int) by omega), hw]
    cases al with
    | true =>
      simp only [if_true, if_pos (show (0 : Int) ≤ (i : Int) by omega), iPL, Option.bind_some, hrd]
      exact step _ (by rw [Bool.true_and] at ho; exact ho)
    | false =>
      simp only [Bool.false_eq_true, if_false]
      exact step false (by rw [Bool.false_and] at ho ⊢; exact ho)
theorem box_side (l : List Int) (L : List S25) (hL : L.length ≤ 1000) (i : Nat) (hi : i < L.length) (a b c e : Int) (r : Bool) (hb : BoxOK a b c e) (hin : (a ≤ L[i].f0 ∧ L[i].f0 ≤ c) ∧ (b ≤ L[i].f1 ∧ L[i].f1 ≤ e)) (s0 s1 s2 s3 : Bool)
    (hr : Ev (fun k => laws_FnBoxes.l1 k l L true [s0 || L[i].f0 == a, s1 || L[i].f0 == c, s2 || L[i].f1 == b, s3 || L[i].f1 == e] ((i + 1 : Nat) : Int) a b c e) r) :
    Ev (fun k => laws_FnBoxes.j2 k l L true [s0, s1, s2, s3] (i : Int) true a b c e) r := by
  have hrd : rd_T25 L (i : Int) = L[i] := by
    unfold rd_T25
    rw [Int.toNat_natCast, List.getD_eq_getElem?_getD, List.getElem?_eq_getElem hi]
    rfl
  have h0 : (0 : Int) ≤ (i : Int) := by omega
  have h1 : (i : Int) < (L.length : Int) := by omega
  have hl4 : ∀ t0 t1 t2 t3 : Bool, (([t0, t1, t2, t3] : List Bool).length : Int) = 4 := fun _ _ _ _ => rfl
  have r0 : ∀ t0 t1 t2 t3 : Bool, rdOf false [t0, t1, t2, t3] 0 = t0 := fun _ _ _ _ => rfl
  have r1 : ∀ t0 t1 t2 t3 : Bool, rdOf false [t0, t1, t2, t3] 1 = t1 := fun _ _ _ _ => rfl
  have r2 : ∀ t0 t1 t2 t3 : Bool, rdOf false [t0, t1, t2, t3] 2 = t2 := fun _ _ _ _ => rfl
  have r3 : ∀ t0 t1 t2 t3 : Bool, rdOf false [t0, t1, t2, t3] 3 = t3 := fun _ _ _ _ => rfl
  have u0 : ∀ t0 t1 t2 t3 x : Bool, ([t0, t1, t2, t3] : List Bool).set (0 : Int).toNat x = [x, t1, t2, t3] := fun _ _ _ _ _ => rfl
  have u1 : ∀ t0 t1 t2 t3 x : Bool, ([t0, t1, t2, t3] : List Bool).set (1 : Int).toNat x = [t0, x, t2, t3] := fun _ _ _ _ _ => rfl
  have u2 : ∀ t0 t1 t2 t3 x : Bool, ([t0, t1, t2, t3] : List Bool).set (2 : Int).toNat x = [t0, t1, x, t3] := fun _ _ _ _ _ => rfl
  have u3 : ∀ t0 t1 t2 t3 x : Bool, ([t0, t1, t2, t3] : List Bool).set (3 : Int).toNat x = [t0, t1, t2, x] := fun _ _ _ _ _ => rfl
  have hw : wrap64 ((i : Int) + 1) = ((i + 1 : Nat) : Int) := by rw [w64 (by omega) (by omega)]; rfl
  have k6 : ∀ t0 t1 t2 t3 : Bool, Ev (fun k => laws_FnBoxes.l1 k l L true [t0, t1, t2, t3 || L[i].f1 == e] ((i + 1 : Nat) : Int) a b c e) r → Ev (fun k => laws_FnBoxes.j7 k l L true [t0, t1, t2, t3] (i : Int) a b c e) r := fun t0 t1 t2 t3 h => by
    refine Ev.succ' ?_
    simp only [laws_FnBoxes.j7, hl4, if_pos (show (3 : Int) < 4 by omega), r3, if_pos h0, if_pos h1, hrd, u3, hw]
    cases t3 with
    | true => simp only [if_true]; exact h
    | false => simp only [Bool.false_eq_true, if_false]; exact h
  have k5 : ∀ t0 t1 t2 t3 : Bool, Ev (fun k => laws_FnBoxes.l1 k l L true [t0, t1, t2 || L[i].f1 == b, t3 || L[i].f1 == e] ((i + 1 : Nat) : Int) a b c e) r → Ev (fun k => laws_FnBoxes.j6 k l L true [t0, t1, t2, t3] (i : Int) a b c e) r := fun t0 t1 t2 t3 h => by
    refine Ev.succ' ?_
    simp only [laws_FnBoxes.j6, hl4, if_pos (show (2 : Int) < 4 by omega), r2, if_pos h0, if_pos h1, hrd, u2]
    cases t2 with
    | true => simp only [if_true]; exact k6 _ _ _ _ h
    | false => simp only [Bool.false_eq_true, if_false]; exact k6 _ _ _ _ h
  have k4 : ∀ t0 t1 t2 t3 : Bool, Ev (fun k => laws_FnBoxes.l1 k l L true [t0, t1 || L[i].f0 == c, t2 || L[i].f1 == b, t3 || L[i].f1 == e] ((i + 1 : Nat) : Int) a b c e) r → Ev (fun k => laws_FnBoxes.j5 k l L true [t0, t1, t2, t3] (i : Int) a b c e) r := fun t0 t1 t2 t3 h => by
    refine Ev.succ' ?_
    simp only [laws_FnBoxes.j5, hl4, if_pos (show (1 : Int) < 4 by omega), r1, if_pos h0, if_pos h1, hrd, u1]
    cases t1 with
    | true => simp only [if_true]; exact k5 _ _ _ _ h
    | false => simp only [Bool.false_eq_true, if_false]; exact k5 _ _ _ _ h
  refine Ev.succ' ?_
  simp only [laws_FnBoxes.j2, if_true, if_pos h0, if_pos h1, hrd, iInBox, Option.bind_some, decide_eq_true (show BoxOK a b c e ∧ (a ≤ L[i].f0 ∧ L[i].f0 ≤ c) ∧ (b ≤ L[i].f1 ∧ L[i].f1 ≤ e) from ⟨hb, hin⟩), hl4, if_pos (show (0 : Int) < 4 by omega), r0, u0]
  cases s0 with
  | true => simp only [if_true]; exact k4 _ _ _ _ hr
  | false => simp only [Bool.false_eq_true, if_false]; exact k4 _ _ _ _ hr
theorem any_succ (L : List S25) (i : Nat) (hi : i < L.length) (f : S25 → Bool) : (L.take (i + 1)).any f = ((L.take i).any f || f L[i]) := by
  rw [List.take_add_one, List.getElem?_eq_getElem hi, List.any_append]
  simp
theorem box_l1 (l : List Int) (hl : l.length ≤ 4096) (L : List S25) (hL : L.length ≤ 1000) (a b c e : Int) (hb : BoxOK a b c e) (hin : ∀ x ∈ L, (a ≤ x.f0 ∧ x.f0 ≤ c) ∧ (b ≤ x.f1 ∧ x.f1 ≤ e))
    (s0 : L.any (fun x => x.f0 == a) = true) (s1 : L.any (fun x => x.f0 == c) = true) (s2 : L.any (fun x => x.f1 == b) = true) (s3 : L.any (fun x => x.f1 == e) = true) (d : Nat) : ∀ i : Nat, i ≤ L.length → L.length - i = d →
    Ev (fun k => laws_FnBoxes.l1 k l L true [(L.take i).any (fun x => x.f0 == a), (L.take i).any (fun x => x.f0 == c), (L.take i).any (fun x => x.f1 == b), (L.take i).any (fun x => x.f1 == e)] (i : Int) a b c e) true := by
  induction d with
  | zero =>
    intro i hi hd
    rw [List.take_of_length_le (by omega), s0, s1, s2, s3]
    have hl4 : (([true, true, true, true] : List Bool).length : Int) = 4 := rfl
    have r0 : rdOf false [true, true, true, true] 0 = true := rfl
    have r1 : rdOf false [true, true, true, true] 1 = true := rfl
    have r2 : rdOf false [true, true, true, true] 2 = true := rfl
    have r3 : rdOf false [true, true, true, true] 3 = true := rfl
    refine Ev.succ' ?_
    simp only [laws_FnBoxes.l1, if_true, decide_eq_false (show ¬ (i : Int) < (L.length : Int) by omega)]
    refine Ev.succ' ?_
    simp only [laws_FnBoxes.j2, Bool.false_eq_true, if_false, if_true, hl4, r0, r1, r2, r3, if_pos (show (0 : Int) < 4 by omega), if_pos (show (1 : Int) < 4 by omega), if_pos (show (2 : Int) < 4 by omega), if_pos (show (3 : Int) < 4 by omega), Bool.not_true]
    exact box_j8 l hl
  | succ d ih =>
    intro i hi hd
    have hlt : i < L.length := by omega
    have h := ih (i + 1) (by omega) (by omega)
    rw [any_succ L i hlt, any_succ L i hlt, any_succ L i hlt, any_succ L i hlt] at h
    refine Ev.succ' ?_
    simp only [laws_FnBoxes.l1, if_true, decide_eq_true (show (i : Int) < (L.length : Int) by omega)]
    exact box_side l L hL i hlt a b c e true hb (hin _ (List.getElem_mem hlt)) _ _ _ _ h
theorem box_not (l : List Int) (hl : l.length ≤ 4096) (L : List S25) (x8 : List Bool) (i a b c e : Int) : Ev (fun k => laws_FnBoxes.l1 k l L false x8 i a b c e) true := by
  refine Ev.succ' ?_
  simp only [laws_FnBoxes.l1, Bool.false_eq_true, if_false]
  refine Ev.succ' ?_
  simp only [laws_FnBoxes.j2, Bool.false_eq_true, if_false]
  exact box_j8 l hl

theorem FnBoxes : ∀ (l0 : List Int), l0.length ≤ maxLen → l0.length * 1 ≤ 140737488351232 → (∀ x ∈ l0, (Lit.int .u8 x).wf = true) → ∃ k, laws_FnBoxes.f k l0 = some true := by
  intro l _ _ _
  refine Ev.rounds (r := true) ?_
  unfold laws_FnBoxes.f
  simp only [lawBig, Option.bind_some, decide_eq_true_eq]
  by_cases hb : (l.length : Int) > 4096
  · simp only [if_pos hb]
    exact Ev.now _
  · simp only [if_neg hb]
    obtain ⟨L, hL, hlen⟩ := drawBO l (by omega)
    refine Ev.bind hL ?_
    by_cases hall : 0 < L.length ∧ AllPL L
    · obtain ⟨hne, ha⟩ := hall
      refine Ev.bind (iBoxOf_all L (by omega) hne ha) ?_
      obtain ⟨a1, a2, a3⟩ := minL_le (L.map (·.f0)) L[0].f0
      obtain ⟨b1, b2, b3⟩ := minL_le (L.map (·.f1)) L[0].f1
      obtain ⟨c1, c2, c3⟩ := maxL_ge (L.map (·.f0)) L[0].f0
      obtain ⟨e1, e2, e3⟩ := maxL_ge (L.map (·.f1)) L[0].f1
      have m0 : L[0].f0 ∈ L.map (·.f0) := List.mem_map.2 ⟨_, List.getElem_mem hne, rfl⟩
      have m1 : L[0].f1 ∈ L.map (·.f1) := List.mem_map.2 ⟨_, List.getElem_mem hne, rfl⟩
      have a4 : minL L[0].f0 (L.map (·.f0)) ∈ L.map (·.f0) := by rcases a3 with h | h; rw [h]; exact m0; exact h
      have b4 : minL L[0].f1 (L.map (·.f1)) ∈ L.map (·.f1) := by rcases b3 with h | h; rw [h]; exact m1; exact h
      have c4 : maxL L[0].f0 (L.map (·.f0)) ∈ L.map (·.f0) := by rcases c3 with h | h; rw [h]; exact m0; exact h
      have e4 : maxL L[0].f1 (L.map (·.f1)) ∈ L.map (·.f1) := by rcases e3 with h | h; rw [h]; exact m1; exact h
      generalize minL L[0].f0 (L.map (·.f0)) = A at a1 a2 a4 ⊢
      generalize minL L[0].f1 (L.map (·.f1)) = B at b1 b2 b4 ⊢
      generalize maxL L[0].f0 (L.map (·.f0)) = C at c1 c2 c4 ⊢
      generalize maxL L[0].f1 (L.map (·.f1)) = E at e1 e2 e4 ⊢
      have any0 : ∀ v, v ∈ L.map (·.f0) → L.any (fun x => x.f0 == v) = true := fun v hv => by
        obtain ⟨x, hx, rfl⟩ := List.mem_map.1 hv
        exact List.any_eq_true.2 ⟨x, hx, beq_self_eq_true _⟩
      have any1 : ∀ v, v ∈ L.map (·.f1) → L.any (fun x => x.f1 == v) = true := fun v hv => by
        obtain ⟨x, hx, rfl⟩ := List.mem_map.1 hv
        exact List.any_eq_true.2 ⟨x, hx, beq_self_eq_true _⟩
      have q0 : ∀ v, v ∈ L.map (·.f0) → -4096 ≤ v ∧ v ≤ 4096 := fun v hv => by
        obtain ⟨x, hx, rfl⟩ := List.mem_map.1 hv
        exact (ha x hx).1
      have q1 : ∀ v, v ∈ L.map (·.f1) → -4096 ≤ v ∧ v ≤ 4096 := fun v hv => by
        obtain ⟨x, hx, rfl⟩ := List.mem_map.1 hv
        exact (ha x hx).2
      have hbox : BoxOK A B C E := by
        have := q0 _ a4; have := q1 _ b4; have := q0 _ c4; have := q1 _ e4
        unfold BoxOK; omega
      have hd0 : decide ((L.length : Int) > 0) = true := decide_eq_true (by omega)
      simp only [hd0]
      refine box_l0 l L (by omega) true A B C E true ?_ L.length 0 true (by omega) (by omega) (by rw [List.drop_zero, decide_eq_true ha]; rfl)
      have := box_l1 l (by omega) L (by omega) A B C E hbox (fun x hx => ⟨⟨a2 _ (List.mem_map.2 ⟨x, hx, rfl⟩), c2 _ (List.mem_map.2 ⟨x, hx, rfl⟩)⟩, ⟨b2 _ (List.mem_map.2 ⟨x, hx, rfl⟩), e2 _ (List.mem_map.2 ⟨x, hx, rfl⟩)⟩⟩) (any0 _ a4) (any0 _ c4) (any1 _ b4) (any1 _ e4) L.length 0 (by omega) (by omega)
      exact this
    · refine Ev.bind (iBoxOf_not L (by omega) hall) ?_
      refine box_l0 l L (by omega) false 0 0 0 0 true (box_not l (by omega) L _ _ _ _ _ _) L.length 0 _ (by omega) (by omega) ?_
      rw [List.drop_zero]
      by_cases h0 : 0 < L.length
      · have : ¬ AllPL L := fun h => hall ⟨h0, h⟩
        simp [this]
      · rw [decide_eq_false (show ¬ (L.length : Int) > 0 by omega), Bool.false_and]

end Go.Proofs.Ytkioodeeadhdaaa.Pure
