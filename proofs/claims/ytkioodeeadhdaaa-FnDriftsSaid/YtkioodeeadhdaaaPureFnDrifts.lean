/- The plain law behind FnDrifts: for every input that the row lets in, the printed function of the law answers true. No condition beyond the bounds that the statement names. -/
import Derived.Test.YtkioodeeadhdaaaPFnDriftsx5
namespace Go.Proofs.Ytkioodeeadhdaaa.Pure
open Go.RowKit Go.Proofs.Ytkioodeeadhdaaa.PFnDrifts Go.Proofs.YtkioodeeadhdaaaW.PrintWords Go.Proofs.YtkioodeeadhdaaaW.PrintLast
open Go.Proofs.YtkioodeeadhdaaaW.PrintMore
set_option linter.unusedVariables false
set_option linter.unusedSimpArgs false

theorem w64 {x : Int} (h0 : -9223372036854775808 ≤ x) (h1 : x ≤ 9223372036854775807) : wrap64 x = x := by unfold wrap64; omega
theorem wfb {a : Int} (h : (Lit.int .i64 a).wf = true) : -9223372036854775808 ≤ a ∧ a ≤ 9223372036854775807 := by
  simp [Lit.wf, IntKind.min, IntKind.max, IntKind.signed, IntKind.bits] at h
  omega
theorem Ev.succ' {α : Type} {g : Nat → Option α} {r : α} (h : Ev (fun k => g (k + 1)) r) : Ev g r := Ev.step (fun _ => rfl) h
theorem dec_congr {p q : Prop} [Decidable p] [Decidable q] (h : p ↔ q) : decide p = decide q := by simp [h]

theorem iWithin (a b c : Int) : impl_isWithin.f a b c = some (decide (b ≤ a ∧ a ≤ c)) := by
  unfold impl_isWithin.f
  split <;> simp <;> omega

theorem tmod_pos {a b : Int} (h : 0 ≤ a) : Int.tmod a b = a % b := Int.tmod_eq_emod_of_nonneg h
theorem tmod_neg' (a b : Int) : Int.tmod (-a) b = -(Int.tmod a b) := Int.neg_tmod a b
theorem tdiv_pos {a b : Int} (h : 0 ≤ a) : Int.tdiv a b = a / b := Int.tdiv_eq_ediv_of_nonneg h
theorem tmod4 (n : Int) : (Int.tmod n 4 < 0 → Int.tmod n 4 + 4 = n % 4) ∧ (¬ Int.tmod n 4 < 0 → Int.tmod n 4 = n % 4) ∧ -3 ≤ Int.tmod n 4 ∧ Int.tmod n 4 ≤ 3 := by
  rcases Int.le_total 0 n with h | h
  · rw [tmod_pos h]; omega
  · obtain ⟨m, rfl⟩ : ∃ m, n = -m := ⟨-n, by omega⟩
    rw [tmod_neg', tmod_pos (by omega)]; omega

theorem getD_get {α : Type} (l : List α) (d : α) (i : Int) (h0 : 0 ≤ i) (h1 : i < l.length) : l[i.toNat]? = some (l.getD i.toNat d) := by
  rw [List.getD_eq_getElem?_getD]
  obtain ⟨v, hv⟩ : ∃ v, l[i.toNat]? = some v := ⟨_, List.getElem?_eq_getElem (by omega)⟩
  rw [hv]; rfl

def DR (x y : Int) : Prop := (-8 ≤ x ∧ x ≤ 8) ∧ (-8 ≤ y ∧ y ≤ 8)
instance (x y : Int) : Decidable (DR x y) := by unfold DR; infer_instance

theorem iDrift0 (x y : Int) : impl_isDrift.f x y = some (decide ((-8 ≤ x ∧ x ≤ 8) ∧ (-8 ≤ y ∧ y ≤ 8))) := by
  unfold impl_isDrift.f
  simp only [iWithin, Option.bind_some]
  split <;> rename_i h <;> simp at h ⊢ <;> omega
theorem iDrift (x y : Int) : impl_isDrift.f x y = some (decide (DR x y)) := iDrift0 x y

theorem and255 (x : Int) : 0 ≤ bits .and .i64 x 255 ∧ bits .and .i64 x 255 ≤ 255 := by
  simp only [bits]
  have h : ((BitVec.ofInt IntKind.i64.bits x &&& BitVec.ofInt IntKind.i64.bits 255).toNat : Int) ≤ 255 := by
    rw [BitVec.toNat_and]
    have : (BitVec.ofInt IntKind.i64.bits x).toNat &&& (BitVec.ofInt IntKind.i64.bits 255).toNat ≤ 255 := Nat.le_trans Nat.and_le_right (by decide)
    omega
  have h0 : (0 : Int) ≤ ((BitVec.ofInt IntKind.i64.bits x &&& BitVec.ofInt IntKind.i64.bits 255).toNat : Int) := Int.natCast_nonneg _
  generalize ((BitVec.ofInt IntKind.i64.bits x &&& BitVec.ofInt IntKind.i64.bits 255).toNat : Int) = z at h h0
  have e : IntKind.i64.wrap z = z := by
    simp [IntKind.wrap, IntKind.bits, IntKind.signed]
    split <;> omega
  rw [e]
  exact ⟨h0, h⟩
theorem dByte {l : List Int} {i : Int} (h : Int) (hl : l.length ≤ 4096) (hi : 0 ≤ i) : ∃ x i' h', spec_l1Byte.f l i h = some (x, i', h') ∧ (0 ≤ x ∧ x ≤ 255) ∧ 0 ≤ i' := by
  unfold spec_l1Byte.f
  by_cases hlt : i < (l.length : Int)
  · rw [if_pos hlt, if_pos hi]
    exact ⟨_, _, _, rfl, and255 _, by rw [w64 (by omega) (by omega)]; omega⟩
  · rw [if_neg hlt]
    exact ⟨_, _, _, rfl, and255 _, hi⟩

theorem tmod_bd {a n : Int} (ha : 0 ≤ a) (hn : 0 < n) : 0 ≤ Int.tmod a n ∧ Int.tmod a n < n := by
  rw [tmod_pos ha]
  exact ⟨Int.emod_nonneg _ (by omega), Int.emod_lt_of_pos _ hn⟩
theorem dBelow {l : List Int} {i : Int} (h : Int) {n : Int} (hl : l.length ≤ 4096) (hi : 0 ≤ i) (hn : 0 < n) : ∃ x i' h', spec_l1Below.f l i h n = some (x, i', h') ∧ (0 ≤ x ∧ x < n) ∧ 0 ≤ i' := by
  unfold spec_l1Below.f
  rw [if_neg (by omega)]
  split
  · obtain ⟨x, i1, h1, e, hx, hi1⟩ := dByte h hl hi
    rw [e]
    simp only [Option.bind_some]
    rw [if_neg (by omega)]
    exact ⟨_, _, _, rfl, tmod_bd hx.1 hn, hi1⟩
  · obtain ⟨x, i1, h1, e1, hx, hi1⟩ := dByte h hl hi
    rw [e1]
    simp only [Option.bind_some]
    obtain ⟨y, i2, h2, e2, hy, hi2⟩ := dByte h1 hl hi1
    rw [e2]
    simp only [Option.bind_some]
    obtain ⟨z, i3, h3, e3, hz, hi3⟩ := dByte h2 hl hi2
    rw [e3]
    simp only [Option.bind_some]
    rw [if_neg (by omega)]
    refine ⟨_, _, _, rfl, tmod_bd ?_ hn, hi3⟩
    rw [w64 (x := x * 65536) (by omega) (by omega), w64 (x := y * 256) (by omega) (by omega), w64 (x := x * 65536 + y * 256) (by omega) (by omega), w64 (x := x * 65536 + y * 256 + z) (by omega) (by omega)]
    omega

theorem dSome {l : List Int} {i : Int} (h : Int) {a b : Int} (hl : l.length ≤ 4096) (hi : 0 ≤ i) (hab : -1000000 ≤ a ∧ a ≤ b ∧ b ≤ 1000000) : ∃ x i' h', spec_l1Some.f l i h a b = some (x, i', h') ∧ (a ≤ x ∧ x ≤ b) ∧ 0 ≤ i' := by
  unfold spec_l1Some.f
  rw [w64 (x := b - a) (by omega) (by omega), w64 (x := b - a + 1) (by omega) (by omega)]
  obtain ⟨x, i1, h1, e, hx, hi1⟩ := dBelow h hl hi (show 0 < b - a + 1 by omega)
  rw [e]
  simp only [Option.bind_some]
  refine ⟨_, _, _, rfl, ?_, hi1⟩
  rw [w64 (by omega) (by omega)]
  omega

theorem dInt {l : List Int} {i : Int} (h : Int) {m : List Int} (hl : l.length ≤ 4096) (hi : 0 ≤ i) (hm : 0 < m.length) : ∃ x i' h', spec_l1Int.f l i h m = some (x, i', h') ∧ x ∈ m ∧ 0 ≤ i' := by
  unfold spec_l1Int.f
  obtain ⟨x, i1, h1, e, hx, hi1⟩ := dBelow h hl hi (show 0 < (m.length : Int) by omega)
  rw [e]
  simp only [Option.bind_some]
  rw [if_pos hx.1, if_pos hx.2]
  refine ⟨_, _, _, rfl, ?_, hi1⟩
  unfold rd
  rw [List.getD_eq_getElem?_getD, List.getElem?_eq_getElem (by omega)]
  exact List.getElem_mem _

theorem new_loop (l : List Int) (hl : l.length ≤ 4096) (d : Nat) : ∀ (i h : Int), 0 ≤ i → (l.length : Int) - i = d → ∃ h', Ev (fun k => spec_l1New.l0 k l h i) (l, 0, h') := by
  induction d with
  | zero =>
    intro i h h0 hd
    refine ⟨h, Ev.succ' ?_⟩
    simp only [spec_l1New.l0, if_neg (show ¬ i < (l.length : Int) by omega)]
    exact Ev.now _
  | succ d ih =>
    intro i h h0 hd
    by_cases h4 : i < 4000
    · obtain ⟨h', e⟩ := ih (i + 1) (bits .and .i64 (wrap64 ((wrap64 ((wrap64 (h * 167)) + (wrap64 (rd l i)))) + 29)) 1073741823) (by omega) (by omega)
      refine ⟨h', Ev.succ' ?_⟩
      simp only [spec_l1New.l0, if_pos (show i < (l.length : Int) by omega), if_pos h4, if_pos h0]
      rw [w64 (x := i + 1) (by omega) (by omega)]
      exact e
    · refine ⟨h, Ev.succ' ?_⟩
      simp only [spec_l1New.l0, if_pos (show i < (l.length : Int) by omega), if_neg h4]
      exact Ev.now _
theorem dNew (l : List Int) (hl : l.length ≤ 4096) : ∃ h, Ev (fun k => spec_l1New.f k l) (l, 0, h) := by
  unfold spec_l1New.f
  exact new_loop l hl l.length 0 _ (by omega) (by omega)

theorem lawBig (l : List Int) : laws_big.f l = some (decide ((l.length : Int) > 4096)) := rfl

def windOK (m : List S93) : Prop := m.length ≤ 8 ∧ ∀ i : Int, 0 ≤ i → i < m.length → ((0 ≤ (rd_T93 m i).f0 ∧ (rd_T93 m i).f0 ≤ 64) ∧ DR (rd_T93 m i).f1.f0 (rd_T93 m i).f1.f1) ∧ (0 < i → (rd_T93 m (i - 1)).f0 < (rd_T93 m i).f0)
theorem iWind_true (m : List S93) (hw : windOK m) : Ev (fun k => impl_IsWind.f k m) true := by
  have loop : ∀ (d : Nat) (i : Int), 0 ≤ i → (m.length : Int) - i = d → Ev (fun k => impl_IsWind.l0 k m m (m.length : Int) i) true := by
    intro d
    induction d with
    | zero =>
      intro i h0 hd
      refine Ev.succ' ?_
      have := hw.1
      simp only [impl_IsWind.l0, if_neg (show ¬ i < (m.length : Int) by omega), show decide ((m.length : Int) ≤ 8) = true by simp; omega]
      exact Ev.now _
    | succ d ih =>
      intro i h0 hd
      have := hw.1
      have e1 : wrap64 (i + 1) = i + 1 := w64 (by omega) (by omega)
      have e2 : wrap64 (i - 1) = i - 1 := w64 (by omega) (by omega)
      obtain ⟨⟨h1, h2⟩, h4⟩ := hw.2 i h0 (by omega)
      refine Ev.succ' ?_
      by_cases h3 : i > 0
      · have := h4 h3
        simp only [impl_IsWind.l0, if_pos (show i < (m.length : Int) by omega), if_pos h0, iWithin, iDrift, Option.bind_some, h1, h2, and_self, decide_true, if_true, if_pos h3, e2, e1, if_pos (show 0 ≤ i - 1 by omega), if_pos (show i - 1 < (m.length : Int) by omega), if_neg (show ¬ (rd_T93 m i).f0 ≤ (rd_T93 m (i - 1)).f0 by omega)]
        exact ih (i + 1) (by omega) (by omega)
      · simp only [impl_IsWind.l0, if_pos (show i < (m.length : Int) by omega), if_pos h0, iWithin, iDrift, Option.bind_some, h1, h2, and_self, decide_true, if_true, if_neg h3, e1]
        exact ih (i + 1) (by omega) (by omega)
  unfold impl_IsWind.f
  exact loop m.length 0 (by omega) (by omega)

theorem drift_ex (m : List S93) (hw : windOK m) (t : Int) : ∃ x y, DR x y ∧ Ev (fun k => impl_DriftAt.f k m t) (x, y) := by
  have loop : ∀ (d : Nat) (i x y : Int), DR x y → 0 ≤ i → (m.length : Int) - i = d → ∃ a b, DR a b ∧ Ev (fun k => impl_DriftAt.l0 k t m (m.length : Int) i x y) (a, b) := by
    intro d
    induction d with
    | zero =>
      intro i x y hd0 h0 hd
      refine ⟨x, y, hd0, Ev.succ' ?_⟩
      simp only [impl_DriftAt.l0, if_neg (show ¬ i < (m.length : Int) by omega)]; exact Ev.now _
    | succ d ih =>
      intro i x y hd0 h0 hd
      have hm := hw.1
      have e1 : wrap64 (i + 1) = i + 1 := w64 (by omega) (by omega)
      by_cases h1 : (rd_T93 m i).f0 ≤ t
      · obtain ⟨a, b, hab, e⟩ := ih (i + 1) (rd_T93 m i).f1.f0 (rd_T93 m i).f1.f1 (hw.2 i h0 (by omega)).1.2 (by omega) (by omega)
        refine ⟨a, b, hab, Ev.succ' ?_⟩
        simp only [impl_DriftAt.l0, if_pos (show i < (m.length : Int) by omega), if_pos h0, if_pos h1, e1]; exact e
      · obtain ⟨a, b, hab, e⟩ := ih (i + 1) x y hd0 (by omega) (by omega)
        refine ⟨a, b, hab, Ev.succ' ?_⟩
        simp only [impl_DriftAt.l0, if_pos (show i < (m.length : Int) by omega), if_pos h0, if_neg h1, e1]; exact e
  obtain ⟨a, b, hab, e⟩ := loop m.length 0 0 0 (by unfold DR; omega) (by omega) (by omega)
  refine ⟨a, b, hab, ?_⟩
  unfold impl_DriftAt.f
  refine Ev.bind (iWind_true m hw) ?_
  simp only [if_true]
  exact e
def sumD (f : Int → Int) : Nat → Int → Int
  | 0, _ => 0
  | d + 1, a => f a + sumD f d (a + 1)
theorem sumD_add (f : Int → Int) (d e : Nat) : ∀ a : Int, sumD f (d + e) a = sumD f d a + sumD f e (a + d) := by
  induction d with
  | zero => intro a; simp [sumD]
  | succ d ih =>
    intro a
    rw [show d + 1 + e = (d + e) + 1 by omega]
    simp only [sumD]
    rw [ih (a + 1), show a + 1 + (d : Int) = a + ((d + 1 : Nat) : Int) by omega]
    omega
theorem sumD_bd (f : Int → Int) (h : ∀ t, -8 ≤ f t ∧ f t ≤ 8) (d : Nat) : ∀ a : Int, -8 * (d : Int) ≤ sumD f d a ∧ sumD f d a ≤ 8 * (d : Int) := by
  induction d with
  | zero => intro a; simp [sumD]
  | succ d ih =>
    intro a
    have h1 := h a
    have h2 := ih (a + 1)
    simp only [sumD]
    omega

theorem driftOver (m : List S93) (hw : windOK m) (f g : Int → Int) (hf : ∀ t, -8 ≤ f t ∧ f t ≤ 8) (hg : ∀ t, -8 ≤ g t ∧ g t ≤ 8) (he : ∀ t, Ev (fun k => impl_DriftAt.f k m t) (f t, g t)) (a b : Int) (h0 : 0 ≤ a) (hab : a ≤ b) (hb : b ≤ 128) :
    Ev (fun k => impl_DriftOver.f k m a b) (sumD f (b - a).toNat a, sumD g (b - a).toNat a, true) := by
  have loop : ∀ (d : Nat) (t x y : Int), 0 ≤ t → b - t = d → (-100000 ≤ x - 8 * d ∧ x + 8 * d ≤ 100000) → (-100000 ≤ y - 8 * d ∧ y + 8 * d ≤ 100000) → Ev (fun k => impl_DriftOver.l0 k m b t x y) (x + sumD f d t, y + sumD g d t, true) := by
    intro d
    induction d with
    | zero =>
      intro t x y ht hd hx hy
      refine Ev.succ' ?_
      simp only [impl_DriftOver.l0, if_neg (show ¬ t < b by omega), sumD, Int.add_zero]
      exact Ev.now _
    | succ d ih =>
      intro t x y ht hd hx hy
      have h1 := hf t
      have h2 := hg t
      refine Ev.succ' ?_
      simp only [impl_DriftOver.l0, if_pos (show t < b by omega)]
      refine Ev.bind (he t) ?_
      rw [w64 (x := t + 1) (by omega) (by omega), w64 (x := x + f t) (by omega) (by omega), w64 (x := y + g t) (by omega) (by omega)]
      have := ih (t + 1) (x + f t) (y + g t) (by omega) (by omega) (by omega) (by omega)
      simp only [sumD]
      rwa [Int.add_assoc, Int.add_assoc] at this
  unfold impl_DriftOver.f
  refine Ev.bind (iWind_true m hw) ?_
  simp only [if_true, if_neg (show ¬ a < 0 by omega), if_neg (show ¬ b < a by omega), show decide (b > 128) = false by simp; omega]
  refine Ev.succ' ?_
  simp only [impl_DriftOver.j0, Bool.false_eq_true, if_false]
  have := loop (b - a).toNat a 0 0 h0 (by omega) (by omega) (by omega)
  rwa [Int.zero_add, Int.zero_add] at this

theorem rd_append_l {m : List S93} {x : S93} {i : Int} (h0 : 0 ≤ i) (h1 : i < m.length) : rd_T93 (m ++ [x]) i = rd_T93 m i := by
  unfold rd_T93
  rw [List.getD_eq_getElem?_getD, List.getD_eq_getElem?_getD, List.getElem?_append_left (by omega)]
theorem rd_append_r {m : List S93} {x : S93} {i : Int} (h1 : i = m.length) : rd_T93 (m ++ [x]) i = x := by
  unfold rd_T93
  rw [List.getD_eq_getElem?_getD, h1]
  simp
theorem drawWind (l : List Int) (hl : l.length ≤ 4096) : ∃ m a b, windOK m ∧ (0 ≤ a ∧ a ≤ 39 ∧ a ≤ b ∧ b ≤ a + 39) ∧ Ev (fun k => spec_DrawWind.f k l) (m, a, b) := by
  obtain ⟨h0, e0⟩ := dNew l hl
  have loop : ∀ (d : Nat) (acc : List S93) (t n i h : Int), 0 ≤ i → n = d → 0 ≤ t → t + 9 * n ≤ 60 → acc.length + n ≤ 5 → windOK acc → (∀ j : Int, 0 ≤ j → j < acc.length → (rd_T93 acc j).f0 < t) →
      ∃ m i' h', windOK m ∧ 0 ≤ i' ∧ Ev (fun k => spec_l4Draw.l0 k acc t n l i h) (m, i', h') := by
    intro d
    induction d with
    | zero =>
      intro acc t n i h hi hd ht htn hlen hw hlt
      refine ⟨acc, i, h, hw, hi, Ev.succ' ?_⟩
      simp only [spec_l4Draw.l0, if_neg (show ¬ n > 0 by omega)]
      exact Ev.now _
    | succ d ih =>
      intro acc t n i h hi hd ht htn hlen hw hlt
      obtain ⟨x, i1, h1, e1, hx, hi1⟩ := dSome h (a := -3) (b := 3) hl hi (by omega)
      obtain ⟨y, i2, h2, e2, hy, hi2⟩ := dSome h1 (a := -3) (b := 3) hl hi1 (by omega)
      obtain ⟨z, i3, h3, e3, hz, hi3⟩ := dBelow h2 (n := 9) hl hi2 (by omega)
      have hlen' : (acc ++ [(⟨t, ⟨x, y⟩⟩ : S93)]).length = acc.length + 1 := by rw [List.length_append, List.length_singleton]
      have hw' : windOK (acc ++ [(⟨t, ⟨x, y⟩⟩ : S93)]) := by
        refine ⟨by rw [hlen']; omega, fun j j0 j1 => ?_⟩
        rw [hlen'] at j1
        by_cases hj : j < acc.length
        · rw [rd_append_l j0 hj]
          obtain ⟨q1, q2⟩ := hw.2 j j0 hj
          refine ⟨q1, fun hp => ?_⟩
          rw [rd_append_l (by omega) (by omega)]
          exact q2 hp
        · have hj' : j = acc.length := by omega
          rw [rd_append_r hj']
          refine ⟨⟨⟨ht, by show t ≤ 64; omega⟩, by unfold DR; show (-8 ≤ x ∧ x ≤ 8) ∧ (-8 ≤ y ∧ y ≤ 8); omega⟩, fun hp => ?_⟩
          rw [rd_append_l (by omega) (by omega)]
          exact hlt (j - 1) (by omega) (by omega)
      obtain ⟨m, i', h', r1, r2, r3⟩ := ih (acc ++ [(⟨t, ⟨x, y⟩⟩ : S93)]) (t + 1 + z) (n - 1) i3 h3 hi3 (by omega) (by omega) (by omega) (by rw [hlen']; omega) hw' (fun j j0 j1 => by
        rw [hlen'] at j1
        by_cases hj : j < acc.length
        · rw [rd_append_l j0 hj]; have := hlt j j0 hj; omega
        · rw [rd_append_r (by omega)]; show t < t + 1 + z; omega)
      refine ⟨m, i', h', r1, r2, Ev.succ' ?_⟩
      have ed : spec_l4DriftDraw.f l i h = some (x, y, i2, h2) := by
        unfold spec_l4DriftDraw.f
        simp only [e1, e2, Option.bind_some]
      simp only [spec_l4Draw.l0, if_pos (show n > 0 by omega), ed, Option.bind_some, if_pos (show acc.length < 5864062014805 by omega), e3]
      rw [w64 (x := t + 1) (by omega) (by omega), w64 (x := t + 1 + z) (by omega) (by omega), w64 (x := n - 1) (by omega) (by omega)]
      exact r3
  obtain ⟨t, i1, h1, e1, ht, hi1⟩ := dInt (i := 0) h0 (m := [0, 0, 1, 5]) hl (by omega) (by simp)
  obtain ⟨n, i2, h2, e2, hn, hi2⟩ := dBelow h1 (n := 6) hl hi1 (by omega)
  simp only [List.mem_cons, List.not_mem_nil, or_false] at ht
  obtain ⟨m, i3, h3, hw, hi3, e3⟩ := loop n.toNat [] t n i2 h2 hi2 (by omega) (by omega) (by omega) (by simp; omega) ⟨by simp, fun j j0 j1 => by simp at j1; omega⟩ (fun j j0 j1 => by simp at j1; omega)
  obtain ⟨a, i4, h4, e4, ha, hi4⟩ := dBelow h3 (n := 40) hl hi3 (by omega)
  obtain ⟨b, i5, h5, e5, hb, hi5⟩ := dBelow h4 (n := 40) hl hi4 (by omega)
  refine ⟨m, a, a + b, hw, by omega, ?_⟩
  unfold spec_DrawWind.f
  refine Ev.bind e0 (Ev.bind (a := (m, i3, h3)) ?_ ?_)
  · unfold spec_l4Draw.f
    simp only [e1, e2, Option.bind_some]
    exact e3
  · simp only [e4, e5, Option.bind_some]
    rw [w64 (by omega) (by omega)]
    exact Ev.now _

theorem FnDrifts : laws_FnDrifts.Pure := by
  intro l _ _ _
  refine Ev.rounds (r := true) ?_
  unfold laws_FnDrifts.f
  simp only [lawBig, Option.bind_some]
  by_cases hb : (l.length : Int) > 4096
  · simp only [hb, decide_true, if_true]
    exact Ev.now _
  · simp only [hb, decide_false, Bool.false_eq_true, if_false]
    have hl : l.length ≤ 4096 := by omega
    obtain ⟨m, a, b, hw, hab, e⟩ := drawWind l hl
    refine Ev.bind e ?_
    have hex : ∀ t, ∃ p : Int × Int, DR p.1 p.2 ∧ Ev (fun k => impl_DriftAt.f k m t) p := fun t => by
      obtain ⟨x, y, h1, h2⟩ := drift_ex m hw t
      exact ⟨(x, y), h1, h2⟩
    obtain ⟨F, hF⟩ : ∃ F : Int → Int × Int, ∀ t, DR (F t).1 (F t).2 ∧ Ev (fun k => impl_DriftAt.f k m t) (F t) := ⟨fun t => Classical.choose (hex t), fun t => Classical.choose_spec (hex t)⟩
    have hf : ∀ t, -8 ≤ (F t).1 ∧ (F t).1 ≤ 8 := fun t => (hF t).1.1
    have hg : ∀ t, -8 ≤ (F t).2 ∧ (F t).2 ≤ 8 := fun t => (hF t).1.2
    have ho := fun a b h0 h1 h2 => driftOver m hw (fun t => (F t).1) (fun t => (F t).2) hf hg (fun t => (hF t).2) a b h0 h1 h2
    have loop : ∀ (d : Nat) (t : Int), a ≤ t → b + 1 - t = d → Ev (fun k => laws_FnDrifts.l0 k m a b t) true := by
      intro d
      induction d with
      | zero =>
        intro t h1 hd
        refine Ev.succ' ?_
        simp only [laws_FnDrifts.l0, if_neg (show ¬ t ≤ b by omega)]
        rw [w64 (by omega) (by omega)]
        refine Ev.bind (ho a (a + 1) (by omega) (by omega) (by omega)) (Ev.bind (hF a).2 ?_)
        rw [show (a + 1 - a).toNat = 1 by omega]
        simp only [sumD, Int.add_zero, beq_self_eq_true, Bool.and_self]
        exact Ev.now _
      | succ d ih =>
        intro t h1 hd
        refine Ev.succ' ?_
        simp only [laws_FnDrifts.l0, if_pos (show t ≤ b by omega)]
        refine Ev.bind (ho a t (by omega) (by omega) (by omega)) (Ev.bind (ho t b (by omega) (by omega) (by omega)) (Ev.bind (ho a b (by omega) (by omega) (by omega)) ?_))
        simp only [if_true, laws_plus.f, Option.bind_some]
        have s1 := sumD_add (fun t => (F t).1) (t - a).toNat (b - t).toNat a
        have s2 := sumD_add (fun t => (F t).2) (t - a).toNat (b - t).toNat a
        rw [show (t - a).toNat + (b - t).toNat = (b - a).toNat by omega, show a + ((t - a).toNat : Int) = t by omega] at s1 s2
        have b1 := sumD_bd (fun t => (F t).1) hf (b - a).toNat a
        have b2 := sumD_bd (fun t => (F t).2) hg (b - a).toNat a
        rw [w64 (x := t + 1) (by omega) (by omega), ← s1, ← s2, w64 (x := sumD (fun t => (F t).1) (b - a).toNat a) (by omega) (by omega), w64 (x := sumD (fun t => (F t).2) (b - a).toNat a) (by omega) (by omega)]
        simp only [beq_self_eq_true, Bool.not_true, Bool.or_self, Bool.false_eq_true, if_false]
        exact ih (t + 1) (by omega) (by omega)
    exact loop (b + 1 - a).toNat a (by omega) (by omega)

end Go.Proofs.Ytkioodeeadhdaaa.Pure
