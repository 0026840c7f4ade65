/- The plain law behind FnMeasures: for every input that the row lets in, the printed function of the law answers true. No condition beyond the bounds that the statement names. -/
import Derived.Test.YtkioodeeadhdaaaPFnMeasuresx3
namespace Go.Proofs.Ytkioodeeadhdaaa.Pure
open Go.RowKit Go.Proofs.Ytkioodeeadhdaaa.PFnMeasures Go.Proofs.YtkioodeeadhdaaaW.PrintWords Go.Proofs.YtkioodeeadhdaaaW.PrintLast
open Go.Proofs.YtkioodeeadhdaaaW.PrintMore
set_option linter.unusedVariables false
set_option linter.unusedSimpArgs false

theorem w64 {x : Int} (h0 : -9223372036854775808 ≤ x) (h1 : x ≤ 9223372036854775807) : wrap64 x = x := by unfold wrap64; omega
theorem wfb {a : Int} (h : (Lit.int .i64 a).wf = true) : -9223372036854775808 ≤ a ∧ a ≤ 9223372036854775807 := by
  simp [Lit.wf, IntKind.min, IntKind.max, IntKind.signed, IntKind.bits] at h
  omega
theorem Ev.succ' {α : Type} {g : Nat → Option α} {r : α} (h : Ev (fun k => g (k + 1)) r) : Ev g r := Ev.step (fun _ => rfl) h
theorem dec_congr {p q : Prop} [Decidable p] [Decidable q] (h : p ↔ q) : decide p = decide q := by simp [h]

theorem sIsMeasure (x : Int) : spec_IsMeasure.f x = some (decide (-4096 ≤ x ∧ x ≤ 4096)) := by
  unfold spec_IsMeasure.f
  split <;> simp <;> omega

theorem iWithin (a b c : Int) : impl_isWithin.f a b c = some (decide (b ≤ a ∧ a ≤ c)) := by
  unfold impl_isWithin.f
  split <;> simp <;> omega

theorem iIsMeasure (x : Int) : impl_IsMeasure.f x = some (decide (-4096 ≤ x ∧ x ≤ 4096)) := by
  unfold impl_IsMeasure.f
  rw [iWithin]
  rfl

theorem tmod_pos {a b : Int} (h : 0 ≤ a) : Int.tmod a b = a % b := Int.tmod_eq_emod_of_nonneg h
theorem tmod_neg' (a b : Int) : Int.tmod (-a) b = -(Int.tmod a b) := Int.neg_tmod a b
theorem tdiv_pos {a b : Int} (h : 0 ≤ a) : Int.tdiv a b = a / b := Int.tdiv_eq_ediv_of_nonneg h
theorem tmod4 (n : Int) : (Int.tmod n 4 < 0 → Int.tmod n 4 + 4 = n % 4) ∧ (¬ Int.tmod n 4 < 0 → Int.tmod n 4 = n % 4) ∧ -3 ≤ Int.tmod n 4 ∧ Int.tmod n 4 ≤ 3 := by
  rcases Int.le_total 0 n with h | h
  · rw [tmod_pos h]; omega
  · obtain ⟨m, rfl⟩ : ∃ m, n = -m := ⟨-n, by omega⟩
    rw [tmod_neg', tmod_pos (by omega)]; omega

theorem sTimes (k : Nat) (x n : Int) : spec_TimesMeasure.f (k + 2) x n = some (if ¬ (-4096 ≤ x ∧ x ≤ 4096) ∨ x ≠ 0 ∧ ¬ (-4096 ≤ n ∧ n ≤ 4096) then (0, false) else if x = 0 then (0, true) else if -4096 ≤ wrap64 (x * n) ∧ wrap64 (x * n) ≤ 4096 then (wrap64 (x * n), true) else (0, false)) := by
  unfold spec_TimesMeasure.f
  simp only [spec_TimesMeasure.j0, spec_TimesMeasure.j1, sIsMeasure, Option.bind_some]
  generalize wrap64 (x * n) = z
  by_cases h1 : -4096 ≤ x ∧ x ≤ 4096
  · by_cases h2 : x = 0
    · subst h2
      by_cases h3 : n < -4096 <;> simp [h3]
    · by_cases h3 : -4096 ≤ n ∧ n ≤ 4096
      · by_cases h5 : -4096 ≤ z ∧ z ≤ 4096 <;> simp [h1, h2, h3, h5, show ¬ n < -4096 by omega, show ¬ n > 4096 by omega]
      · by_cases h4 : n < -4096
        · simp [h1, h2, h3, h4]
        · simp [h1, h2, h3, h4, show n > 4096 by omega]
  · by_cases h3 : n < -4096 <;> simp [h1, h3]

theorem iTimes (x n : Int) : impl_TimesMeasure.f x n = some (if ¬ (-4096 ≤ x ∧ x ≤ 4096) ∨ x ≠ 0 ∧ ¬ (-4096 ≤ n ∧ n ≤ 4096) then (0, false) else if x = 0 then (0, true) else if -4096 ≤ wrap64 (x * n) ∧ wrap64 (x * n) ≤ 4096 then (wrap64 (x * n), true) else (0, false)) := by
  unfold impl_TimesMeasure.f
  simp only [iIsMeasure, Option.bind_some]
  generalize wrap64 (x * n) = z
  by_cases h2 : x = 0
  · subst h2
    simp
  · by_cases h1 : -4096 ≤ x ∧ x ≤ 4096
    · by_cases h3 : -4096 ≤ n ∧ n ≤ 4096
      · by_cases h5 : -4096 ≤ z ∧ z ≤ 4096 <;> simp [h1, h2, h3, h5]
      · simp [h1, h2, h3]
    · simp [h1, h2]

theorem rd_get (l : List Int) (i : Int) (h0 : 0 ≤ i) (h1 : i < l.length) : l[i.toNat]? = some (rd l i) := by
  unfold rd
  rw [List.getD_eq_getElem?_getD]
  obtain ⟨v, hv⟩ : ∃ v, l[i.toNat]? = some v := ⟨_, List.getElem?_eq_getElem (by omega)⟩
  rw [hv]; rfl

theorem and255 (x : Int) : 0 ≤ bits .and .i64 x 255 ∧ bits .and .i64 x 255 ≤ 255 := by
  simp only [bits]
  have h : ((BitVec.ofInt IntKind.i64.bits x &&& BitVec.ofInt IntKind.i64.bits 255).toNat : Int) ≤ 255 := by
    rw [BitVec.toNat_and]
    have : (BitVec.ofInt IntKind.i64.bits x).toNat &&& (BitVec.ofInt IntKind.i64.bits 255).toNat ≤ 255 := Nat.le_trans Nat.and_le_right (by decide)
    omega
  have h0 : (0 : Int) ≤ ((BitVec.ofInt IntKind.i64.bits x &&& BitVec.ofInt IntKind.i64.bits 255).toNat : Int) := Int.natCast_nonneg _
  generalize ((BitVec.ofInt IntKind.i64.bits x &&& BitVec.ofInt IntKind.i64.bits 255).toNat : Int) = z at h h0
  have e : IntKind.i64.wrap z = z := by
    simp [IntKind.wrap, IntKind.bits, IntKind.signed]
    split <;> omega
  rw [e]
  exact ⟨h0, h⟩
theorem dByte {l : List Int} {i : Int} (h : Int) (hl : l.length ≤ 4096) (hi : 0 ≤ i) : ∃ x i' h', spec_l1Byte.f l i h = some (x, i', h') ∧ (0 ≤ x ∧ x ≤ 255) ∧ 0 ≤ i' := by
  unfold spec_l1Byte.f
  by_cases hlt : i < (l.length : Int)
  · rw [if_pos hlt, if_pos hi]
    exact ⟨_, _, _, rfl, and255 _, by rw [w64 (by omega) (by omega)]; omega⟩
  · rw [if_neg hlt]
    exact ⟨_, _, _, rfl, and255 _, hi⟩

theorem tmod_bd {a n : Int} (ha : 0 ≤ a) (hn : 0 < n) : 0 ≤ Int.tmod a n ∧ Int.tmod a n < n := by
  rw [tmod_pos ha]
  exact ⟨Int.emod_nonneg _ (by omega), Int.emod_lt_of_pos _ hn⟩
theorem dBelow {l : List Int} {i : Int} (h : Int) {n : Int} (hl : l.length ≤ 4096) (hi : 0 ≤ i) (hn : 0 < n) : ∃ x i' h', spec_l1Below.f l i h n = some (x, i', h') ∧ (0 ≤ x ∧ x < n) ∧ 0 ≤ i' := by
  unfold spec_l1Below.f
  rw [if_neg (by omega)]
  split
  · obtain ⟨x, i1, h1, e, hx, hi1⟩ := dByte h hl hi
    rw [e]
    simp only [Option.bind_some]
    rw [if_neg (by omega)]
    exact ⟨_, _, _, rfl, tmod_bd hx.1 hn, hi1⟩
  · obtain ⟨x, i1, h1, e1, hx, hi1⟩ := dByte h hl hi
    rw [e1]
    simp only [Option.bind_some]
    obtain ⟨y, i2, h2, e2, hy, hi2⟩ := dByte h1 hl hi1
    rw [e2]
    simp only [Option.bind_some]
    obtain ⟨z, i3, h3, e3, hz, hi3⟩ := dByte h2 hl hi2
    rw [e3]
    simp only [Option.bind_some]
    rw [if_neg (by omega)]
    refine ⟨_, _, _, rfl, tmod_bd ?_ hn, hi3⟩
    rw [w64 (x := x * 65536) (by omega) (by omega), w64 (x := y * 256) (by omega) (by omega), w64 (x := x * 65536 + y * 256) (by omega) (by omega), w64 (x := x * 65536 + y * 256 + z) (by omega) (by omega)]
    omega

theorem dSome {l : List Int} {i : Int} (h : Int) {a b : Int} (hl : l.length ≤ 4096) (hi : 0 ≤ i) (hab : -1000000 ≤ a ∧ a ≤ b ∧ b ≤ 1000000) : ∃ x i' h', spec_l1Some.f l i h a b = some (x, i', h') ∧ (a ≤ x ∧ x ≤ b) ∧ 0 ≤ i' := by
  unfold spec_l1Some.f
  rw [w64 (x := b - a) (by omega) (by omega), w64 (x := b - a + 1) (by omega) (by omega)]
  obtain ⟨x, i1, h1, e, hx, hi1⟩ := dBelow h hl hi (show 0 < b - a + 1 by omega)
  rw [e]
  simp only [Option.bind_some]
  refine ⟨_, _, _, rfl, ?_, hi1⟩
  rw [w64 (by omega) (by omega)]
  omega

theorem dOnce {l : List Int} {i : Int} (h : Int) {n : Int} (hl : l.length ≤ 4096) (hi : 0 ≤ i) (hn : 0 < n) : ∃ x i' h', spec_l1Once.f l i h n = some (x, i', h') ∧ 0 ≤ i' := by
  unfold spec_l1Once.f
  obtain ⟨x, i1, h1, e, hx, hi1⟩ := dBelow h hl hi hn
  rw [e]
  simp only [Option.bind_some]
  exact ⟨_, _, _, rfl, hi1⟩

theorem dInt {l : List Int} {i : Int} (h : Int) {m : List Int} (hl : l.length ≤ 4096) (hi : 0 ≤ i) (hm : 0 < m.length) : ∃ x i' h', spec_l1Int.f l i h m = some (x, i', h') ∧ x ∈ m ∧ 0 ≤ i' := by
  unfold spec_l1Int.f
  obtain ⟨x, i1, h1, e, hx, hi1⟩ := dBelow h hl hi (show 0 < (m.length : Int) by omega)
  rw [e]
  simp only [Option.bind_some]
  rw [if_pos hx.1, if_pos hx.2]
  refine ⟨_, _, _, rfl, ?_, hi1⟩
  unfold rd
  rw [List.getD_eq_getElem?_getD, List.getElem?_eq_getElem (by omega)]
  exact List.getElem_mem _

def I64 (x : Int) : Prop := -9223372036854775808 ≤ x ∧ x ≤ 9223372036854775807

theorem dOdd {l : List Int} {i : Int} (h : Int) (hl : l.length ≤ 4096) (hi : 0 ≤ i) : ∃ x i' h', spec_l1Odd.f l i h = some (x, i', h') ∧ I64 x ∧ 0 ≤ i' := by
  unfold spec_l1Odd.f
  obtain ⟨x, i1, h1, e, hx, hi1⟩ := dInt h (m := [(-1), 0, 1, 2, 3, 7, 8, 9, 15, 16, 17, 63, 64, 65, 999, 1000, 4096, 4097, 9223372036854775807, (-9223372036854775808)]) hl hi (by simp)
  rw [e]
  simp only [Option.bind_some]
  refine ⟨_, _, _, rfl, ?_, hi1⟩
  unfold I64
  simp only [List.mem_cons, List.not_mem_nil, or_false] at hx
  omega

theorem dBent {l : List Int} {i : Int} (h : Int) (hl : l.length ≤ 4096) (hi : 0 ≤ i) : ∃ x i' h', spec_l1Bent.f l i h = some (x, i', h') ∧ I64 x ∧ 0 ≤ i' := by
  unfold spec_l1Bent.f
  obtain ⟨b, i1, h1, e, hi1⟩ := dOnce h hl hi (show (0 : Int) < 8 by omega)
  rw [e]
  simp only [Option.bind_some]
  split
  · obtain ⟨x, i2, h2, e2, hx, hi2⟩ := dOdd h1 hl hi1
    rw [e2]
    exact ⟨_, _, _, rfl, hx, hi2⟩
  · obtain ⟨x, i2, h2, e2, hx, hi2⟩ := dSome h1 (a := -100) (b := 100) hl hi1 (by omega)
    rw [e2]
    refine ⟨_, _, _, rfl, ?_, hi2⟩
    unfold I64; omega

theorem new_loop (l : List Int) (hl : l.length ≤ 4096) (d : Nat) : ∀ (i h : Int), 0 ≤ i → (l.length : Int) - i = d → ∃ h', Ev (fun k => spec_l1New.l0 k l h i) (l, 0, h') := by
  induction d with
  | zero =>
    intro i h h0 hd
    refine ⟨h, Ev.succ' ?_⟩
    simp only [spec_l1New.l0, if_neg (show ¬ i < (l.length : Int) by omega)]
    exact Ev.now _
  | succ d ih =>
    intro i h h0 hd
    by_cases h4 : i < 4000
    · obtain ⟨h', e⟩ := ih (i + 1) (bits .and .i64 (wrap64 ((wrap64 ((wrap64 (h * 167)) + (wrap64 (rd l i)))) + 29)) 1073741823) (by omega) (by omega)
      refine ⟨h', Ev.succ' ?_⟩
      simp only [spec_l1New.l0, if_pos (show i < (l.length : Int) by omega), if_pos h4, if_pos h0]
      rw [w64 (x := i + 1) (by omega) (by omega)]
      exact e
    · refine ⟨h, Ev.succ' ?_⟩
      simp only [spec_l1New.l0, if_pos (show i < (l.length : Int) by omega), if_neg h4]
      exact Ev.now _
theorem dNew (l : List Int) (hl : l.length ≤ 4096) : ∃ h, Ev (fun k => spec_l1New.f k l) (l, 0, h) := by
  unfold spec_l1New.f
  exact new_loop l hl l.length 0 _ (by omega) (by omega)

theorem lawBig (l : List Int) : laws_big.f l = some (decide ((l.length : Int) > 4096)) := rfl

def timesV (x n : Int) : Int × Bool := if ¬ (-4096 ≤ x ∧ x ≤ 4096) ∨ x ≠ 0 ∧ ¬ (-4096 ≤ n ∧ n ≤ 4096) then (0, false) else if x = 0 then (0, true) else if -4096 ≤ wrap64 (x * n) ∧ wrap64 (x * n) ≤ 4096 then (wrap64 (x * n), true) else (0, false)
theorem sTimesV (x n : Int) : Ev (fun k => spec_TimesMeasure.f k x n) (timesV x n) := ⟨2, fun k hk => by
  obtain ⟨m, rfl⟩ : ∃ m, k = m + 2 := ⟨k - 2, by omega⟩
  exact sTimes m x n⟩
theorem iTimesV (x n : Int) : impl_TimesMeasure.f x n = some (timesV x n) := iTimes x n

def tot : List Int → Int
  | [] => 0
  | x :: l => x + tot l
def allM (l : List Int) : Prop := ∀ x ∈ l, -4096 ≤ x ∧ x ≤ 4096
instance (l : List Int) : Decidable (allM l) := by unfold allM; infer_instance
def sumV (l : List Int) : Int × Bool := if allM l ∧ (-4096 ≤ tot l ∧ tot l ≤ 4096) then (tot l, true) else (0, false)
theorem tot_append (a b : List Int) : tot (a ++ b) = tot a + tot b := by
  induction a with
  | nil => simp [tot]
  | cons x a ih => simp only [List.cons_append, tot, ih]; omega
theorem tot_bd {l : List Int} (h : allM l) : -4096 * l.length ≤ tot l ∧ tot l ≤ 4096 * l.length := by
  induction l with
  | nil => simp [tot]
  | cons x l ih =>
    have h1 := h x (List.mem_cons_self ..)
    have h2 := ih (fun y hy => h y (List.mem_cons_of_mem _ hy))
    simp only [tot, List.length_cons]
    omega
theorem sumV_perm {a b : List Int} (h1 : ∀ x, x ∈ a ↔ x ∈ b) (h2 : tot a = tot b) : sumV a = sumV b := by
  have : allM a ↔ allM b := ⟨fun h x hx => h x ((h1 x).2 hx), fun h x hx => h x ((h1 x).1 hx)⟩
  unfold sumV
  rw [h2]
  by_cases h : allM a
  · by_cases h3 : -4096 ≤ tot b ∧ tot b ≤ 4096
    · rw [if_pos ⟨h, h3⟩, if_pos ⟨this.1 h, h3⟩]
    · rw [if_neg (fun hh => h3 hh.2), if_neg (fun hh => h3 hh.2)]
  · rw [if_neg (fun hh => h hh.1), if_neg (fun hh => h (this.2 hh.1))]
theorem iSum_loop (l : List Int) (hl : l.length ≤ 1048576) (d : Nat) : ∀ (i n : Int), 0 ≤ i → (l.length : Int) - i = d → allM (l.take i.toNat) → n = tot (l.take i.toNat) → Ev (fun k => impl_SumMeasures.l0 k n l (l.length : Int) i) (sumV l) := by
  induction d with
  | zero =>
    intro i n h0 hd ha hn
    rw [List.take_of_length_le (by omega)] at ha hn
    refine Ev.succ' ?_
    simp only [impl_SumMeasures.l0, if_neg (show ¬ i < (l.length : Int) by omega), iIsMeasure, Option.bind_some, decide_eq_true_eq]
    subst hn
    unfold sumV
    by_cases h : -4096 ≤ tot l ∧ tot l ≤ 4096
    · simp only [if_pos h, if_pos (show allM l ∧ (-4096 ≤ tot l ∧ tot l ≤ 4096) from ⟨ha, h⟩)]; exact Ev.now _
    · simp only [if_neg h, if_neg (show ¬ (allM l ∧ (-4096 ≤ tot l ∧ tot l ≤ 4096)) from fun hh => h hh.2)]; exact Ev.now _
  | succ d ih =>
    intro i n h0 hd ha hn
    have hget := rd_get l i h0 (by omega)
    have htake : l.take (i + 1).toNat = l.take i.toNat ++ [rd l i] := by
      rw [show (i + 1).toNat = i.toNat + 1 by omega, List.take_add_one, hget]
      rfl
    by_cases hm : -4096 ≤ rd l i ∧ rd l i ≤ 4096
    · have hb := tot_bd ha
      have hlen : (l.take i.toNat).length ≤ 1048576 := by rw [List.length_take]; omega
      refine Ev.succ' ?_
      simp only [impl_SumMeasures.l0, iIsMeasure, Option.bind_some, decide_eq_true_eq, if_pos (show i < (l.length : Int) by omega), if_pos h0, if_pos hm]
      rw [w64 (x := n + rd l i) (by omega) (by omega), w64 (x := i + 1) (by omega) (by omega)]
      refine ih (i + 1) _ (by omega) (by omega) ?_ ?_
      · rw [htake]
        intro x hx
        rcases List.mem_append.1 hx with h1 | h1
        · exact ha x h1
        · simp at h1; rw [h1]; exact hm
      · rw [htake, tot_append, ← hn]; simp [tot]
    · refine Ev.succ' ?_
      simp only [impl_SumMeasures.l0, iIsMeasure, Option.bind_some, decide_eq_true_eq, if_pos (show i < (l.length : Int) by omega), if_pos h0, if_neg hm]
      rw [show sumV l = (0, false) by
        unfold sumV
        rw [if_neg]
        intro hh
        exact hm (hh.1 _ (List.mem_of_getElem? hget))]
      exact Ev.now _
theorem iSum (l : List Int) (hl : l.length ≤ 1048576) : Ev (fun k => impl_SumMeasures.f k l) (sumV l) := by
  unfold impl_SumMeasures.f
  exact iSum_loop l hl l.length 0 0 (by omega) (by omega) (by simp [allM]) (by simp [tot])

theorem drawTimes (l : List Int) (hl : l.length ≤ 4096) : ∃ x n, I64 x ∧ I64 n ∧ Ev (fun k => spec_DrawTimesMeasure.f k l) (x, n) := by
  obtain ⟨h0, e0⟩ := dNew l hl
  unfold spec_DrawTimesMeasure.f
  obtain ⟨o, i1, h1, e1, hi1⟩ := dOnce (i := 0) h0 (n := 5) hl (by omega) (by omega)
  cases o with
  | true =>
    obtain ⟨a, i2, h2, e2, ha, hi2⟩ := dBent h1 hl hi1
    obtain ⟨b, i3, h3, e3, hb, hi3⟩ := dOdd h2 hl hi2
    refine ⟨a, b, ha, hb, Ev.bind e0 ?_⟩
    simp only [e1, e2, e3, Option.bind_some, if_true]
    exact Ev.now _
  | false =>
    obtain ⟨a, i2, h2, e2, ha, hi2⟩ := dSome h1 (a := -60) (b := 60) hl hi1 (by omega)
    obtain ⟨b, i3, h3, e3, hb, hi3⟩ := dBelow h2 (n := 160) hl hi2 (by omega)
    refine ⟨a, b - 60, by unfold I64; omega, by unfold I64; omega, Ev.bind e0 ?_⟩
    simp only [e1, e2, e3, Option.bind_some, Bool.false_eq_true, if_false]
    rw [w64 (by omega) (by omega)]
    exact Ev.now _

theorem drawSum_loop (l : List Int) (hl : l.length ≤ 4096) (d : Nat) : ∀ (acc : List Int) (n i h : Int), 0 ≤ i → n = d → n ≤ 10 → acc.length + n ≤ 10 → ∃ r, r.length ≤ 10 ∧ Ev (fun k => spec_DrawSumMeasures.l0 k acc n l i h) r := by
  induction d with
  | zero =>
    intro acc n i h hi hd hn ha
    refine ⟨acc, by omega, Ev.succ' ?_⟩
    simp only [spec_DrawSumMeasures.l0, if_neg (show ¬ n > 0 by omega)]
    exact Ev.now _
  | succ d ih =>
    intro acc n i h hi hd hn ha
    obtain ⟨a, i2, h2, e2, ha2, hi2⟩ := dBent h hl hi
    obtain ⟨b, i3, h3, e3, hb, hi3⟩ := dInt h2 (m := [1, 1, 20]) hl hi2 (by simp)
    obtain ⟨r, hr, e⟩ := ih (acc ++ [wrap64 (a * b)]) (n - 1) i3 h3 hi3 (by omega) (by omega) (by rw [List.length_append, List.length_singleton]; omega)
    refine ⟨r, hr, Ev.succ' ?_⟩
    simp only [spec_DrawSumMeasures.l0, if_pos (show n > 0 by omega), e2, e3, Option.bind_some, if_pos (show acc.length < 17592186044416 by omega)]
    rw [w64 (x := n - 1) (by omega) (by omega)]
    exact e
theorem drawSum (l : List Int) (hl : l.length ≤ 4096) : ∃ r, r.length ≤ 10 ∧ Ev (fun k => spec_DrawSumMeasures.f k l) r := by
  obtain ⟨h0, e0⟩ := dNew l hl
  unfold spec_DrawSumMeasures.f
  obtain ⟨n, i1, h1, e1, hn, hi1⟩ := dBelow (i := 0) h0 (n := 7) hl (by omega) (by omega)
  obtain ⟨r, hr, e⟩ := drawSum_loop l hl n.toNat [] n i1 h1 hi1 (by omega) (by omega) (by simp; omega)
  refine ⟨r, hr, Ev.bind e0 ?_⟩
  simp only [e1, Option.bind_some]
  exact e

theorem FnMeasures : laws_FnMeasures.Pure := by
  intro l _ _ _
  refine Ev.rounds (r := true) ?_
  unfold laws_FnMeasures.f
  simp only [lawBig, Option.bind_some]
  by_cases hb : (l.length : Int) > 4096
  · simp only [hb, decide_true, if_true]
    exact Ev.now _
  · simp only [hb, decide_false, Bool.false_eq_true, if_false]
    have hl : l.length ≤ 4096 := by omega
    obtain ⟨x, n, hx, hn, e⟩ := drawTimes l hl
    unfold I64 at hx hn
    refine Ev.bind e ?_
    simp only [iTimesV, Option.bind_some]
    refine Ev.bind (sTimesV x n) ?_
    simp only [bne_self_eq_false, Bool.false_eq_true, if_false, iIsMeasure, Option.bind_some]
    -- the tail: a drawn list and its reverse
    have tail : Ev (fun k => laws_FnMeasures.j3 k l false) true := by
      refine Ev.succ' ?_
      simp only [laws_FnMeasures.j3, Bool.false_eq_true, if_false]
      obtain ⟨a, ha, ea⟩ := drawSum l hl
      refine Ev.bind ea ?_
      rw [w64 (by omega) (by omega)]
      have loop : ∀ (d : Nat) (acc : List Int) (i : Int), i + 1 = d → i < a.length → acc = (a.drop (i + 1).toNat).reverse → Ev (fun k => laws_FnMeasures.l1 k a acc i) true := by
        intro d
        induction d with
        | zero =>
          intro acc i hd hi hacc
          have : acc = a.reverse := by rw [hacc, show (i + 1).toNat = 0 by omega, List.drop_zero]
          subst this
          refine Ev.succ' ?_
          simp only [laws_FnMeasures.l1, if_neg (show ¬ i ≥ 0 by omega)]
          refine Ev.bind (iSum a (by omega)) (Ev.bind (iSum a.reverse (by rw [List.length_reverse]; omega)) ?_)
          have hrev : ∀ b : List Int, tot b.reverse = tot b := fun b => by
            induction b with
            | nil => rfl
            | cons y b ih => rw [List.reverse_cons, tot_append, ih]; simp only [tot]; omega
          rw [sumV_perm (a := a.reverse) (b := a) (fun z => List.mem_reverse) (hrev a)]
          simp only [if_true, beq_self_eq_true]
          exact Ev.now _
        | succ d ih =>
          intro acc i hd hi hacc
          have hlen : acc.length ≤ 10 := by rw [hacc, List.length_reverse, List.length_drop]; omega
          refine Ev.succ' ?_
          simp only [laws_FnMeasures.l1, if_pos (show i ≥ 0 by omega), if_pos (show 0 ≤ i by omega), if_pos hi, if_pos (show acc.length < 17592186044416 by omega)]
          rw [w64 (by omega) (by omega)]
          refine ih _ (i - 1) (by omega) (by omega) ?_
          have hg := rd_get a i (by omega) hi
          have : a.drop (i - 1 + 1).toNat = rd a i :: a.drop (i + 1).toNat := by
            rw [show (i - 1 + 1).toNat = i.toNat by omega, show (i + 1).toNat = i.toNat + 1 by omega, List.drop_eq_getElem_cons (by omega)]
            congr 1
            rw [List.getElem?_eq_getElem (by omega)] at hg
            exact Option.some.inj hg
          rw [this, List.reverse_cons, hacc]
      exact loop a.length [] ((a.length : Int) - 1) (by omega) (by omega) (by rw [show ((a.length : Int) - 1 + 1).toNat = a.length by omega, List.drop_length]; rfl)
    -- the list of x, n times
    have mid : ∀ acc : List Int, acc = List.replicate (if n ≤ 200 then n.toNat else 0) x → Ev (fun k => laws_FnMeasures.j2 k l x n (timesV x n).1 (timesV x n).2 acc) true := by
      intro acc hacc
      have hlen : acc.length ≤ 200 := by rw [hacc, List.length_replicate]; split <;> omega
      refine Ev.succ' ?_
      simp only [laws_FnMeasures.j2]
      refine Ev.bind (iSum acc (by omega)) ?_
      by_cases h0 : n ≥ 0
      · by_cases h2 : n ≤ 200
        · simp only [if_pos h0, if_pos h2, iIsMeasure, Option.bind_some]
          by_cases hm : -4096 ≤ x ∧ x ≤ 4096
          · simp only [hm, and_self, decide_true, if_true]
            rw [if_pos h2] at hacc
            have htot : ∀ m : Nat, tot (List.replicate m x) = m * x := fun m => by
              induction m with
              | zero => simp [tot]
              | succ m ih => rw [List.replicate_succ, tot, ih]; rw [Int.natCast_succ, Int.add_mul, Int.one_mul]; omega
            have hall : allM acc := fun y hy => by
              rw [hacc] at hy
              rw [(List.mem_replicate.1 hy).2]; exact hm
            have ht : tot acc = n * x := by rw [hacc, htot, show ((n.toNat : Nat) : Int) = n by omega]
            have hbd := tot_bd hall
            have hv : sumV acc = timesV x n := by
              unfold sumV timesV
              rw [if_neg (show ¬ (¬ (-4096 ≤ x ∧ x ≤ 4096) ∨ x ≠ 0 ∧ ¬ (-4096 ≤ n ∧ n ≤ 4096)) by omega), ht, Int.mul_comm x n]
              rw [w64 (x := n * x) (by omega) (by omega)]
              by_cases hx0 : x = 0
              · subst hx0
                rw [if_pos rfl, if_pos ⟨hall, by simp⟩]
                simp
              · rw [if_neg hx0]
                by_cases hr : -4096 ≤ n * x ∧ n * x ≤ 4096
                · rw [if_pos ⟨hall, hr⟩, if_pos hr]
                · rw [if_neg (fun hh => hr hh.2), if_neg hr]
            rw [hv]
            simp only [bne_self_eq_false, Bool.false_eq_true, if_false]
            exact tail
          · simp only [hm, decide_false, Bool.false_eq_true, if_false]
            exact tail
        · simp only [if_pos h0, if_neg h2]
          exact tail
      · simp only [if_neg h0]
        exact tail
    have build : Ev (fun k => laws_FnMeasures.l0 k l x n (timesV x n).1 (timesV x n).2 [] 0) true := by
      have loop : ∀ (d : Nat) (acc : List Int) (i : Int), 0 ≤ i → n - i = d → n ≤ 200 → acc = List.replicate i.toNat x → Ev (fun k => laws_FnMeasures.l0 k l x n (timesV x n).1 (timesV x n).2 acc i) true := by
        intro d
        induction d with
        | zero =>
          intro acc i h0 hd h2 hacc
          refine Ev.succ' ?_
          simp only [laws_FnMeasures.l0, if_neg (show ¬ i < n by omega)]
          refine mid acc ?_
          rw [hacc, if_pos h2, show i.toNat = n.toNat by omega]
        | succ d ih =>
          intro acc i h0 hd h2 hacc
          have hlen : acc.length ≤ 200 := by rw [hacc, List.length_replicate]; omega
          refine Ev.succ' ?_
          simp only [laws_FnMeasures.l0, if_pos (show i < n by omega), if_pos h2, if_pos (show acc.length < 17592186044416 by omega)]
          rw [w64 (x := i + 1) (by omega) (by omega)]
          refine ih _ (i + 1) (by omega) (by omega) h2 ?_
          rw [hacc, show (i + 1).toNat = i.toNat + 1 by omega, List.replicate_succ']
      by_cases h2 : n ≤ 200
      · by_cases h0 : 0 ≤ n
        · exact loop n.toNat [] 0 (by omega) (by omega) h2 (by simp)
        · refine Ev.succ' ?_
          simp only [laws_FnMeasures.l0, if_neg (show ¬ (0 : Int) < n by omega)]
          refine mid [] ?_
          rw [if_pos h2, show n.toNat = 0 by omega]; rfl
      · refine Ev.succ' ?_
        simp only [laws_FnMeasures.l0, if_pos (show (0 : Int) < n by omega), if_neg h2]
        refine mid [] ?_
        rw [if_neg h2]; rfl
    have go : ∀ b : Bool, b = false → Ev (fun k => laws_FnMeasures.j0 k l x n (timesV x n).1 (timesV x n).2 b) true := fun b hb => by
      refine Ev.succ' ?_
      simp only [laws_FnMeasures.j0, hb, Bool.false_eq_true, if_false]
      exact build
    by_cases hm : -4096 ≤ x ∧ x ≤ 4096
    · simp only [hm, and_self, decide_true, if_true]
      by_cases hx0 : x = 0
      · simp only [if_pos hx0]
        refine go _ ?_
        rw [show timesV x n = (0, true) by unfold timesV; rw [if_neg (by omega), if_pos hx0]]
        rfl
      · simp only [if_neg hx0]
        by_cases h1 : n ≥ -4096
        · by_cases h2 : n ≤ 4096
          · simp only [if_pos h1, if_pos h2]
            refine go _ ?_
            unfold timesV
            rw [if_neg (by omega), if_neg hx0]
            generalize wrap64 (x * n) = z
            by_cases hz : -4096 ≤ z ∧ z ≤ 4096
            · rw [if_pos hz]; simp [hz]
            · rw [if_neg hz]; simp [hz]
          · simp only [if_pos h1, if_neg h2]
            refine go _ ?_
            rw [show timesV x n = (0, false) by unfold timesV; rw [if_pos (by omega)]]
            rfl
        · simp only [if_neg h1]
          refine go _ ?_
          rw [show timesV x n = (0, false) by unfold timesV; rw [if_pos (by omega)]]
          rfl
    · simp only [hm, decide_false, Bool.false_eq_true, if_false]
      refine go _ ?_
      rw [show timesV x n = (0, false) by unfold timesV; rw [if_pos (by omega)]]
      rfl

end Go.Proofs.Ytkioodeeadhdaaa.Pure
