/- The plain law behind FnPlaceOrder: for every input that the row lets in, the printed function of the law answers true. No condition beyond the bounds that the statement names. -/
import Derived.Test.YtcggonofidgchaaIFnPlaceOrderx5
namespace Go.Proofs.Ytcggonofidgchaa.Pure
open Go.RowKit Go.Proofs.Ytcggonofidgchaa.PFnPlaceOrder Go.Proofs.YtcggonofidgchaaW.PrintWords Go.Proofs.YtcggonofidgchaaW.PrintLast
open Go.Proofs.YtcggonofidgchaaW.PrintMore
set_option linter.unusedVariables false
set_option linter.unusedSimpArgs false

theorem w64 {x : Int} (h0 : -9223372036854775808 ≤ x) (h1 : x ≤ 9223372036854775807) : wrap64 x = x := by unfold wrap64; omega
theorem wfb {a : Int} (h : (Lit.int .i64 a).wf = true) : -9223372036854775808 ≤ a ∧ a ≤ 9223372036854775807 := by
  simp [Lit.wf, IntKind.min, IntKind.max, IntKind.signed, IntKind.bits] at h
  omega
theorem Ev.succ' {α : Type} {g : Nat → Option α} {r : α} (h : Ev (fun k => g (k + 1)) r) : Ev g r := Ev.step (fun _ => rfl) h
theorem dec_congr {p q : Prop} [Decidable p] [Decidable q] (h : p ↔ q) : decide p = decide q := by simp [h]

theorem tmod_pos {a b : Int} (h : 0 ≤ a) : Int.tmod a b = a % b := Int.tmod_eq_emod_of_nonneg h
theorem tmod_neg' (a b : Int) : Int.tmod (-a) b = -(Int.tmod a b) := Int.neg_tmod a b
theorem tdiv_pos {a b : Int} (h : 0 ≤ a) : Int.tdiv a b = a / b := Int.tdiv_eq_ediv_of_nonneg h
theorem tmod4 (n : Int) : (Int.tmod n 4 < 0 → Int.tmod n 4 + 4 = n % 4) ∧ (¬ Int.tmod n 4 < 0 → Int.tmod n 4 = n % 4) ∧ -3 ≤ Int.tmod n 4 ∧ Int.tmod n 4 ≤ 3 := by
  rcases Int.le_total 0 n with h | h
  · rw [tmod_pos h]; omega
  · obtain ⟨m, rfl⟩ : ∃ m, n = -m := ⟨-n, by omega⟩
    rw [tmod_neg', tmod_pos (by omega)]; omega

def cmpV (x y u v : Int) : Int := if x < u ∨ x = u ∧ y < v then -1 else if x = u ∧ y = v then 0 else 1

def c3 (a b : Int) : Int := if a < b then -1 else if a > b then 1 else 0
theorem icmp3 (a b : Int) : cmp_Compare_int.f a b = some (c3 a b) := by
  unfold cmp_Compare_int.f cmp_isNaN_int.f c3
  simp
  split
  · rfl
  · split <;> rfl
theorem iOr (a b : Int) : Ev (fun k => cmp_Or_int.f k [a, b]) (if a = 0 then b else a) := by
  unfold cmp_Or_int.f
  by_cases ha : a = 0
  · rw [if_pos ha]
    refine Ev.step (f := fun k => cmp_Or_int.l0 k 0 [a, b] 2 1) (fun k => ?_) ?_
    · simp [cmp_Or_int.l0, rd, ha]
      rw [w64 (by omega) (by omega)]
    · by_cases hb : b = 0
      · refine Ev.step (f := fun k => cmp_Or_int.l0 k 0 [a, b] 2 2) (fun k => ?_) (Ev.step (f := fun _ => some b) (fun k => ?_) (Ev.now _))
        · simp [cmp_Or_int.l0, rd, hb]
          rw [w64 (by omega) (by omega)]
        · simp [cmp_Or_int.l0, hb]
      · refine Ev.step (f := fun _ => some b) (fun k => ?_) (Ev.now _)
        simp [cmp_Or_int.l0, rd, hb]
  · rw [if_neg ha]
    refine Ev.step (f := fun _ => some a) (fun k => ?_) (Ev.now _)
    simp [cmp_Or_int.l0, rd, ha]
theorem iCmp (x y u v : Int) : Ev (fun k => impl_ComparePlaces.f k x y u v) (cmpV x y u v) := by
  unfold impl_ComparePlaces.f
  simp only [icmp3, Option.bind_some]
  have h := iOr (c3 x u) (c3 y v)
  have e : (if c3 x u = 0 then c3 y v else c3 x u) = cmpV x y u v := by
    unfold c3 cmpV
    by_cases h1 : x < u
    · simp [h1]
    · by_cases h2 : x = u
      · subst h2
        by_cases h3 : y < v
        · simp [h3]
        · by_cases h4 : y = v
          · simp [h4]
          · simp [h3, h4, show y > v by omega]
      · simp [h1, h2, show x > u by omega]
  rw [e] at h
  exact Ev.bind h (Ev.now _)

theorem getD_get {α : Type} (l : List α) (d : α) (i : Int) (h0 : 0 ≤ i) (h1 : i < l.length) : l[i.toNat]? = some (l.getD i.toNat d) := by
  rw [List.getD_eq_getElem?_getD]
  obtain ⟨v, hv⟩ : ∃ v, l[i.toNat]? = some v := ⟨_, List.getElem?_eq_getElem (by omega)⟩
  rw [hv]; rfl

theorem and255 (x : Int) : 0 ≤ bits .and .i64 x 255 ∧ bits .and .i64 x 255 ≤ 255 := by
  simp only [bits]
  have h : ((BitVec.ofInt IntKind.i64.bits x &&& BitVec.ofInt IntKind.i64.bits 255).toNat : Int) ≤ 255 := by
    rw [BitVec.toNat_and]
    have : (BitVec.ofInt IntKind.i64.bits x).toNat &&& (BitVec.ofInt IntKind.i64.bits 255).toNat ≤ 255 := Nat.le_trans Nat.and_le_right (by decide)
    omega
  have h0 : (0 : Int) ≤ ((BitVec.ofInt IntKind.i64.bits x &&& BitVec.ofInt IntKind.i64.bits 255).toNat : Int) := Int.natCast_nonneg _
  generalize ((BitVec.ofInt IntKind.i64.bits x &&& BitVec.ofInt IntKind.i64.bits 255).toNat : Int) = z at h h0
  have e : IntKind.i64.wrap z = z := by
    simp [IntKind.wrap, IntKind.bits, IntKind.signed]
    split <;> omega
  rw [e]
  exact ⟨h0, h⟩
theorem dByte {l : List Int} {i : Int} (h : Int) (hl : l.length ≤ 4096) (hi : 0 ≤ i) : ∃ x i' h', spec_l1Byte.f l i h = some (x, i', h') ∧ (0 ≤ x ∧ x ≤ 255) ∧ 0 ≤ i' := by
  unfold spec_l1Byte.f
  by_cases hlt : i < (l.length : Int)
  · rw [if_pos hlt, if_pos hi]
    exact ⟨_, _, _, rfl, and255 _, by rw [w64 (by omega) (by omega)]; omega⟩
  · rw [if_neg hlt]
    exact ⟨_, _, _, rfl, and255 _, hi⟩

theorem tmod_bd {a n : Int} (ha : 0 ≤ a) (hn : 0 < n) : 0 ≤ Int.tmod a n ∧ Int.tmod a n < n := by
  rw [tmod_pos ha]
  exact ⟨Int.emod_nonneg _ (by omega), Int.emod_lt_of_pos _ hn⟩
theorem dBelow {l : List Int} {i : Int} (h : Int) {n : Int} (hl : l.length ≤ 4096) (hi : 0 ≤ i) (hn : 0 < n) : ∃ x i' h', spec_l1Below.f l i h n = some (x, i', h') ∧ (0 ≤ x ∧ x < n) ∧ 0 ≤ i' := by
  unfold spec_l1Below.f
  rw [if_neg (by omega)]
  split
  · obtain ⟨x, i1, h1, e, hx, hi1⟩ := dByte h hl hi
    rw [e]
    simp only [Option.bind_some]
    rw [if_neg (by omega)]
    exact ⟨_, _, _, rfl, tmod_bd hx.1 hn, hi1⟩
  · obtain ⟨x, i1, h1, e1, hx, hi1⟩ := dByte h hl hi
    rw [e1]
    simp only [Option.bind_some]
    obtain ⟨y, i2, h2, e2, hy, hi2⟩ := dByte h1 hl hi1
    rw [e2]
    simp only [Option.bind_some]
    obtain ⟨z, i3, h3, e3, hz, hi3⟩ := dByte h2 hl hi2
    rw [e3]
    simp only [Option.bind_some]
    rw [if_neg (by omega)]
    refine ⟨_, _, _, rfl, tmod_bd ?_ hn, hi3⟩
    rw [w64 (x := x * 65536) (by omega) (by omega), w64 (x := y * 256) (by omega) (by omega), w64 (x := x * 65536 + y * 256) (by omega) (by omega), w64 (x := x * 65536 + y * 256 + z) (by omega) (by omega)]
    omega

theorem dSome {l : List Int} {i : Int} (h : Int) {a b : Int} (hl : l.length ≤ 4096) (hi : 0 ≤ i) (hab : -1000000 ≤ a ∧ a ≤ b ∧ b ≤ 1000000) : ∃ x i' h', spec_l1Some.f l i h a b = some (x, i', h') ∧ (a ≤ x ∧ x ≤ b) ∧ 0 ≤ i' := by
  unfold spec_l1Some.f
  rw [w64 (x := b - a) (by omega) (by omega), w64 (x := b - a + 1) (by omega) (by omega)]
  obtain ⟨x, i1, h1, e, hx, hi1⟩ := dBelow h hl hi (show 0 < b - a + 1 by omega)
  rw [e]
  simp only [Option.bind_some]
  refine ⟨_, _, _, rfl, ?_, hi1⟩
  rw [w64 (by omega) (by omega)]
  omega

theorem dOnce {l : List Int} {i : Int} (h : Int) {n : Int} (hl : l.length ≤ 4096) (hi : 0 ≤ i) (hn : 0 < n) : ∃ x i' h', spec_l1Once.f l i h n = some (x, i', h') ∧ 0 ≤ i' := by
  unfold spec_l1Once.f
  obtain ⟨x, i1, h1, e, hx, hi1⟩ := dBelow h hl hi hn
  rw [e]
  simp only [Option.bind_some]
  exact ⟨_, _, _, rfl, hi1⟩

theorem dInt {l : List Int} {i : Int} (h : Int) {m : List Int} (hl : l.length ≤ 4096) (hi : 0 ≤ i) (hm : 0 < m.length) : ∃ x i' h', spec_l1Int.f l i h m = some (x, i', h') ∧ x ∈ m ∧ 0 ≤ i' := by
  unfold spec_l1Int.f
  obtain ⟨x, i1, h1, e, hx, hi1⟩ := dBelow h hl hi (show 0 < (m.length : Int) by omega)
  rw [e]
  simp only [Option.bind_some]
  rw [if_pos hx.1, if_pos hx.2]
  refine ⟨_, _, _, rfl, ?_, hi1⟩
  unfold rd
  rw [List.getD_eq_getElem?_getD, List.getElem?_eq_getElem (by omega)]
  exact List.getElem_mem _

def I64 (x : Int) : Prop := -9223372036854775808 ≤ x ∧ x ≤ 9223372036854775807

theorem dOdd {l : List Int} {i : Int} (h : Int) (hl : l.length ≤ 4096) (hi : 0 ≤ i) : ∃ x i' h', spec_l1Odd.f l i h = some (x, i', h') ∧ I64 x ∧ 0 ≤ i' := by
  unfold spec_l1Odd.f
  obtain ⟨x, i1, h1, e, hx, hi1⟩ := dInt h (m := [(-1), 0, 1, 2, 3, 7, 8, 9, 15, 16, 17, 63, 64, 65, 999, 1000, 4096, 4097, 9223372036854775807, (-9223372036854775808)]) hl hi (by simp)
  rw [e]
  simp only [Option.bind_some]
  refine ⟨_, _, _, rfl, ?_, hi1⟩
  unfold I64
  simp only [List.mem_cons, List.not_mem_nil, or_false] at hx
  omega

theorem new_loop (l : List Int) (hl : l.length ≤ 4096) (d : Nat) : ∀ (i h : Int), 0 ≤ i → (l.length : Int) - i = d → ∃ h', Ev (fun k => spec_l1New.l0 k l h i) (l, 0, h') := by
  induction d with
  | zero =>
    intro i h h0 hd
    refine ⟨h, Ev.succ' ?_⟩
    simp only [spec_l1New.l0, if_neg (show ¬ i < (l.length : Int) by omega)]
    exact Ev.now _
  | succ d ih =>
    intro i h h0 hd
    by_cases h4 : i < 4000
    · obtain ⟨h', e⟩ := ih (i + 1) (bits .and .i64 (wrap64 ((wrap64 ((wrap64 (h * 167)) + (wrap64 (rd l i)))) + 29)) 1073741823) (by omega) (by omega)
      refine ⟨h', Ev.succ' ?_⟩
      simp only [spec_l1New.l0, if_pos (show i < (l.length : Int) by omega), if_pos h4, if_pos h0]
      rw [w64 (x := i + 1) (by omega) (by omega)]
      exact e
    · refine ⟨h, Ev.succ' ?_⟩
      simp only [spec_l1New.l0, if_pos (show i < (l.length : Int) by omega), if_neg h4]
      exact Ev.now _
theorem dNew (l : List Int) (hl : l.length ≤ 4096) : ∃ h, Ev (fun k => spec_l1New.f k l) (l, 0, h) := by
  unfold spec_l1New.f
  exact new_loop l hl l.length 0 _ (by omega) (by omega)

theorem lawBig (l : List Int) : laws_big.f l = some (decide ((l.length : Int) > 4096)) := rfl

theorem dPlace {l : List Int} {i : Int} (h : Int) (hl : l.length ≤ 4096) (hi : 0 ≤ i) : ∃ x y i' h', spec_l2Draw.f l i h = some (x, y, i', h') ∧ (-64 ≤ x ∧ x ≤ 64) ∧ (-64 ≤ y ∧ y ≤ 64) ∧ 0 ≤ i' := by
  unfold spec_l2Draw.f
  obtain ⟨x, i1, h1, e1, hx, hi1⟩ := dSome h (a := -64) (b := 64) hl hi (by omega)
  rw [e1]
  simp only [Option.bind_some]
  obtain ⟨y, i2, h2, e2, hy, hi2⟩ := dSome h1 (a := -64) (b := 64) hl hi1 (by omega)
  rw [e2]
  simp only [Option.bind_some]
  exact ⟨_, _, _, _, rfl, hx, hy, hi2⟩

theorem dAny {l : List Int} {i : Int} (h : Int) (hl : l.length ≤ 4096) (hi : 0 ≤ i) : ∃ x y i' h', Ev (fun k => spec_l2Any.f k l i h) (x, y, i', h') ∧ I64 x ∧ (-5000 ≤ y ∧ y ≤ 5000) ∧ 0 ≤ i' := by
  unfold spec_l2Any.f
  obtain ⟨x, y, i1, h1, e1, hx, hy, hi1⟩ := dPlace h hl hi
  obtain ⟨o, i2, h2, e2, hi2⟩ := dOnce h1 (n := 9) hl hi1 (by omega)
  have hj : ∀ (x' i3 h3 : Int), I64 x' → 0 ≤ i3 → ∃ x y1 i' h', Ev (fun k => spec_l2Any.j0 k l i3 h3 x' y) (x, y1, i', h') ∧ I64 x ∧ (-5000 ≤ y1 ∧ y1 ≤ 5000) ∧ 0 ≤ i' := fun x' i3 h3 hx' hi3 => by
    obtain ⟨o, i4, h4, e4, hi4⟩ := dOnce h3 (n := 9) hl hi3 (by omega)
    cases o with
    | true =>
      obtain ⟨z, i5, h5, e5, hz, hi5⟩ := dInt h4 (m := [4096, (-4096), 4097, (-4097), 4090]) hl hi4 (by simp)
      refine ⟨x', z, i5, h5, Ev.succ' ?_, hx', ?_, hi5⟩
      · simp only [spec_l2Any.j0, e4, e5, Option.bind_some, if_true]
        exact Ev.now _
      · simp only [List.mem_cons, List.not_mem_nil, or_false] at hz
        omega
    | false =>
      refine ⟨x', y, i4, h4, Ev.succ' ?_, hx', by omega, hi4⟩
      simp only [spec_l2Any.j0, e4, Option.bind_some, Bool.false_eq_true, if_false]
      exact Ev.now _
  cases o with
  | true =>
    obtain ⟨x', i3, h3, e3, hx', hi3⟩ := dOdd h2 hl hi2
    obtain ⟨a, b, i', h', e, r⟩ := hj x' i3 h3 hx' hi3
    refine ⟨a, b, i', h', ?_, r⟩
    simp only [e1, e2, e3, Option.bind_some, if_true]
    exact e
  | false =>
    obtain ⟨a, b, i', h', e, r⟩ := hj x i2 h2 (by unfold I64; omega) hi2
    refine ⟨a, b, i', h', ?_, r⟩
    simp only [e1, e2, Option.bind_some, Bool.false_eq_true, if_false]
    exact e

def ltS (a b : S39) : Prop := a.f0 < b.f0 ∨ a.f0 = b.f0 ∧ a.f1 < b.f1
instance (a b : S39) : Decidable (ltS a b) := by unfold ltS; infer_instance
theorem ltS_irr (a : S39) : ¬ ltS a a := by unfold ltS; omega
theorem ltS_tr {a b c : S39} (h : ltS a b) (k : ltS b c) : ltS a c := by unfold ltS at *; omega
theorem ltS_cmp (a b : S39) : cmpV a.f0 a.f1 b.f0 b.f1 < 0 ↔ ltS a b := by
  unfold cmpV ltS
  split
  · next h => exact ⟨fun _ => h, fun _ => by decide⟩
  · next h => split <;> exact ⟨fun k => absurd k (by decide), fun k => absurd k h⟩
theorem ext39 {a b : S39} (h0 : a.f0 = b.f0) (h1 : a.f1 = b.f1) : a = b := by
  cases a; cases b
  simp only at h0 h1
  subst h0; subst h1; rfl
theorem tri39 (a b : S39) : ltS a b ∨ a = b ∨ ltS b a := by
  by_cases h : ltS a b
  · exact Or.inl h
  · by_cases k : ltS b a
    · exact Or.inr (Or.inr k)
    · refine Or.inr (Or.inl (ext39 ?_ ?_)) <;> (unfold ltS at h k; omega)
/-- A place set in where it belongs. -/
def insS : List S39 → S39 → List S39
  | [], p => [p]
  | a :: t, p => if ltS a p then a :: insS t p else if a.f0 = p.f0 ∧ a.f1 = p.f1 then a :: t else p :: a :: t
theorem insS_mem (l : List S39) (p x : S39) : x ∈ insS l p ↔ x = p ∨ x ∈ l := by
  induction l with
  | nil => simp [insS]
  | cons a t ih =>
    unfold insS
    split
    · rw [List.mem_cons, ih, List.mem_cons]
      constructor
      · rintro (h | h | h)
        · exact Or.inr (Or.inl h)
        · exact Or.inl h
        · exact Or.inr (Or.inr h)
      · rintro (h | h | h)
        · exact Or.inr (Or.inl h)
        · exact Or.inl h
        · exact Or.inr (Or.inr h)
    · split
      · next h =>
        have e : a = p := ext39 h.1 h.2
        subst e
        rw [List.mem_cons]
        constructor
        · intro h; exact Or.inr h
        · rintro (h | h)
          · exact Or.inl h
          · exact h
      · rw [List.mem_cons]
theorem insS_len (l : List S39) (p : S39) : (insS l p).length ≤ l.length + 1 := by
  induction l with
  | nil => simp [insS]
  | cons a t ih =>
    unfold insS
    split
    · simp only [List.length_cons]; omega
    · split <;> simp only [List.length_cons] <;> omega
theorem insS_strict (l : List S39) (p : S39) (h : l.Pairwise ltS) : (insS l p).Pairwise ltS := by
  induction l with
  | nil => simp [insS]
  | cons a t ih =>
    obtain ⟨h1, h2⟩ := List.pairwise_cons.1 h
    unfold insS
    split
    · next hl =>
      refine List.pairwise_cons.2 ⟨fun x hx => ?_, ih h2⟩
      rcases (insS_mem t p x).1 hx with rfl | hx
      · exact hl
      · exact h1 x hx
    · split
      · exact h
      · next hl hne =>
        have hpa : ltS p a := by
          rcases tri39 a p with k | k | k
          · exact absurd k hl
          · subst k; exact absurd ⟨rfl, rfl⟩ hne
          · exact k
        refine List.pairwise_cons.2 ⟨fun x hx => ?_, h⟩
        rcases List.mem_cons.1 hx with rfl | hx
        · exact hpa
        · exact ltS_tr hpa (h1 x hx)
theorem fold_mem (l : List S39) : ∀ (acc : List S39) (x : S39), x ∈ l.foldl insS acc ↔ x ∈ acc ∨ x ∈ l := by
  induction l with
  | nil => intro acc x; simp
  | cons p l ih =>
    intro acc x
    rw [List.foldl_cons, ih, insS_mem, List.mem_cons]
    constructor
    · rintro ((h | h) | h)
      · exact Or.inr (Or.inl h)
      · exact Or.inl h
      · exact Or.inr (Or.inr h)
    · rintro (h | h | h)
      · exact Or.inl (Or.inr h)
      · exact Or.inl (Or.inl h)
      · exact Or.inr h
theorem fold_strict (l : List S39) : ∀ (acc : List S39), acc.Pairwise ltS → (l.foldl insS acc).Pairwise ltS := by
  induction l with
  | nil => intro acc h; exact h
  | cons p l ih => intro acc h; exact ih _ (insS_strict acc p h)
/-- Two rows in strict order with the same places are one row. -/
theorem strict_eq : ∀ (a b : List S39), a.Pairwise ltS → b.Pairwise ltS → (∀ x, x ∈ a ↔ x ∈ b) → a = b
  | [], [], _, _, _ => rfl
  | [], y :: b, _, _, h => by have := (h y).2 (List.mem_cons_self ..); cases this
  | x :: a, [], _, _, h => by have := (h x).1 (List.mem_cons_self ..); cases this
  | x :: a, y :: b, ha, hb, h => by
    obtain ⟨a1, a2⟩ := List.pairwise_cons.1 ha
    obtain ⟨b1, b2⟩ := List.pairwise_cons.1 hb
    have e : x = y := by
      rcases List.mem_cons.1 ((h x).1 (List.mem_cons_self ..)) with e | e
      · exact e
      · rcases List.mem_cons.1 ((h y).2 (List.mem_cons_self ..)) with k | k
        · exact k.symm
        · exact absurd (ltS_tr (b1 x e) (a1 y k)) (ltS_irr _)
    subst e
    rw [strict_eq a b a2 b2 (fun z => ⟨fun hz => by
      rcases List.mem_cons.1 ((h z).1 (List.mem_cons_of_mem _ hz)) with e | e
      · subst e; exact absurd (a1 z hz) (ltS_irr _)
      · exact e, fun hz => by
      rcases List.mem_cons.1 ((h z).2 (List.mem_cons_of_mem _ hz)) with e | e
      · subst e; exact absurd (b1 z hz) (ltS_irr _)
      · exact e⟩)]
theorem ltP_V (x y : Int × Int) : Go.Proofs.ltOf Go.Proofs.YtcggonofidgchaaV.cmpV x y = true ↔ ltS (ofP39 x) (ofP39 y) := by
  rw [Go.Proofs.YtcggonofidgchaaV.ltV]
  unfold ltS ofP39
  simp only [decide_eq_true_eq]
theorem compact_sorted (d : Array (Int × Int)) (hs : ∀ i j, i < j → j < d.size → Go.Proofs.ltOf Go.Proofs.YtcggonofidgchaaV.cmpV d[j]! d[i]! = false) : ∀ m, m ≤ d.size →
    ((Go.Lib.compactUpTo d m).map ofP39).Pairwise ltS ∧ ∀ x, x ∈ Go.Lib.compactUpTo d m ↔ ∃ j, j < m ∧ d[j]! = x := by
  intro m
  induction m with
  | zero => intro _; exact ⟨List.Pairwise.nil, fun x => ⟨fun h => (by cases h), fun ⟨j, h, _⟩ => (by omega)⟩⟩
  | succ m ih =>
    intro hm
    obtain ⟨h1, h2⟩ := ih (by omega)
    rw [Go.Lib.compactUpTo_succ]
    cases hk : Go.Lib.keeps d m with
    | true =>
      rw [if_pos rfl, List.map_append]
      constructor
      · refine List.pairwise_append.2 ⟨h1, by simp, fun a ha b hb => ?_⟩
        obtain ⟨x, hx, rfl⟩ := List.mem_map.1 ha
        simp only [List.map_cons, List.map_nil, List.mem_singleton] at hb
        subst hb
        obtain ⟨j, hj, rfl⟩ := (h2 x).1 hx
        have hne : d[m]! ≠ d[m - 1]! := by
          unfold Go.Lib.keeps at hk
          have := of_decide_eq_true hk
          rcases this with h | h
          · omega
          · exact h
        have hlast : ltS (ofP39 d[m - 1]!) (ofP39 d[m]!) := by
          have h5 := hs (m - 1) m (by omega) (by omega)
          rcases tri39 (ofP39 d[m - 1]!) (ofP39 d[m]!) with k | k | k
          · exact k
          · exfalso
            apply hne
            have e1 := congrArg (·.f0) k
            have e2 := congrArg (·.f1) k
            exact Prod.ext e1.symm e2.symm
          · rw [(ltP_V _ _).2 k] at h5; cases h5
        by_cases hjm : j = m - 1
        · rw [hjm]; exact hlast
        · have h6 := hs j (m - 1) (by omega) (by omega)
          rcases tri39 (ofP39 d[j]!) (ofP39 d[m - 1]!) with k | k | k
          · exact ltS_tr k hlast
          · rw [k]; exact hlast
          · rw [(ltP_V _ _).2 k] at h6; cases h6
      · intro x
        rw [List.mem_append, h2, List.mem_singleton]
        constructor
        · rintro (⟨j, h, e⟩ | h)
          · exact ⟨j, by omega, e⟩
          · exact ⟨m, by omega, h.symm⟩
        · rintro ⟨j, h, e⟩
          by_cases hjm : j = m
          · subst hjm; exact Or.inr e.symm
          · exact Or.inl ⟨j, by omega, e⟩
    | false =>
      rw [if_neg (by decide), List.append_nil]
      refine ⟨h1, fun x => ?_⟩
      rw [h2]
      unfold Go.Lib.keeps at hk
      have hk := of_decide_eq_false hk
      constructor
      · rintro ⟨j, h, e⟩; exact ⟨j, by omega, e⟩
      · rintro ⟨j, h, e⟩
        by_cases hjm : j = m
        · subst hjm
          by_cases hz : j = 0
          · exact absurd (Or.inl hz) hk
          · refine ⟨j - 1, by omega, ?_⟩
            rw [← e]
            by_cases hd : d[j]! = d[j - 1]!
            · exact hd.symm
            · exact absurd (Or.inr hd) hk
        · exact ⟨j, by omega, e⟩
theorem of_to (l : List S39) : (l.map toP39).map ofP39 = l := by
  rw [List.map_map]
  exact List.map_id' l
theorem sortedV_facts (l : List (Int × Int)) : ((Go.Proofs.YtcggonofidgchaaV.sortedV l).map ofP39).Pairwise ltS ∧ ∀ x, x ∈ Go.Proofs.YtcggonofidgchaaV.sortedV l ↔ x ∈ l := by
  have hsw := Go.Proofs.YtcggonofidgchaaV.swoV
  have hp : (Go.Proofs.YtcggonofidgchaaV.sortedL l).Pairwise (fun a b => (!(Go.Proofs.ltOf Go.Proofs.YtcggonofidgchaaV.cmpV) b a) = true) := by
    unfold Go.Proofs.YtcggonofidgchaaV.sortedL
    refine List.pairwise_mergeSort (fun a b c h k => ?_) (fun a b => ?_) l
    · rw [Go.Proofs.YtcggonofidgchaaV.ltV] at h k ⊢
      simp at h k ⊢; omega
    · rw [Go.Proofs.YtcggonofidgchaaV.ltV, Go.Proofs.YtcggonofidgchaaV.ltV]
      simp; omega
  have hget : ∀ i, i < (Go.Proofs.YtcggonofidgchaaV.sortedL l).toArray.size → (Go.Proofs.YtcggonofidgchaaV.sortedL l).toArray[i]! = (Go.Proofs.YtcggonofidgchaaV.sortedL l)[i]! := fun i hi => by simp
  obtain ⟨h1, h2⟩ := compact_sorted (Go.Proofs.YtcggonofidgchaaV.sortedL l).toArray (fun i j hij hj => by
    have hj' : j < (Go.Proofs.YtcggonofidgchaaV.sortedL l).length := by simpa using hj
    have := List.pairwise_iff_getElem.1 hp i j (by omega) hj' hij
    rw [getElem!_pos _ i (by simp; omega), getElem!_pos _ j (by simpa using hj')]
    simpa using this) (Go.Proofs.YtcggonofidgchaaV.sortedL l).toArray.size (Nat.le_refl _)
  refine ⟨h1, fun x => ?_⟩
  have hm : x ∈ Go.Proofs.YtcggonofidgchaaV.sortedL l ↔ x ∈ l := (List.mergeSort_perm l _).mem_iff
  unfold Go.Proofs.YtcggonofidgchaaV.sortedV
  rw [h2, ← hm]
  constructor
  · rintro ⟨j, hj, e⟩
    have hj' : j < (Go.Proofs.YtcggonofidgchaaV.sortedL l).length := by simpa using hj
    rw [getElem!_pos _ j hj] at e
    rw [← e]
    simp
  · intro hx
    obtain ⟨j, hj, e⟩ := List.getElem_of_mem hx
    refine ⟨j, by simpa using hj, ?_⟩
    rw [getElem!_pos _ j (by simpa using hj)]
    simpa using e
def sortV (l : List S39) : List S39 := (Go.Proofs.YtcggonofidgchaaV.sortedV (l.map toP39)).map ofP39
theorem sortV_strict (l : List S39) : (sortV l).Pairwise ltS := (sortedV_facts _).1
theorem sortV_mem (l : List S39) (x : S39) : x ∈ sortV l ↔ x ∈ l := by
  unfold sortV
  rw [List.mem_map]
  constructor
  · rintro ⟨q, hq, rfl⟩
    obtain ⟨p, hp, rfl⟩ := List.mem_map.1 (((sortedV_facts _).2 q).1 hq)
    exact hp
  · intro hx
    exact ⟨toP39 x, ((sortedV_facts _).2 _).2 (List.mem_map.2 ⟨x, hx, rfl⟩), rfl⟩
theorem iSorted (l : List S39) (hl : l.length ≤ 8796093022208) : impl_SortedPlaces.f l = some (sortV l) := by
  unfold impl_SortedPlaces.f
  rw [if_pos hl]
  rfl

theorem drawCP (l : List Int) (hl : l.length ≤ 4096) : ∃ x y u v, Ev (fun k => spec_DrawComparePlaces.f k l) (x, y, u, v) := by
  obtain ⟨h, hn⟩ := dNew l hl
  obtain ⟨x, y, i1, h1, e1, _, _, hi1⟩ := dAny h hl (Int.le_refl 0)
  obtain ⟨u, v, i2, h2, e2, _, _, hi2⟩ := dAny h1 hl hi1
  obtain ⟨b, i3, h3, e3, hi3⟩ := dOnce h2 (n := 3) hl hi2 (by omega)
  obtain ⟨c, i4, h4, e4, hi4⟩ := dOnce h3 (n := 3) hl hi3 (by omega)
  have base : ∀ r, Ev (fun k => (if b = true then (if c = true then some (x, y, x, y) else some (x, y, x, v)) else (if c = true then some (x, y, u, y) else some (x, y, u, v)) : Option (Int × Int × Int × Int))) r → Ev (fun k => spec_DrawComparePlaces.f k l) r := fun r hr => by
    unfold spec_DrawComparePlaces.f
    refine Ev.bind hn (Ev.bind e1 (Ev.bind e2 ?_))
    simp only [e3, e4, Option.bind_some]
    exact hr
  cases b <;> cases c
  · exact ⟨_, _, _, _, base _ (by simp only [Bool.false_eq_true, if_false]; exact Ev.now _)⟩
  · exact ⟨_, _, _, _, base _ (by simp only [Bool.false_eq_true, if_false, if_true]; exact Ev.now _)⟩
  · exact ⟨_, _, _, _, base _ (by simp only [Bool.false_eq_true, if_false, if_true]; exact Ev.now _)⟩
  · exact ⟨_, _, _, _, base _ (by simp only [if_true]; exact Ev.now _)⟩

theorem drawList_loop {l : List Int} (hl : l.length ≤ 4096) (d : Nat) : ∀ (acc : List S39) (n i h : Int), 0 ≤ i → n ≤ d → acc.length + d ≤ 100 →
    ∃ L i' h', Ev (fun k => spec_l2List.l0 k acc n l i h) (L, i', h') ∧ L.length ≤ 101 ∧ 0 ≤ i' := by
  have fin : ∀ (acc : List S39) (n i h : Int), 0 ≤ i → ¬ n > 0 → acc.length ≤ 100 → ∃ L i' h', Ev (fun k => spec_l2List.l0 k acc n l i h) (L, i', h') ∧ L.length ≤ 101 ∧ 0 ≤ i' := by
    intro acc n i h hi hn ha
    obtain ⟨b, i1, h1, e1, hi1⟩ := dOnce h (n := 8) hl hi (by omega)
    cases b with
    | true =>
      obtain ⟨x, y, i2, h2, e2, _, _, hi2⟩ := dAny h1 hl hi1
      refine ⟨acc ++ [⟨x, y⟩], i2, h2, Ev.succ' ?_, by simp; omega, hi2⟩
      simp only [spec_l2List.l0, if_neg hn, e1, Option.bind_some, if_true]
      refine Ev.bind e2 ?_
      simp only [if_pos (show acc.length < 8796093022208 by omega)]
      exact Ev.now _
    | false =>
      refine ⟨acc, i1, h1, Ev.succ' ?_, by omega, hi1⟩
      simp only [spec_l2List.l0, if_neg hn, e1, Option.bind_some, Bool.false_eq_true, if_false]
      exact Ev.now _
  induction d with
  | zero => intro acc n i h hi hn ha; exact fin acc n i h hi (by omega) (by omega)
  | succ d ih =>
    intro acc n i h hi hn ha
    by_cases hz : n > 0
    · have hfalse : ∀ (i h : Int), 0 ≤ i → ∃ L i' h', Ev (fun k => spec_l2List.j1 k acc n false l i h) (L, i', h') ∧ L.length ≤ 101 ∧ 0 ≤ i' := fun i h hi => by
        obtain ⟨x, i1, h1, e1, hx, hi1⟩ := dSome h (a := -3) (b := 3) hl hi (by omega)
        obtain ⟨y, i2, h2, e2, hy, hi2⟩ := dSome h1 (a := -3) (b := 3) hl hi1 (by omega)
        obtain ⟨L, i', h', e3, hL, hi'⟩ := ih (acc ++ [⟨x, y⟩]) (n - 1) i2 h2 hi2 (by omega) (by simp; omega)
        refine ⟨L, i', h', Ev.succ' ?_, hL, hi'⟩
        simp only [spec_l2List.j1, Bool.false_eq_true, if_false, e1, e2, Option.bind_some, if_pos (show acc.length < 8796093022208 by omega)]
        rw [show wrap64 (n - 1) = n - 1 from w64 (by omega) (by omega)]
        exact e3
      by_cases hp : (acc.length : Int) > 0
      · obtain ⟨b, i1, h1, e1, hi1⟩ := dOnce h (n := 4) hl hi (by omega)
        cases b with
        | true =>
          obtain ⟨c, i2, h2, e2, hc, hi2⟩ := dBelow h1 (n := (acc.length : Int)) hl hi1 hp
          obtain ⟨L, i', h', e3, hL, hi'⟩ := ih (acc ++ [⟨(rd_T39 acc c).f0, (rd_T39 acc c).f1⟩]) (n - 1) i2 h2 hi2 (by omega) (by simp; omega)
          refine ⟨L, i', h', Ev.succ' ?_, hL, hi'⟩
          simp only [spec_l2List.l0, if_pos hz, if_pos hp, e1, Option.bind_some]
          refine Ev.succ' ?_
          simp only [spec_l2List.j1, if_true, e2, Option.bind_some, if_pos hc.1, if_pos hc.2, if_pos (show acc.length < 8796093022208 by omega)]
          rw [show wrap64 (n - 1) = n - 1 from w64 (by omega) (by omega)]
          exact e3
        | false =>
          obtain ⟨L, i', h', e3, hL, hi'⟩ := hfalse i1 h1 hi1
          refine ⟨L, i', h', Ev.succ' ?_, hL, hi'⟩
          simp only [spec_l2List.l0, if_pos hz, if_pos hp, e1, Option.bind_some]
          exact e3
      · obtain ⟨L, i', h', e3, hL, hi'⟩ := hfalse i h hi
        refine ⟨L, i', h', Ev.succ' ?_, hL, hi'⟩
        simp only [spec_l2List.l0, if_pos hz, if_neg hp]
        exact e3
    · exact fin acc n i h hi hz (by omega)
theorem drawList {l : List Int} {i : Int} (h : Int) (hl : l.length ≤ 4096) (hi : 0 ≤ i) : ∃ L i' h', Ev (fun k => spec_l2List.f k l i h) (L, i', h') ∧ L.length ≤ 101 ∧ 0 ≤ i' := by
  obtain ⟨n, i1, h1, e1, hn, hi1⟩ := dBelow h (n := 8) hl hi (by omega)
  obtain ⟨L, i', h', e2, hL, hi'⟩ := drawList_loop hl 8 [] n i1 h1 hi1 (by omega) (by simp)
  refine ⟨L, i', h', ?_, hL, hi'⟩
  unfold spec_l2List.f
  simp only [e1, Option.bind_some]
  exact e2

theorem drawSP (l : List Int) (hl : l.length ≤ 4096) : ∃ L, Ev (fun k => spec_DrawSortedPlaces.f k l) L ∧ L.length ≤ 101 := by
  obtain ⟨h, hn⟩ := dNew l hl
  obtain ⟨L, i', h', e, hL, _⟩ := drawList h hl (Int.le_refl 0)
  refine ⟨L, ?_, hL⟩
  unfold spec_DrawSortedPlaces.f
  exact Ev.bind hn (Ev.bind e (Ev.now _))

def eqS (a b : S39) : Nat := if b.f0 = a.f0 ∧ b.f1 = a.f1 then 1 else 0
/-- How often a stands in the row. -/
def cnt (a : S39) : List S39 → Nat
  | [] => 0
  | b :: t => eqS a b + cnt a t
def tot : List S39 → List S39 → Nat
  | [], _ => 0
  | a :: X, L => cnt a L + tot X L
def oneS : List S39 → S39 → Nat
  | [], _ => 0
  | a :: X, b => eqS a b + oneS X b
theorem tot_nil (X : List S39) : tot X [] = 0 := by
  induction X with
  | nil => rfl
  | cons a X ih => show 0 + tot X [] = 0; rw [ih]
theorem tot_cons (X : List S39) (b : S39) (t : List S39) : tot X (b :: t) = oneS X b + tot X t := by
  induction X with
  | nil => rfl
  | cons a X ih =>
    show (eqS a b + cnt a t) + tot X (b :: t) = (eqS a b + oneS X b) + (cnt a t + tot X t)
    rw [ih]; omega
theorem oneS_out (X : List S39) (b : S39) (h : ∀ x ∈ X, x ≠ b) : oneS X b = 0 := by
  induction X with
  | nil => rfl
  | cons a X ih =>
    show eqS a b + oneS X b = 0
    rw [ih (fun x hx => h x (List.mem_cons_of_mem _ hx))]
    unfold eqS
    rw [if_neg (fun k => h a (List.mem_cons_self ..) (ext39 k.1.symm k.2.symm))]
theorem oneS_in (X : List S39) (b : S39) (hs : X.Pairwise ltS) (h : b ∈ X) : oneS X b = 1 := by
  induction X with
  | nil => cases h
  | cons a X ih =>
    obtain ⟨h1, h2⟩ := List.pairwise_cons.1 hs
    show eqS a b + oneS X b = 1
    by_cases e : b = a
    · subst e
      rw [oneS_out X b (fun x hx k => ltS_irr b (by have := h1 x hx; rwa [k] at this))]
      unfold eqS
      rw [if_pos ⟨rfl, rfl⟩]
    · rw [ih h2 ((List.mem_cons.1 h).resolve_left e)]
      unfold eqS
      rw [if_neg (fun k => e (ext39 k.1 k.2))]
theorem tot_all (X : List S39) (hs : X.Pairwise ltS) (L : List S39) (h : ∀ b ∈ L, b ∈ X) : tot X L = L.length := by
  induction L with
  | nil => exact tot_nil X
  | cons b t ih =>
    rw [tot_cons, oneS_in X b hs (h b (List.mem_cons_self ..)), ih (fun x hx => h x (List.mem_cons_of_mem _ hx)), List.length_cons]; omega
theorem cnt_le (a : S39) (L : List S39) : cnt a L ≤ L.length := by
  induction L with
  | nil => exact Nat.le_refl _
  | cons b t ih =>
    show eqS a b + cnt a t ≤ t.length + 1
    have : eqS a b ≤ 1 := by unfold eqS; split <;> omega
    omega

theorem ord_in (L X : List S39) (hL : L.length ≤ 1000) (hX : X.length ≤ 1000) (i : Nat) (hi : i < X.length) (r : Bool) (d : Nat) : ∀ (j n : Nat), j ≤ L.length → L.length - j = d → n + (L.length - j) ≤ 100000000 →
    Ev (fun k => laws_FnPlaceOrder.l0 k L X ((n + cnt X[i] (L.drop j) : Nat) : Int) ((i : Int) + 1)) r → Ev (fun k => laws_FnPlaceOrder.l1 k L X (n : Int) (i : Int) (j : Int)) r := by
  have hrX : rd_T39 X (i : Int) = X[i] := by
    unfold rd_T39
    rw [Int.toNat_natCast, List.getD_eq_getElem?_getD, List.getElem?_eq_getElem hi]
    rfl
  induction d with
  | zero =>
    intro j n hj hd hn h
    rw [List.drop_eq_nil_of_le (by omega)] at h
    refine Ev.succ' ?_
    simp only [laws_FnPlaceOrder.l1, if_neg (show ¬ (j : Int) < (L.length : Int) by omega)]
    rw [w64 (by omega) (by omega)]
    exact h
  | succ d ih =>
    intro j n hj hd hn h
    have hlt : j < L.length := by omega
    have hrL : rd_T39 L (j : Int) = L[j] := by
      unfold rd_T39
      rw [Int.toNat_natCast, List.getD_eq_getElem?_getD, List.getElem?_eq_getElem hlt]
      rfl
    rw [List.drop_eq_getElem_cons hlt] at h
    refine Ev.succ' ?_
    simp only [laws_FnPlaceOrder.l1, if_pos (show (j : Int) < (L.length : Int) by omega), if_pos (show (0 : Int) ≤ (j : Int) by omega), if_pos (show (0 : Int) ≤ (i : Int) by omega), if_pos (show (i : Int) < (X.length : Int) by omega), hrX, hrL]
    rw [w64 (x := (j : Int) + 1) (by omega) (by omega), w64 (x := (n : Int) + 1) (by omega) (by omega)]
    by_cases he : L[j].f0 = X[i].f0 ∧ L[j].f1 = X[i].f1
    · have eb : (L[j].f0 == X[i].f0 && (L[j].f1 == X[i].f1)) = true := by simp [he.1, he.2]
      simp only [eb, if_true]
      refine ih (j + 1) (n + 1) (by omega) (by omega) (by omega) ?_
      have e : n + cnt X[i] (L[j] :: L.drop (j + 1)) = n + 1 + cnt X[i] (L.drop (j + 1)) := by
        show n + (eqS X[i] L[j] + _) = _
        unfold eqS
        rw [if_pos he]; omega
      rw [← e]
      exact h
    · have eb : (L[j].f0 == X[i].f0 && (L[j].f1 == X[i].f1)) = false := by
        by_cases h0 : L[j].f0 = X[i].f0
        · have : ¬ L[j].f1 = X[i].f1 := fun k => he ⟨h0, k⟩
          simp [this]
        · simp [h0]
      simp only [eb, Bool.false_eq_true, if_false]
      refine ih (j + 1) n (by omega) (by omega) (by omega) ?_
      have e : n + cnt X[i] (L[j] :: L.drop (j + 1)) = n + cnt X[i] (L.drop (j + 1)) := by
        show n + (eqS X[i] L[j] + _) = _
        unfold eqS
        rw [if_neg he]; omega
      rw [← e]
      exact h
theorem ord_out (L X : List S39) (hL : L.length ≤ 1000) (hX : X.length ≤ 1000) (hs : X.Pairwise ltS) (d : Nat) : ∀ (i n : Nat), i ≤ X.length → X.length - i = d → n + tot (X.drop i) L = L.length →
    Ev (fun k => laws_FnPlaceOrder.l0 k L X (n : Int) (i : Int)) true := by
  induction d with
  | zero =>
    intro i n hi hd hn
    rw [List.drop_eq_nil_of_le (by omega)] at hn
    have hn' : n = L.length := hn
    refine Ev.succ' ?_
    simp only [laws_FnPlaceOrder.l0, if_neg (show ¬ (i : Int) < (X.length : Int) by omega)]
    rw [hn', beq_self_eq_true]
    exact Ev.now _
  | succ d ih =>
    intro i n hi hd hn
    have hlt : i < X.length := by omega
    rw [List.drop_eq_getElem_cons hlt] at hn
    have hn' : n + (cnt X[i] L + tot (X.drop (i + 1)) L) = L.length := hn
    have hnext := ih (i + 1) (n + cnt X[i] L) (by omega) (by omega) (by omega)
    have hin : Ev (fun k => laws_FnPlaceOrder.l1 k L X (n : Int) (i : Int) 0) true := by
      have := ord_in L X hL hX i hlt true L.length 0 n (by omega) (by omega) (by omega) (by rw [List.drop_zero]; exact hnext)
      exact this
    have hj : Ev (fun k => laws_FnPlaceOrder.j2 k L X (n : Int) (i : Int) false) true := by
      refine Ev.succ' ?_
      simp only [laws_FnPlaceOrder.j2, Bool.false_eq_true, if_false]
      exact hin
    refine Ev.succ' ?_
    simp only [laws_FnPlaceOrder.l0, if_pos (show (i : Int) < (X.length : Int) by omega)]
    by_cases h0 : (i : Int) > 0
    · have hw : wrap64 ((i : Int) - 1) = ((i - 1 : Nat) : Int) := by rw [w64 (by omega) (by omega)]; omega
      have hr1 : rd_T39 X ((i - 1 : Nat) : Int) = X[i - 1]'(by omega) := by
        unfold rd_T39
        rw [Int.toNat_natCast, List.getD_eq_getElem?_getD, List.getElem?_eq_getElem (by omega)]
        rfl
      have hr2 : rd_T39 X (i : Int) = X[i] := by
        unfold rd_T39
        rw [Int.toNat_natCast, List.getD_eq_getElem?_getD, List.getElem?_eq_getElem hlt]
        rfl
      simp only [if_pos h0, hw, if_pos (show (0 : Int) ≤ ((i - 1 : Nat) : Int) by omega), if_pos (show ((i - 1 : Nat) : Int) < (X.length : Int) by omega), if_pos (show (0 : Int) ≤ (i : Int) by omega), hr1, hr2]
      refine Ev.bind (iCmp _ _ _ _) ?_
      have hlt2 : ltS (X[i - 1]'(by omega)) X[i] := List.pairwise_iff_getElem.1 hs (i - 1) i (by omega) hlt (by omega)
      rw [decide_eq_false (by have := (ltS_cmp _ _).2 hlt2; omega)]
      exact hj
    · simp only [if_neg h0]
      exact hj

theorem FnPlaceOrder : laws_FnPlaceOrder.Pure := by
  intro l _ _ _
  refine Ev.rounds (r := true) ?_
  unfold laws_FnPlaceOrder.f
  simp only [lawBig, Option.bind_some, decide_eq_true_eq]
  by_cases hb : (l.length : Int) > 4096
  · simp only [if_pos hb]
    exact Ev.now _
  · simp only [if_neg hb]
    obtain ⟨x, y, u, v, hd⟩ := drawCP l (by omega)
    obtain ⟨L, hL, hlen⟩ := drawSP l (by omega)
    have hsl : (sortV L).length ≤ 1000 := by
      have h1 := Go.Proofs.YtcggonofidgchaaV.sortedV_len (L.map toP39)
      rw [List.length_map] at h1
      unfold sortV
      rw [List.length_map]
      omega
    have hj : Ev (fun k => laws_FnPlaceOrder.j0 k l false) true := by
      refine Ev.succ' ?_
      simp only [laws_FnPlaceOrder.j0, Bool.false_eq_true, if_false]
      refine Ev.bind hL ?_
      simp only [iSorted L (by omega), Option.bind_some]
      have := ord_out L (sortV L) (by omega) hsl (sortV_strict L) (sortV L).length 0 0 (by omega) (by omega) (by
        rw [List.drop_zero, tot_all _ (sortV_strict L) L (fun b hb => (sortV_mem L b).2 hb)]; omega)
      exact this
    refine Ev.bind hd (Ev.bind (iCmp x y u v) (Ev.bind (iCmp u v x y) ?_))
    have hanti : cmpV x y u v = wrap64 (-(cmpV u v x y)) := by
      unfold cmpV
      by_cases h1 : x < u ∨ x = u ∧ y < v
      · rw [if_pos h1, if_neg (show ¬ (u < x ∨ u = x ∧ v < y) by omega), if_neg (show ¬ (u = x ∧ v = y) by omega), w64 (by omega) (by omega)]
      · by_cases h2 : x = u ∧ y = v
        · rw [if_neg h1, if_pos h2, if_neg (show ¬ (u < x ∨ u = x ∧ v < y) by omega), if_pos (show u = x ∧ v = y by omega), w64 (by omega) (by omega)]; rfl
        · rw [if_neg h1, if_neg h2, if_pos (show (u < x ∨ u = x ∧ v < y) by omega), w64 (by omega) (by omega)]; rfl
    simp only [if_pos hanti]
    refine Ev.bind (iCmp x y u v) ?_
    have hz : ((cmpV x y u v == 0) != (x == u && (y == v))) = false := by
      unfold cmpV
      by_cases h1 : x < u ∨ x = u ∧ y < v
      · rw [if_pos h1]
        by_cases h3 : x = u
        · have : ¬ y = v := by omega
          simp [this]
        · simp [h3]
      · by_cases h2 : x = u ∧ y = v
        · rw [if_neg h1, if_pos h2]
          simp [h2.1, h2.2]
        · rw [if_neg h1, if_neg h2]
          by_cases h3 : x = u
          · have : ¬ y = v := fun k => h2 ⟨h3, k⟩
            simp [this]
          · simp [h3]
    rw [hz]
    exact hj

end Go.Proofs.Ytcggonofidgchaa.Pure
