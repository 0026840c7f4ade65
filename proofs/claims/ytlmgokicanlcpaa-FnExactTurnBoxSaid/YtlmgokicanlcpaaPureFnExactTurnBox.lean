/- The plain law behind FnExactTurnBox: for every input that the row lets in, the printed function of the law answers true. No condition beyond the bounds that the statement names. -/
import Derived.Test.YtlmgokicanlcpaaPFnExactTurnBoxx6
namespace Go.Proofs.Ytlmgokicanlcpaa.Pure
open Go.RowKit Go.Proofs.Ytlmgokicanlcpaa.PFnExactTurnBox Go.Proofs.YtlmgokicanlcpaaW.PrintWords Go.Proofs.YtlmgokicanlcpaaW.PrintLast
open Go.Proofs.YtlmgokicanlcpaaW.PrintMore
set_option linter.unusedVariables false
set_option linter.unusedSimpArgs false

theorem w64 {x : Int} (h0 : -9223372036854775808 ≤ x) (h1 : x ≤ 9223372036854775807) : wrap64 x = x := by unfold wrap64; omega
theorem wfb {a : Int} (h : (Lit.int .i64 a).wf = true) : -9223372036854775808 ≤ a ∧ a ≤ 9223372036854775807 := by
  simp [Lit.wf, IntKind.min, IntKind.max, IntKind.signed, IntKind.bits] at h
  omega
theorem Ev.succ' {α : Type} {g : Nat → Option α} {r : α} (h : Ev (fun k => g (k + 1)) r) : Ev g r := Ev.step (fun _ => rfl) h
theorem dec_congr {p q : Prop} [Decidable p] [Decidable q] (h : p ↔ q) : decide p = decide q := by simp [h]

theorem sIsMeasure (x : Int) : spec_IsMeasure.f x = some (decide (-4096 ≤ x ∧ x ≤ 4096)) := by
  unfold spec_IsMeasure.f
  split <;> simp <;> omega

theorem iWithin (a b c : Int) : impl_isWithin.f a b c = some (decide (b ≤ a ∧ a ≤ c)) := by
  unfold impl_isWithin.f
  split <;> simp <;> omega

theorem iIsMeasure (x : Int) : impl_IsMeasure.f x = some (decide (-4096 ≤ x ∧ x ≤ 4096)) := by
  unfold impl_IsMeasure.f
  rw [iWithin]
  rfl

theorem sIsPlace (x y : Int) : spec_IsPlace.f x y = some (decide ((-4096 ≤ x ∧ x ≤ 4096) ∧ (-4096 ≤ y ∧ y ≤ 4096))) := by
  unfold spec_IsPlace.f
  simp only [sIsMeasure, Option.bind_some]
  split <;> rename_i h <;> simp at h ⊢ <;> omega

theorem iIsPlace (x y : Int) : impl_IsPlace.f x y = some (decide ((-4096 ≤ x ∧ x ≤ 4096) ∧ (-4096 ≤ y ∧ y ≤ 4096))) := by
  unfold impl_IsPlace.f
  simp only [iIsMeasure, Option.bind_some]
  split <;> rename_i h <;> simp at h ⊢ <;> omega

def BoxOK (x y u v : Int) : Prop := ((-4096 ≤ x ∧ x ≤ 4096) ∧ (-4096 ≤ y ∧ y ≤ 4096)) ∧ ((-4096 ≤ u ∧ u ≤ 4096) ∧ (-4096 ≤ v ∧ v ≤ 4096)) ∧ x ≤ u ∧ y ≤ v
instance (x y u v : Int) : Decidable (BoxOK x y u v) := by unfold BoxOK; infer_instance

theorem sIsBox (x y u v : Int) : spec_IsBox.f x y u v = some (decide (BoxOK x y u v)) := by
  unfold spec_IsBox.f
  simp only [BoxOK]
  simp only [sIsPlace, Option.bind_some]
  by_cases h1 : (-4096 ≤ x ∧ x ≤ 4096) ∧ (-4096 ≤ y ∧ y ≤ 4096) <;> by_cases h2 : (-4096 ≤ u ∧ u ≤ 4096) ∧ (-4096 ≤ v ∧ v ≤ 4096) <;> by_cases h3 : x ≤ u <;> simp [h1, h2, h3]

theorem iIsBox (x y u v : Int) : impl_IsBox.f x y u v = some (decide (BoxOK x y u v)) := by
  unfold impl_IsBox.f
  simp only [BoxOK]
  simp only [iIsPlace, Option.bind_some]
  by_cases h1 : (-4096 ≤ x ∧ x ≤ 4096) ∧ (-4096 ≤ y ∧ y ≤ 4096) <;> by_cases h2 : (-4096 ≤ u ∧ u ≤ 4096) ∧ (-4096 ≤ v ∧ v ≤ 4096) <;> by_cases h3 : x ≤ u <;> simp [h1, h2, h3]

theorem toP (x y : Int) : laws_toPlace.f x y = some (x, y) := rfl

theorem toB (x y u v : Int) : laws_toBox.f x y u v = some (x, y, u, v) := rfl

theorem tmod_pos {a b : Int} (h : 0 ≤ a) : Int.tmod a b = a % b := Int.tmod_eq_emod_of_nonneg h
theorem tmod_neg' (a b : Int) : Int.tmod (-a) b = -(Int.tmod a b) := Int.neg_tmod a b
theorem tdiv_pos {a b : Int} (h : 0 ≤ a) : Int.tdiv a b = a / b := Int.tdiv_eq_ediv_of_nonneg h
theorem tmod4 (n : Int) : (Int.tmod n 4 < 0 → Int.tmod n 4 + 4 = n % 4) ∧ (¬ Int.tmod n 4 < 0 → Int.tmod n 4 = n % 4) ∧ -3 ≤ Int.tmod n 4 ∧ Int.tmod n 4 ≤ 3 := by
  rcases Int.le_total 0 n with h | h
  · rw [tmod_pos h]; omega
  · obtain ⟨m, rfl⟩ : ∃ m, n = -m := ⟨-n, by omega⟩
    rw [tmod_neg', tmod_pos (by omega)]; omega

theorem sMod (n : Int) : spec_l2Mod.f n = some (n % 4) := by
  have h := tmod4 n
  unfold spec_l2Mod.f
  split
  · rw [w64 (by omega) (by omega)]; simp; omega
  · simp; omega

theorem iTurns (n : Int) : impl_turns.f n = some (n % 4) := by
  have h := tmod4 n
  unfold impl_turns.f
  rw [w64 (by omega) (by omega), tmod_pos (by omega)]
  simp
  by_cases h1 : Int.tmod n 4 < 0 <;> omega

def PL (x y : Int) : Prop := (-4096 ≤ x ∧ x ≤ 4096) ∧ (-4096 ≤ y ∧ y ≤ 4096)
instance (x y : Int) : Decidable (PL x y) := by unfold PL; infer_instance

theorem sPL (x y : Int) : spec_IsPlace.f x y = some (decide (PL x y)) := sIsPlace x y

theorem iPL (x y : Int) : impl_IsPlace.f x y = some (decide (PL x y)) := iIsPlace x y

theorem eqP (x y : Int) : laws_eqPlace.f x y x y = some true := by
  unfold laws_eqPlace.f
  simp

def tr (m x y : Int) : Int × Int := if m = 0 then (x, y) else if m = 1 then (-y, x) else if m = 2 then (-x, -y) else (y, -x)
theorem tr0 (x y : Int) : tr 0 x y = (x, y) := by simp [tr]
theorem tr1 (x y : Int) : tr 1 x y = (-y, x) := by simp [tr]
theorem tr2 (x y : Int) : tr 2 x y = (-x, -y) := by simp [tr]
theorem tr3 (x y : Int) : tr 3 x y = (y, -x) := by simp [tr]
theorem tr_bd {m x y b : Int} (hx : -b ≤ x ∧ x ≤ b) (hy : -b ≤ y ∧ y ≤ b) : (-b ≤ (tr m x y).1 ∧ (tr m x y).1 ≤ b) ∧ (-b ≤ (tr m x y).2 ∧ (tr m x y).2 ≤ b) := by
  unfold tr
  split
  · simp; omega
  · split
    · simp; omega
    · split <;> simp <;> omega

theorem sTurnL {x y : Int} (m : Int) (hm : 0 ≤ m ∧ m ≤ 3) (hx : -1000000000 ≤ x ∧ x ≤ 1000000000) (hy : -1000000000 ≤ y ∧ y ≤ 1000000000) : Ev (fun k => spec_l2Turn.l0 k m x y) (tr m x y) := by
  have e : ∀ x y : Int, Ev (fun k => spec_l2Turn.l0 k 0 x y) (x, y) := fun x y => Ev.step (f := fun _ => some (x, y)) (fun k => by simp only [spec_l2Turn.l0]; rw [if_neg (by omega)]) (Ev.now _)
  have s : ∀ (m m' x y : Int) (r : Int × Int), m' = m - 1 → 0 < m → m ≤ 3 → (-1000000000 ≤ y ∧ y ≤ 1000000000) → Ev (fun k => spec_l2Turn.l0 k m' (-y) x) r → Ev (fun k => spec_l2Turn.l0 k m x y) r := fun m m' x y r hm' h0 h3 hy h => by
    refine Ev.step (fun k => ?_) h
    simp only [spec_l2Turn.l0]
    rw [if_pos (by omega), w64 (x := m - 1) (by omega) (by omega), w64 (x := -y) (by omega) (by omega), hm']
  have : m = 0 ∨ m = 1 ∨ m = 2 ∨ m = 3 := by omega
  rcases this with rfl | rfl | rfl | rfl
  · rw [tr0]; exact e x y
  · rw [tr1]; exact s 1 0 _ _ _ (by omega) (by omega) (by omega) hy (e _ _)
  · rw [tr2]; exact s 2 1 _ _ _ (by omega) (by omega) (by omega) hy (s 1 0 _ _ _ (by omega) (by omega) (by omega) hx (e _ _))
  · rw [tr3]
    have := s 3 2 _ _ _ (by omega) (by omega) (by omega) hy (s 2 1 _ _ _ (by omega) (by omega) (by omega) hx (s 1 0 _ _ _ (by omega) (by omega) (by omega) (by omega) (e _ _)))
    rwa [Int.neg_neg] at this

theorem sTurn {x y : Int} (n : Int) (hx : -1000000000 ≤ x ∧ x ≤ 1000000000) (hy : -1000000000 ≤ y ∧ y ≤ 1000000000) : Ev (fun k => spec_l2Turn.f k x y n) (tr (n % 4) x y) := by
  unfold spec_l2Turn.f
  simp only [sMod, Option.bind_some]
  exact sTurnL _ (by omega) hx hy

theorem iTurnL {x y : Int} (m : Int) (hm : 0 ≤ m ∧ m ≤ 3) (hx : -1000000000 ≤ x ∧ x ≤ 1000000000) (hy : -1000000000 ≤ y ∧ y ≤ 1000000000) : Ev (fun k => impl_turned.l0 k m 0 x y) (tr m x y) := by
  have e : ∀ m x y : Int, Ev (fun k => impl_turned.l0 k m m x y) (x, y) := fun m x y => Ev.step (f := fun _ => some (x, y)) (fun k => by simp only [impl_turned.l0]; rw [if_neg (by omega)]) (Ev.now _)
  have s : ∀ (m i i' x y : Int) (r : Int × Int), i' = i + 1 → 0 ≤ i → i < m → m ≤ 3 → (-1000000000 ≤ y ∧ y ≤ 1000000000) → Ev (fun k => impl_turned.l0 k m i' (-y) x) r → Ev (fun k => impl_turned.l0 k m i x y) r := fun m i i' x y r hi' h0 h1 h3 hy h => by
    refine Ev.step (fun k => ?_) h
    simp only [impl_turned.l0]
    rw [if_pos (by omega), w64 (x := i + 1) (by omega) (by omega), w64 (x := -y) (by omega) (by omega), hi']
  have : m = 0 ∨ m = 1 ∨ m = 2 ∨ m = 3 := by omega
  rcases this with rfl | rfl | rfl | rfl
  · rw [tr0]; exact e 0 x y
  · rw [tr1]; exact s 1 0 1 _ _ _ (by omega) (by omega) (by omega) (by omega) hy (e 1 _ _)
  · rw [tr2]; exact s 2 0 1 _ _ _ (by omega) (by omega) (by omega) (by omega) hy (s 2 1 2 _ _ _ (by omega) (by omega) (by omega) (by omega) hx (e 2 _ _))
  · rw [tr3]
    have := s 3 0 1 _ _ _ (by omega) (by omega) (by omega) (by omega) hy (s 3 1 2 _ _ _ (by omega) (by omega) (by omega) (by omega) hx (s 3 2 3 _ _ _ (by omega) (by omega) (by omega) (by omega) (by omega) (e 3 _ _)))
    rwa [Int.neg_neg] at this

theorem iTurn {x y : Int} (n : Int) (hx : -1000000000 ≤ x ∧ x ≤ 1000000000) (hy : -1000000000 ≤ y ∧ y ≤ 1000000000) : Ev (fun k => impl_turned.f k x y n) (tr (n % 4) x y) := by
  unfold impl_turned.f
  simp only [iTurns, Option.bind_some]
  exact iTurnL _ (by omega) hx hy

theorem getD_get {α : Type} (l : List α) (d : α) (i : Int) (h0 : 0 ≤ i) (h1 : i < l.length) : l[i.toNat]? = some (l.getD i.toNat d) := by
  rw [List.getD_eq_getElem?_getD]
  obtain ⟨v, hv⟩ : ∃ v, l[i.toNat]? = some v := ⟨_, List.getElem?_eq_getElem (by omega)⟩
  rw [hv]; rfl

theorem sMin (a b : Int) : spec_l1Min.f a b = some (mn a b) := by unfold spec_l1Min.f mn; split <;> split <;> first | rfl | (congr 1; omega)
theorem sMax (a b : Int) : spec_l1Max.f a b = some (mx a b) := by unfold spec_l1Max.f mx; split <;> split <;> first | rfl | (congr 1; omega)

theorem box_loop (m : List S26) (hm : m.length ≤ 1048576) (hne : m ≠ []) (d : Nat) : ∀ (i a b c e : Int), 1 ≤ i → (m.length : Int) - i = d → ∃ r, Ev (fun k => spec_BoxOf.l0 k m m (m.length : Int) i a b c e) r ∧ Ev (fun k => impl_BoxOf.l0 k m (m.length : Int) i a b c e) r := by
  have hpos : 0 < m.length := List.length_pos_iff.2 hne
  induction d with
  | zero =>
    intro i a b c e h1 hd
    refine ⟨(a, b, c, e, true), Ev.succ' ?_, Ev.succ' ?_⟩
    · simp only [spec_BoxOf.l0, if_neg (show ¬ i < (m.length : Int) by omega), show decide ((m.length : Int) > 0) = true by simpa using hpos]
      exact Ev.now _
    · simp only [impl_BoxOf.l0, if_neg (show ¬ i < (m.length : Int) by omega)]
      exact Ev.now _
  | succ d ih =>
    intro i a b c e h1 hd
    by_cases hp : PL (rd_T26 m i).f0 (rd_T26 m i).f1
    · obtain ⟨r, r1, r2⟩ := ih (i + 1) (mn a (rd_T26 m i).f0) (mn b (rd_T26 m i).f1) (mx c (rd_T26 m i).f0) (mx e (rd_T26 m i).f1) (by omega) (by omega)
      refine ⟨r, Ev.succ' ?_, Ev.succ' ?_⟩
      · simp only [spec_BoxOf.l0, if_pos (show i < (m.length : Int) by omega), if_pos (show 0 ≤ i by omega), sPL, Option.bind_some, hp, decide_true, if_true, if_neg (show ¬ i = 0 by omega)]
        refine Ev.succ' ?_
        simp only [spec_BoxOf.j1, sMin, sMax, Option.bind_some]
        rw [w64 (by omega) (by omega)]
        exact r1
      · simp only [impl_BoxOf.l0, if_pos (show i < (m.length : Int) by omega), if_pos (show 0 ≤ i by omega), iPL, Option.bind_some, hp, decide_true, if_true]
        rw [w64 (by omega) (by omega)]
        exact r2
    · refine ⟨(0, 0, 0, 0, false), Ev.succ' ?_, Ev.succ' ?_⟩
      · simp only [spec_BoxOf.l0, if_pos (show i < (m.length : Int) by omega), if_pos (show 0 ≤ i by omega), sPL, Option.bind_some, hp, decide_false, if_false, Bool.false_eq_true]
        exact Ev.now _
      · simp only [impl_BoxOf.l0, if_pos (show i < (m.length : Int) by omega), if_pos (show 0 ≤ i by omega), iPL, Option.bind_some, hp, decide_false, if_false, Bool.false_eq_true]
        exact Ev.now _
theorem box_both (m : List S26) (hm : m.length ≤ 1048576) : ∃ r, Ev (fun k => spec_BoxOf.f k m) r ∧ Ev (fun k => impl_BoxOf.f k m) r := by
  unfold spec_BoxOf.f impl_BoxOf.f
  by_cases hne : m = []
  · subst hne
    refine ⟨(0, 0, 0, 0, false), Ev.succ' ?_, ?_⟩
    · simp [spec_BoxOf.l0]; exact Ev.now _
    · simp; exact Ev.now _
  · have hpos : 0 < m.length := List.length_pos_iff.2 hne
    simp only [if_neg (show ¬ (m.length : Int) = 0 by omega), if_pos (show 0 < (m.length : Int) by omega)]
    have mm : ∀ a : Int, mn a a = a := fun a => by unfold mn; split <;> rfl
    have mM : ∀ a : Int, mx a a = a := fun a => by unfold mx; split <;> rfl
    by_cases hp : PL (rd_T26 m 0).f0 (rd_T26 m 0).f1
    · obtain ⟨r, r1, r2⟩ := box_loop m hm hne (m.length - 1) 1 (rd_T26 m 0).f0 (rd_T26 m 0).f1 (rd_T26 m 0).f0 (rd_T26 m 0).f1 (by omega) (by omega)
      refine ⟨r, Ev.succ' ?_, Ev.succ' ?_⟩
      · simp only [spec_BoxOf.l0, if_pos (show (0 : Int) < (m.length : Int) by omega), if_pos (show (0 : Int) ≤ 0 by omega), sPL, Option.bind_some, hp, decide_true, if_true]
        refine Ev.succ' ?_
        simp only [spec_BoxOf.j1, sMin, sMax, Option.bind_some, mm, mM]
        rw [w64 (by omega) (by omega)]
        exact r1
      · simp only [impl_BoxOf.l0, if_pos (show (0 : Int) < (m.length : Int) by omega), if_pos (show (0 : Int) ≤ 0 by omega), iPL, Option.bind_some, hp, decide_true, if_true, mm, mM]
        rw [w64 (by omega) (by omega)]
        exact r2
    · refine ⟨(0, 0, 0, 0, false), Ev.succ' ?_, Ev.succ' ?_⟩
      · simp only [spec_BoxOf.l0, if_pos (show (0 : Int) < (m.length : Int) by omega), if_pos (show (0 : Int) ≤ 0 by omega), sPL, Option.bind_some, hp, decide_false, if_false, Bool.false_eq_true]
        exact Ev.now _
      · simp only [impl_BoxOf.l0, if_pos (show (0 : Int) < (m.length : Int) by omega), if_pos (show (0 : Int) ≤ 0 by omega), iPL, Option.bind_some, hp, decide_false, if_false, Bool.false_eq_true]
        exact Ev.now _

theorem eqB (x y u v : Int) : laws_eqBox.f x y u v x y u v = some true := by
  unfold laws_eqBox.f
  simp [eqP]

theorem FnExactTurnBox : ∀ (a0_0 : Int) (a0_1 : Int) (a0_2 : Int) (a0_3 : Int) (a1 : Int), (Lit.int .i64 a0_0).wf = true → (Lit.int .i64 a0_1).wf = true → (Lit.int .i64 a0_2).wf = true → (Lit.int .i64 a0_3).wf = true → (Lit.int .i64 a1).wf = true → ∃ k, laws_FnExactTurnBox.f k a0_0 a0_1 a0_2 a0_3 a1 = some true := by
  intro x y u v n _ _ _ _ _
  refine Ev.rounds (r := true) ?_
  unfold laws_FnExactTurnBox.f
  simp only [toB, Option.bind_some]
  have key : ∃ r, Ev (fun k => spec_TurnBox.f k x y u v n) r ∧ Ev (fun k => impl_TurnBox.f k x y u v n) r := by
    unfold spec_TurnBox.f impl_TurnBox.f
    simp only [sIsBox, iIsBox, Option.bind_some]
    by_cases hb : BoxOK x y u v
    · simp only [hb, decide_true, if_true]
      unfold BoxOK at hb
      obtain ⟨r, h1, h2⟩ := box_both [⟨(tr (n % 4) x y).1, (tr (n % 4) x y).2⟩, ⟨(tr (n % 4) u v).1, (tr (n % 4) u v).2⟩] (by simp)
      exact ⟨_, Ev.bind (sTurn n (by omega) (by omega)) (Ev.bind (sTurn n (by omega) (by omega)) (Ev.bind h1 (Ev.now _))), Ev.bind (iTurn n (by omega) (by omega)) (Ev.bind (iTurn n (by omega) (by omega)) (Ev.bind h2 (Ev.now _)))⟩
    · simp only [hb, decide_false, if_false, Bool.false_eq_true]
      exact ⟨_, Ev.now _, Ev.now _⟩
  obtain ⟨r, h1, h2⟩ := key
  refine Ev.bind h1 (Ev.bind h2 ?_)
  simp only [eqB, Option.bind_some, if_true]
  exact Ev.now _

end Go.Proofs.Ytlmgokicanlcpaa.Pure
