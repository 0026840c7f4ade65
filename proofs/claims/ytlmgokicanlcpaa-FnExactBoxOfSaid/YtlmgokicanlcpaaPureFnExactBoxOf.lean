/- The plain law behind FnExactBoxOf: for every input that the row lets in, the printed function of the law answers true. No condition beyond the bounds that the statement names. -/
import Derived.Test.YtlmgokicanlcpaaPFnExactBoxOfx3
namespace Go.Proofs.Ytlmgokicanlcpaa.Pure
open Go.RowKit Go.Proofs.Ytlmgokicanlcpaa.PFnExactBoxOf Go.Proofs.YtlmgokicanlcpaaW.PrintWords Go.Proofs.YtlmgokicanlcpaaW.PrintLast
open Go.Proofs.YtlmgokicanlcpaaW.PrintMore
set_option linter.unusedVariables false
set_option linter.unusedSimpArgs false

theorem w64 {x : Int} (h0 : -9223372036854775808 ≤ x) (h1 : x ≤ 9223372036854775807) : wrap64 x = x := by unfold wrap64; omega
theorem wfb {a : Int} (h : (Lit.int .i64 a).wf = true) : -9223372036854775808 ≤ a ∧ a ≤ 9223372036854775807 := by
  simp [Lit.wf, IntKind.min, IntKind.max, IntKind.signed, IntKind.bits] at h
  omega
theorem Ev.succ' {α : Type} {g : Nat → Option α} {r : α} (h : Ev (fun k => g (k + 1)) r) : Ev g r := Ev.step (fun _ => rfl) h
theorem dec_congr {p q : Prop} [Decidable p] [Decidable q] (h : p ↔ q) : decide p = decide q := by simp [h]

theorem sIsMeasure (x : Int) : spec_IsMeasure.f x = some (decide (-4096 ≤ x ∧ x ≤ 4096)) := by
  unfold spec_IsMeasure.f
  split <;> simp <;> omega

theorem iWithin (a b c : Int) : impl_isWithin.f a b c = some (decide (b ≤ a ∧ a ≤ c)) := by
  unfold impl_isWithin.f
  split <;> simp <;> omega

theorem iIsMeasure (x : Int) : impl_IsMeasure.f x = some (decide (-4096 ≤ x ∧ x ≤ 4096)) := by
  unfold impl_IsMeasure.f
  rw [iWithin]
  rfl

theorem sIsPlace (x y : Int) : spec_IsPlace.f x y = some (decide ((-4096 ≤ x ∧ x ≤ 4096) ∧ (-4096 ≤ y ∧ y ≤ 4096))) := by
  unfold spec_IsPlace.f
  simp only [sIsMeasure, Option.bind_some]
  split <;> rename_i h <;> simp at h ⊢ <;> omega

theorem iIsPlace (x y : Int) : impl_IsPlace.f x y = some (decide ((-4096 ≤ x ∧ x ≤ 4096) ∧ (-4096 ≤ y ∧ y ≤ 4096))) := by
  unfold impl_IsPlace.f
  simp only [iIsMeasure, Option.bind_some]
  split <;> rename_i h <;> simp at h ⊢ <;> omega

theorem toP (x y : Int) : laws_toPlace.f x y = some (x, y) := rfl

def PL (x y : Int) : Prop := (-4096 ≤ x ∧ x ≤ 4096) ∧ (-4096 ≤ y ∧ y ≤ 4096)
instance (x y : Int) : Decidable (PL x y) := by unfold PL; infer_instance

theorem sPL (x y : Int) : spec_IsPlace.f x y = some (decide (PL x y)) := sIsPlace x y

theorem iPL (x y : Int) : impl_IsPlace.f x y = some (decide (PL x y)) := iIsPlace x y

theorem eqP (x y : Int) : laws_eqPlace.f x y x y = some true := by
  unfold laws_eqPlace.f
  simp

theorem getD_get {α : Type} (l : List α) (d : α) (i : Int) (h0 : 0 ≤ i) (h1 : i < l.length) : l[i.toNat]? = some (l.getD i.toNat d) := by
  rw [List.getD_eq_getElem?_getD]
  obtain ⟨v, hv⟩ : ∃ v, l[i.toNat]? = some v := ⟨_, List.getElem?_eq_getElem (by omega)⟩
  rw [hv]; rfl

def cvP (x : S23) : S26 := ⟨x.f0, x.f1⟩
theorem toPlaceS_loop (l : List S23) (hl : l.length ≤ 1048576) (d : Nat) : ∀ (i : Int) (acc : List S26), 0 ≤ i → acc.length = l.length → (∀ j : Nat, (j : Int) < i → acc[j]? = (l.map cvP)[j]?) → (l.length : Int) - i = d → Ev (fun k => laws_toPlaceS.l0 k l acc i) (l.map cvP) := by
  induction d with
  | zero =>
    intro i acc h0 hlen hacc hd
    have e : acc = l.map cvP := List.ext_getElem? fun j => by
      by_cases hj : j < l.length
      · exact hacc j (by omega)
      · rw [List.getElem?_eq_none (by omega), List.getElem?_eq_none (by rw [List.length_map]; omega)]
    refine Ev.succ' ?_
    simp only [laws_toPlaceS.l0, if_neg (show ¬ i < (l.length : Int) by omega)]
    rw [e]
    exact Ev.now _
  | succ d ih =>
    intro i acc h0 hlen hacc hd
    refine Ev.succ' ?_
    simp only [laws_toPlaceS.l0, if_pos (show i < (l.length : Int) by omega), if_pos h0, if_pos (show i < (acc.length : Int) by omega), toP, Option.bind_some]
    rw [w64 (by omega) (by omega)]
    refine ih (i + 1) _ (by omega) (by rw [List.length_set]; exact hlen) (fun j hj => ?_) (by omega)
    rw [List.getElem?_set]
    by_cases hji : i.toNat = j
    · rw [if_pos hji, if_pos (by omega), ← hji, List.getElem?_map, getD_get l z23 i h0 (by omega)]
      rfl
    · rw [if_neg hji]; exact hacc j (by omega)
theorem toPlaceS_ev (l : List S23) (hl : l.length ≤ 1048576) : Ev (fun k => laws_toPlaceS.f k l) (l.map cvP) := by
  unfold laws_toPlaceS.f
  simp only [if_pos (show (0 : Int) ≤ (l.length : Int) by omega), if_pos (show (((l.length : Int) : Int)).toNat ≤ 17592186044416 by omega)]
  exact toPlaceS_loop l hl l.length 0 _ (by omega) (by simp) (fun j hj => by omega) (by omega)

theorem szP (l : List S23) (hl : l.length ≤ 9223372036854775807) : laws_szPlaceS.f l 1048576 = some (if (l.length : Int) ≤ 1048576 then 1048576 - (l.length : Int) else -1) := by
  unfold laws_szPlaceS.f
  rw [w64 (by omega) (by omega)]
  split
  · rw [if_neg (by omega)]
  · rw [if_pos (by omega)]

theorem eqPlaceS_ev (l : List S26) (hl : l.length ≤ 1048576) : Ev (fun k => laws_eqPlaceS.f k l l) true := by
  have loop : ∀ (d : Nat) (i : Int), 0 ≤ i → (l.length : Int) - i = d → Ev (fun k => laws_eqPlaceS.l0 k l l i) true := by
    intro d
    induction d with
    | zero =>
      intro i h0 hd
      refine Ev.succ' ?_
      simp only [laws_eqPlaceS.l0, if_neg (show ¬ i < (l.length : Int) by omega)]
      exact Ev.now _
    | succ d ih =>
      intro i h0 hd
      refine Ev.succ' ?_
      simp only [laws_eqPlaceS.l0, if_pos (show i < (l.length : Int) by omega), if_pos h0, eqP, Option.bind_some, if_true]
      rw [w64 (by omega) (by omega)]
      exact ih (i + 1) (by omega) (by omega)
  unfold laws_eqPlaceS.f
  simp only [if_true]
  exact loop l.length 0 (by omega) (by omega)

theorem sMin (a b : Int) : spec_l1Min.f a b = some (mn a b) := by unfold spec_l1Min.f mn; split <;> split <;> first | rfl | (congr 1; omega)
theorem sMax (a b : Int) : spec_l1Max.f a b = some (mx a b) := by unfold spec_l1Max.f mx; split <;> split <;> first | rfl | (congr 1; omega)

theorem box_loop (m : List S26) (hm : m.length ≤ 1048576) (hne : m ≠ []) (d : Nat) : ∀ (i a b c e : Int), 1 ≤ i → (m.length : Int) - i = d → ∃ r, Ev (fun k => spec_BoxOf.l0 k m m (m.length : Int) i a b c e) r ∧ Ev (fun k => impl_BoxOf.l0 k m (m.length : Int) i a b c e) r := by
  have hpos : 0 < m.length := List.length_pos_iff.2 hne
  induction d with
  | zero =>
    intro i a b c e h1 hd
    refine ⟨(a, b, c, e, true), Ev.succ' ?_, Ev.succ' ?_⟩
    · simp only [spec_BoxOf.l0, if_neg (show ¬ i < (m.length : Int) by omega), show decide ((m.length : Int) > 0) = true by simpa using hpos]
      exact Ev.now _
    · simp only [impl_BoxOf.l0, if_neg (show ¬ i < (m.length : Int) by omega)]
      exact Ev.now _
  | succ d ih =>
    intro i a b c e h1 hd
    by_cases hp : PL (rd_T26 m i).f0 (rd_T26 m i).f1
    · obtain ⟨r, r1, r2⟩ := ih (i + 1) (mn a (rd_T26 m i).f0) (mn b (rd_T26 m i).f1) (mx c (rd_T26 m i).f0) (mx e (rd_T26 m i).f1) (by omega) (by omega)
      refine ⟨r, Ev.succ' ?_, Ev.succ' ?_⟩
      · simp only [spec_BoxOf.l0, if_pos (show i < (m.length : Int) by omega), if_pos (show 0 ≤ i by omega), sPL, Option.bind_some, hp, decide_true, if_true, if_neg (show ¬ i = 0 by omega)]
        refine Ev.succ' ?_
        simp only [spec_BoxOf.j1, sMin, sMax, Option.bind_some]
        rw [w64 (by omega) (by omega)]
        exact r1
      · simp only [impl_BoxOf.l0, if_pos (show i < (m.length : Int) by omega), if_pos (show 0 ≤ i by omega), iPL, Option.bind_some, hp, decide_true, if_true]
        rw [w64 (by omega) (by omega)]
        exact r2
    · refine ⟨(0, 0, 0, 0, false), Ev.succ' ?_, Ev.succ' ?_⟩
      · simp only [spec_BoxOf.l0, if_pos (show i < (m.length : Int) by omega), if_pos (show 0 ≤ i by omega), sPL, Option.bind_some, hp, decide_false, if_false, Bool.false_eq_true]
        exact Ev.now _
      · simp only [impl_BoxOf.l0, if_pos (show i < (m.length : Int) by omega), if_pos (show 0 ≤ i by omega), iPL, Option.bind_some, hp, decide_false, if_false, Bool.false_eq_true]
        exact Ev.now _
theorem box_both (m : List S26) (hm : m.length ≤ 1048576) : ∃ r, Ev (fun k => spec_BoxOf.f k m) r ∧ Ev (fun k => impl_BoxOf.f k m) r := by
  unfold spec_BoxOf.f impl_BoxOf.f
  by_cases hne : m = []
  · subst hne
    refine ⟨(0, 0, 0, 0, false), Ev.succ' ?_, ?_⟩
    · simp [spec_BoxOf.l0]; exact Ev.now _
    · simp; exact Ev.now _
  · have hpos : 0 < m.length := List.length_pos_iff.2 hne
    simp only [if_neg (show ¬ (m.length : Int) = 0 by omega), if_pos (show 0 < (m.length : Int) by omega)]
    have mm : ∀ a : Int, mn a a = a := fun a => by unfold mn; split <;> rfl
    have mM : ∀ a : Int, mx a a = a := fun a => by unfold mx; split <;> rfl
    by_cases hp : PL (rd_T26 m 0).f0 (rd_T26 m 0).f1
    · obtain ⟨r, r1, r2⟩ := box_loop m hm hne (m.length - 1) 1 (rd_T26 m 0).f0 (rd_T26 m 0).f1 (rd_T26 m 0).f0 (rd_T26 m 0).f1 (by omega) (by omega)
      refine ⟨r, Ev.succ' ?_, Ev.succ' ?_⟩
      · simp only [spec_BoxOf.l0, if_pos (show (0 : Int) < (m.length : Int) by omega), if_pos (show (0 : Int) ≤ 0 by omega), sPL, Option.bind_some, hp, decide_true, if_true]
        refine Ev.succ' ?_
        simp only [spec_BoxOf.j1, sMin, sMax, Option.bind_some, mm, mM]
        rw [w64 (by omega) (by omega)]
        exact r1
      · simp only [impl_BoxOf.l0, if_pos (show (0 : Int) < (m.length : Int) by omega), if_pos (show (0 : Int) ≤ 0 by omega), iPL, Option.bind_some, hp, decide_true, if_true, mm, mM]
        rw [w64 (by omega) (by omega)]
        exact r2
    · refine ⟨(0, 0, 0, 0, false), Ev.succ' ?_, Ev.succ' ?_⟩
      · simp only [spec_BoxOf.l0, if_pos (show (0 : Int) < (m.length : Int) by omega), if_pos (show (0 : Int) ≤ 0 by omega), sPL, Option.bind_some, hp, decide_false, if_false, Bool.false_eq_true]
        exact Ev.now _
      · simp only [impl_BoxOf.l0, if_pos (show (0 : Int) < (m.length : Int) by omega), if_pos (show (0 : Int) ≤ 0 by omega), iPL, Option.bind_some, hp, decide_false, if_false, Bool.false_eq_true]
        exact Ev.now _

theorem eqB (x y u v : Int) : laws_eqBox.f x y u v x y u v = some true := by
  unfold laws_eqBox.f
  simp [eqP]

theorem FnExactBoxOf : ∀ (l0 : List S23), l0.length ≤ 9223372036854775807 → (∀ x ∈ l0, (Lit.int .i64 x.f0).wf = true ∧ (Lit.int .i64 x.f1).wf = true) → ∃ k, laws_FnExactBoxOf.f k l0 = some true := by
  intro l hl _
  refine Ev.rounds (r := true) ?_
  unfold laws_FnExactBoxOf.f
  simp only [szP l hl, Option.bind_some]
  by_cases hb : (l.length : Int) ≤ 1048576
  · simp only [if_pos hb, if_neg (show ¬ (1048576 - (l.length : Int)) < 0 by omega)]
    have ht := toPlaceS_ev l (by omega)
    obtain ⟨r, h1, h2⟩ := box_both (l.map cvP) (by rw [List.length_map]; omega)
    refine Ev.bind ht (Ev.bind h1 (Ev.bind ht (Ev.bind h2 ?_)))
    simp only [eqB, Option.bind_some, if_true, bne_self_eq_false]
    refine Ev.succ' ?_
    simp only [laws_FnExactBoxOf.j0, Bool.false_eq_true, if_false]
    refine Ev.bind ht (Ev.bind (eqPlaceS_ev _ (by rw [List.length_map]; omega)) ?_)
    simp only [if_true]
    exact Ev.now _
  · simp only [if_neg hb, if_pos (show (-1 : Int) < 0 by omega)]
    exact Ev.now _

end Go.Proofs.Ytlmgokicanlcpaa.Pure
