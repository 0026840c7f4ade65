/- The plain law behind FnExactIsWind: for every input that the row lets in, the printed function of the law answers true. No condition beyond the bounds that the statement names. -/
import Derived.Test.YtlmgokicanlcpaaPFnExactIsWindx5
namespace Go.Proofs.Ytlmgokicanlcpaa.Pure
open Go.RowKit Go.Proofs.Ytlmgokicanlcpaa.PFnExactIsWind Go.Proofs.YtlmgokicanlcpaaW.PrintWords Go.Proofs.YtlmgokicanlcpaaW.PrintLast
open Go.Proofs.YtlmgokicanlcpaaW.PrintMore
set_option linter.unusedVariables false
set_option linter.unusedSimpArgs false

theorem w64 {x : Int} (h0 : -9223372036854775808 ≤ x) (h1 : x ≤ 9223372036854775807) : wrap64 x = x := by unfold wrap64; omega
theorem wfb {a : Int} (h : (Lit.int .i64 a).wf = true) : -9223372036854775808 ≤ a ∧ a ≤ 9223372036854775807 := by
  simp [Lit.wf, IntKind.min, IntKind.max, IntKind.signed, IntKind.bits] at h
  omega
theorem Ev.succ' {α : Type} {g : Nat → Option α} {r : α} (h : Ev (fun k => g (k + 1)) r) : Ev g r := Ev.step (fun _ => rfl) h
theorem dec_congr {p q : Prop} [Decidable p] [Decidable q] (h : p ↔ q) : decide p = decide q := by simp [h]

theorem iWithin (a b c : Int) : impl_isWithin.f a b c = some (decide (b ≤ a ∧ a ≤ c)) := by
  unfold impl_isWithin.f
  split <;> simp <;> omega

theorem sIn (a b c : Int) : spec_l1In.f a b c = some (decide (b ≤ a ∧ a ≤ c)) := by
  unfold spec_l1In.f
  split <;> simp <;> omega

theorem toP (x y : Int) : laws_toPlace.f x y = some (x, y) := rfl

theorem eqP (x y : Int) : laws_eqPlace.f x y x y = some true := by
  unfold laws_eqPlace.f
  simp

theorem getD_get {α : Type} (l : List α) (d : α) (i : Int) (h0 : 0 ≤ i) (h1 : i < l.length) : l[i.toNat]? = some (l.getD i.toNat d) := by
  rw [List.getD_eq_getElem?_getD]
  obtain ⟨v, hv⟩ : ∃ v, l[i.toNat]? = some v := ⟨_, List.getElem?_eq_getElem (by omega)⟩
  rw [hv]; rfl

def DR (x y : Int) : Prop := (-8 ≤ x ∧ x ≤ 8) ∧ (-8 ≤ y ∧ y ≤ 8)
instance (x y : Int) : Decidable (DR x y) := by unfold DR; infer_instance

theorem sDrift0 (x y : Int) : spec_l4Drift.f x y = some (decide ((-8 ≤ x ∧ x ≤ 8) ∧ (-8 ≤ y ∧ y ≤ 8))) := by
  unfold spec_l4Drift.f
  simp only [sIn, Option.bind_some]
  split <;> rename_i h <;> simp at h ⊢ <;> omega
theorem sDrift (x y : Int) : spec_l4Drift.f x y = some (decide (DR x y)) := sDrift0 x y

theorem iDrift0 (x y : Int) : impl_isDrift.f x y = some (decide ((-8 ≤ x ∧ x ≤ 8) ∧ (-8 ≤ y ∧ y ≤ 8))) := by
  unfold impl_isDrift.f
  simp only [iWithin, Option.bind_some]
  split <;> rename_i h <;> simp at h ⊢ <;> omega
theorem iDrift (x y : Int) : impl_isDrift.f x y = some (decide (DR x y)) := iDrift0 x y

theorem wind_both (m : List S93) (hm : m.length ≤ 1048576) (d : Nat) : ∀ (i : Int), 0 ≤ i → (m.length : Int) - i = d → ∃ r, Ev (fun k => spec_IsWind.l0 k m m (m.length : Int) i) r ∧ Ev (fun k => impl_IsWind.l0 k m m (m.length : Int) i) r := by
  induction d with
  | zero =>
    intro i h0 hd
    refine ⟨decide ((m.length : Int) ≤ 8), Ev.succ' ?_, Ev.succ' ?_⟩
    · simp only [spec_IsWind.l0, if_neg (show ¬ i < (m.length : Int) by omega)]; exact Ev.now _
    · simp only [impl_IsWind.l0, if_neg (show ¬ i < (m.length : Int) by omega)]; exact Ev.now _
  | succ d ih =>
    intro i h0 hd
    obtain ⟨r, r1, r2⟩ := ih (i + 1) (by omega) (by omega)
    have e1 : wrap64 (i + 1) = i + 1 := w64 (by omega) (by omega)
    have e2 : wrap64 (i - 1) = i - 1 := w64 (by omega) (by omega)
    by_cases h1 : 0 ≤ (rd_T93 m i).f0 ∧ (rd_T93 m i).f0 ≤ 64
    · by_cases h2 : DR (rd_T93 m i).f1.f0 (rd_T93 m i).f1.f1
      · by_cases h3 : i > 0
        · by_cases h4 : (rd_T93 m i).f0 ≤ (rd_T93 m (i - 1)).f0
          · refine ⟨false, Ev.succ' ?_, Ev.succ' ?_⟩
            · simp only [spec_IsWind.l0, if_pos (show i < (m.length : Int) by omega), if_pos h0, sIn, sDrift, Option.bind_some, h1, h2, and_self, decide_true, if_true, if_pos h3, e2, if_pos (show 0 ≤ i - 1 by omega), if_pos (show i - 1 < (m.length : Int) by omega), if_pos (show (rd_T93 m (i - 1)).f0 ≥ (rd_T93 m i).f0 from h4)]
              exact Ev.now _
            · simp only [impl_IsWind.l0, if_pos (show i < (m.length : Int) by omega), if_pos h0, iWithin, iDrift, Option.bind_some, h1, h2, and_self, decide_true, if_true, if_pos h3, e2, if_pos (show 0 ≤ i - 1 by omega), if_pos (show i - 1 < (m.length : Int) by omega), if_pos h4]
              exact Ev.now _
          · refine ⟨r, Ev.succ' ?_, Ev.succ' ?_⟩
            · simp only [spec_IsWind.l0, if_pos (show i < (m.length : Int) by omega), if_pos h0, sIn, sDrift, Option.bind_some, h1, h2, and_self, decide_true, if_true, if_pos h3, e2, e1, if_pos (show 0 ≤ i - 1 by omega), if_pos (show i - 1 < (m.length : Int) by omega), if_neg (show ¬ (rd_T93 m (i - 1)).f0 ≥ (rd_T93 m i).f0 from h4)]
              exact r1
            · simp only [impl_IsWind.l0, if_pos (show i < (m.length : Int) by omega), if_pos h0, iWithin, iDrift, Option.bind_some, h1, h2, and_self, decide_true, if_true, if_pos h3, e2, e1, if_pos (show 0 ≤ i - 1 by omega), if_pos (show i - 1 < (m.length : Int) by omega), if_neg h4]
              exact r2
        · refine ⟨r, Ev.succ' ?_, Ev.succ' ?_⟩
          · simp only [spec_IsWind.l0, if_pos (show i < (m.length : Int) by omega), if_pos h0, sIn, sDrift, Option.bind_some, h1, h2, and_self, decide_true, if_true, if_neg h3, e1]
            exact r1
          · simp only [impl_IsWind.l0, if_pos (show i < (m.length : Int) by omega), if_pos h0, iWithin, iDrift, Option.bind_some, h1, h2, and_self, decide_true, if_true, if_neg h3, e1]
            exact r2
      · refine ⟨false, Ev.succ' ?_, Ev.succ' ?_⟩
        · simp only [spec_IsWind.l0, if_pos (show i < (m.length : Int) by omega), if_pos h0, sIn, sDrift, Option.bind_some, h1, h2, and_self, decide_true, decide_false, if_true, if_false, Bool.false_eq_true]
          exact Ev.now _
        · simp only [impl_IsWind.l0, if_pos (show i < (m.length : Int) by omega), if_pos h0, iWithin, iDrift, Option.bind_some, h1, h2, and_self, decide_true, decide_false, if_true, if_false, Bool.false_eq_true]
          exact Ev.now _
    · refine ⟨false, Ev.succ' ?_, Ev.succ' ?_⟩
      · simp only [spec_IsWind.l0, if_pos (show i < (m.length : Int) by omega), if_pos h0, sIn, Option.bind_some, h1, decide_false, if_false, Bool.false_eq_true]
        exact Ev.now _
      · simp only [impl_IsWind.l0, if_pos (show i < (m.length : Int) by omega), if_pos h0, iWithin, Option.bind_some, h1, decide_false, if_false, Bool.false_eq_true]
        exact Ev.now _

def cvG (x : S96) : S93 := ⟨x.f0, ⟨x.f1.f0, x.f1.f1⟩⟩
theorem toG (a b c : Int) : laws_toGust.f a b c = some (a, b, c) := rfl
theorem toGustS_loop (l : List S96) (hl : l.length ≤ 1048576) (d : Nat) : ∀ (i : Int) (acc : List S93), 0 ≤ i → acc.length = l.length → (∀ j : Nat, (j : Int) < i → acc[j]? = (l.map cvG)[j]?) → (l.length : Int) - i = d → Ev (fun k => laws_toGustS.l0 k l acc i) (l.map cvG) := by
  induction d with
  | zero =>
    intro i acc h0 hlen hacc hd
    have e : acc = l.map cvG := List.ext_getElem? fun j => by
      by_cases hj : j < l.length
      · exact hacc j (by omega)
      · rw [List.getElem?_eq_none (by omega), List.getElem?_eq_none (by rw [List.length_map]; omega)]
    refine Ev.succ' ?_
    simp only [laws_toGustS.l0, if_neg (show ¬ i < (l.length : Int) by omega)]
    rw [e]
    exact Ev.now _
  | succ d ih =>
    intro i acc h0 hlen hacc hd
    refine Ev.succ' ?_
    simp only [laws_toGustS.l0, if_pos (show i < (l.length : Int) by omega), if_pos h0, if_pos (show i < (acc.length : Int) by omega), toG, Option.bind_some]
    rw [w64 (by omega) (by omega)]
    refine ih (i + 1) _ (by omega) (by rw [List.length_set]; exact hlen) (fun j hj => ?_) (by omega)
    rw [List.getElem?_set]
    by_cases hji : i.toNat = j
    · rw [if_pos hji, if_pos (by omega), ← hji, List.getElem?_map, getD_get l z96 i h0 (by omega)]
      rfl
    · rw [if_neg hji]; exact hacc j (by omega)
theorem toGustS_ev (l : List S96) (hl : l.length ≤ 1048576) : Ev (fun k => laws_toGustS.f k l) (l.map cvG) := by
  unfold laws_toGustS.f
  simp only [if_pos (show (0 : Int) ≤ (l.length : Int) by omega), if_pos (show (((l.length : Int) : Int)).toNat ≤ 11728124029610 by omega)]
  exact toGustS_loop l hl l.length 0 _ (by omega) (by simp) (fun j hj => by omega) (by omega)

theorem szG (l : List S96) (hl : l.length ≤ 9223372036854775807) : laws_szGustS.f l 1048576 = some (if (l.length : Int) ≤ 1048576 then 1048576 - (l.length : Int) else -1) := by
  unfold laws_szGustS.f
  rw [w64 (by omega) (by omega)]
  split
  · rw [if_neg (by omega)]
  · rw [if_pos (by omega)]

theorem eqG (a b c : Int) : laws_eqGust.f a b c a b c = some true := by
  unfold laws_eqGust.f
  simp [eqP]
theorem eqGustS_ev (l : List S93) (hl : l.length ≤ 1048576) : Ev (fun k => laws_eqGustS.f k l l) true := by
  have loop : ∀ (d : Nat) (i : Int), 0 ≤ i → (l.length : Int) - i = d → Ev (fun k => laws_eqGustS.l0 k l l i) true := by
    intro d
    induction d with
    | zero =>
      intro i h0 hd
      refine Ev.succ' ?_
      simp only [laws_eqGustS.l0, if_neg (show ¬ i < (l.length : Int) by omega)]
      exact Ev.now _
    | succ d ih =>
      intro i h0 hd
      refine Ev.succ' ?_
      simp only [laws_eqGustS.l0, if_pos (show i < (l.length : Int) by omega), if_pos h0, eqG, Option.bind_some, if_true]
      rw [w64 (by omega) (by omega)]
      exact ih (i + 1) (by omega) (by omega)
  unfold laws_eqGustS.f
  simp only [if_true]
  exact loop l.length 0 (by omega) (by omega)

theorem FnExactIsWind : ∀ (l0 : List S96), l0.length ≤ 9223372036854775807 → (∀ x ∈ l0, (Lit.int .i64 x.f0).wf = true ∧ (Lit.int .i64 x.f1.f0).wf = true ∧ (Lit.int .i64 x.f1.f1).wf = true) → ∃ k, laws_FnExactIsWind.f k l0 = some true := by
  intro l hl _
  refine Ev.rounds (r := true) ?_
  unfold laws_FnExactIsWind.f
  simp only [szG l hl, Option.bind_some]
  by_cases hb : (l.length : Int) ≤ 1048576
  · simp only [if_pos hb, if_neg (show ¬ (1048576 - (l.length : Int)) < 0 by omega)]
    have ht := toGustS_ev l (by omega)
    have hm : (l.map cvG).length ≤ 1048576 := by rw [List.length_map]; omega
    obtain ⟨r, h1, h2⟩ := wind_both (l.map cvG) hm (l.map cvG).length 0 (by omega) (by omega)
    refine Ev.bind ht (Ev.bind h1 (Ev.bind ht (Ev.bind h2 ?_)))
    simp only [bne_self_eq_false, Bool.false_eq_true, if_false]
    refine Ev.bind ht (Ev.bind (eqGustS_ev _ hm) ?_)
    simp only [if_true]
    exact Ev.now _
  · simp only [if_neg hb, if_pos (show (-1 : Int) < 0 by omega)]
    exact Ev.now _

end Go.Proofs.Ytlmgokicanlcpaa.Pure
