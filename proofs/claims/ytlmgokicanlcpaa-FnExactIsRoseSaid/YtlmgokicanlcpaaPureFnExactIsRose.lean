/- The plain law behind FnExactIsRose: for every input that the row lets in, the printed function of the law answers true. No condition beyond the bounds that the statement names. -/
import Derived.Test.YtlmgokicanlcpaaPFnExactIsRosex6
namespace Go.Proofs.Ytlmgokicanlcpaa.Pure
open Go.RowKit Go.Proofs.Ytlmgokicanlcpaa.PFnExactIsRose Go.Proofs.YtlmgokicanlcpaaW.PrintWords Go.Proofs.YtlmgokicanlcpaaW.PrintLast
open Go.Proofs.YtlmgokicanlcpaaW.PrintMore
set_option linter.unusedVariables false
set_option linter.unusedSimpArgs false

theorem w64 {x : Int} (h0 : -9223372036854775808 ≤ x) (h1 : x ≤ 9223372036854775807) : wrap64 x = x := by unfold wrap64; omega
theorem wfb {a : Int} (h : (Lit.int .i64 a).wf = true) : -9223372036854775808 ≤ a ∧ a ≤ 9223372036854775807 := by
  simp [Lit.wf, IntKind.min, IntKind.max, IntKind.signed, IntKind.bits] at h
  omega
theorem Ev.succ' {α : Type} {g : Nat → Option α} {r : α} (h : Ev (fun k => g (k + 1)) r) : Ev g r := Ev.step (fun _ => rfl) h
theorem dec_congr {p q : Prop} [Decidable p] [Decidable q] (h : p ↔ q) : decide p = decide q := by simp [h]

theorem iWithin (a b c : Int) : impl_isWithin.f a b c = some (decide (b ≤ a ∧ a ≤ c)) := by
  unfold impl_isWithin.f
  split <;> simp <;> omega

theorem sIn (a b c : Int) : spec_l1In.f a b c = some (decide (b ≤ a ∧ a ≤ c)) := by
  unfold spec_l1In.f
  split <;> simp <;> omega

theorem toP (x y : Int) : laws_toPlace.f x y = some (x, y) := rfl

theorem eqP (x y : Int) : laws_eqPlace.f x y x y = some true := by
  unfold laws_eqPlace.f
  simp

def cmpV (x y u v : Int) : Int := if x < u ∨ x = u ∧ y < v then -1 else if x = u ∧ y = v then 0 else 1

theorem sCmp (x y u v : Int) : Ev (fun k => spec_ComparePlaces.f k x y u v) (cmpV x y u v) := by
  have hj : ∀ b : Bool, b = decide (x < u ∨ x = u ∧ y < v) → Ev (fun k => spec_ComparePlaces.j0 k b x y u v) (cmpV x y u v) := fun b hb => by
    refine Ev.step (f := fun _ => some (cmpV x y u v)) (fun k => ?_) (Ev.now _)
    simp only [spec_ComparePlaces.j0, hb, cmpV]
    by_cases h1 : x < u ∨ x = u ∧ y < v
    · simp [h1]
    · by_cases h2 : x = u ∧ y = v <;> simp [h1, h2]
  unfold spec_ComparePlaces.f
  by_cases h1 : x < u
  · simp only [if_pos h1]
    exact hj _ (by simp [h1])
  · simp only [if_neg h1]
    by_cases h2 : x = u
    · simp only [if_pos h2]
      exact hj _ (by simp [h2])
    · simp only [if_neg h2]
      exact hj _ (by simp [h1, h2])

def c3 (a b : Int) : Int := if a < b then -1 else if a > b then 1 else 0
theorem icmp3 (a b : Int) : cmp_Compare_int.f a b = some (c3 a b) := by
  unfold cmp_Compare_int.f cmp_isNaN_int.f c3
  simp
  split
  · rfl
  · split <;> rfl
theorem iOr (a b : Int) : Ev (fun k => cmp_Or_int.f k [a, b]) (if a = 0 then b else a) := by
  unfold cmp_Or_int.f
  by_cases ha : a = 0
  · rw [if_pos ha]
    refine Ev.step (f := fun k => cmp_Or_int.l0 k 0 [a, b] 2 1) (fun k => ?_) ?_
    · simp [cmp_Or_int.l0, rd, ha]
      rw [w64 (by omega) (by omega)]
    · by_cases hb : b = 0
      · refine Ev.step (f := fun k => cmp_Or_int.l0 k 0 [a, b] 2 2) (fun k => ?_) (Ev.step (f := fun _ => some b) (fun k => ?_) (Ev.now _))
        · simp [cmp_Or_int.l0, rd, hb]
          rw [w64 (by omega) (by omega)]
        · simp [cmp_Or_int.l0, hb]
      · refine Ev.step (f := fun _ => some b) (fun k => ?_) (Ev.now _)
        simp [cmp_Or_int.l0, rd, hb]
  · rw [if_neg ha]
    refine Ev.step (f := fun _ => some a) (fun k => ?_) (Ev.now _)
    simp [cmp_Or_int.l0, rd, ha]
theorem iCmp (x y u v : Int) : Ev (fun k => impl_ComparePlaces.f k x y u v) (cmpV x y u v) := by
  unfold impl_ComparePlaces.f
  simp only [icmp3, Option.bind_some]
  have h := iOr (c3 x u) (c3 y v)
  have e : (if c3 x u = 0 then c3 y v else c3 x u) = cmpV x y u v := by
    unfold c3 cmpV
    by_cases h1 : x < u
    · simp [h1]
    · by_cases h2 : x = u
      · subst h2
        by_cases h3 : y < v
        · simp [h3]
        · by_cases h4 : y = v
          · simp [h4]
          · simp [h3, h4, show y > v by omega]
      · simp [h1, h2, show x > u by omega]
  rw [e] at h
  exact Ev.bind h (Ev.now _)

theorem getD_get {α : Type} (l : List α) (d : α) (i : Int) (h0 : 0 ≤ i) (h1 : i < l.length) : l[i.toNat]? = some (l.getD i.toNat d) := by
  rw [List.getD_eq_getElem?_getD]
  obtain ⟨v, hv⟩ : ∃ v, l[i.toNat]? = some v := ⟨_, List.getElem?_eq_getElem (by omega)⟩
  rw [hv]; rfl

def cvP (x : S23) : S26 := ⟨x.f0, x.f1⟩
theorem toPlaceS_loop (l : List S23) (hl : l.length ≤ 1048576) (d : Nat) : ∀ (i : Int) (acc : List S26), 0 ≤ i → acc.length = l.length → (∀ j : Nat, (j : Int) < i → acc[j]? = (l.map cvP)[j]?) → (l.length : Int) - i = d → Ev (fun k => laws_toPlaceS.l0 k l acc i) (l.map cvP) := by
  induction d with
  | zero =>
    intro i acc h0 hlen hacc hd
    have e : acc = l.map cvP := List.ext_getElem? fun j => by
      by_cases hj : j < l.length
      · exact hacc j (by omega)
      · rw [List.getElem?_eq_none (by omega), List.getElem?_eq_none (by rw [List.length_map]; omega)]
    refine Ev.succ' ?_
    simp only [laws_toPlaceS.l0, if_neg (show ¬ i < (l.length : Int) by omega)]
    rw [e]
    exact Ev.now _
  | succ d ih =>
    intro i acc h0 hlen hacc hd
    refine Ev.succ' ?_
    simp only [laws_toPlaceS.l0, if_pos (show i < (l.length : Int) by omega), if_pos h0, if_pos (show i < (acc.length : Int) by omega), toP, Option.bind_some]
    rw [w64 (by omega) (by omega)]
    refine ih (i + 1) _ (by omega) (by rw [List.length_set]; exact hlen) (fun j hj => ?_) (by omega)
    rw [List.getElem?_set]
    by_cases hji : i.toNat = j
    · rw [if_pos hji, if_pos (by omega), ← hji, List.getElem?_map, getD_get l z23 i h0 (by omega)]
      rfl
    · rw [if_neg hji]; exact hacc j (by omega)
theorem toPlaceS_ev (l : List S23) (hl : l.length ≤ 1048576) : Ev (fun k => laws_toPlaceS.f k l) (l.map cvP) := by
  unfold laws_toPlaceS.f
  simp only [if_pos (show (0 : Int) ≤ (l.length : Int) by omega), if_pos (show (((l.length : Int) : Int)).toNat ≤ 17592186044416 by omega)]
  exact toPlaceS_loop l hl l.length 0 _ (by omega) (by simp) (fun j hj => by omega) (by omega)

theorem szP (l : List S23) (hl : l.length ≤ 9223372036854775807) : laws_szPlaceS.f l 1048576 = some (if (l.length : Int) ≤ 1048576 then 1048576 - (l.length : Int) else -1) := by
  unfold laws_szPlaceS.f
  rw [w64 (by omega) (by omega)]
  split
  · rw [if_neg (by omega)]
  · rw [if_pos (by omega)]

theorem eqPlaceS_ev (l : List S26) (hl : l.length ≤ 1048576) : Ev (fun k => laws_eqPlaceS.f k l l) true := by
  have loop : ∀ (d : Nat) (i : Int), 0 ≤ i → (l.length : Int) - i = d → Ev (fun k => laws_eqPlaceS.l0 k l l i) true := by
    intro d
    induction d with
    | zero =>
      intro i h0 hd
      refine Ev.succ' ?_
      simp only [laws_eqPlaceS.l0, if_neg (show ¬ i < (l.length : Int) by omega)]
      exact Ev.now _
    | succ d ih =>
      intro i h0 hd
      refine Ev.succ' ?_
      simp only [laws_eqPlaceS.l0, if_pos (show i < (l.length : Int) by omega), if_pos h0, eqP, Option.bind_some, if_true]
      rw [w64 (by omega) (by omega)]
      exact ih (i + 1) (by omega) (by omega)
  unfold laws_eqPlaceS.f
  simp only [if_true]
  exact loop l.length 0 (by omega) (by omega)

def DR (x y : Int) : Prop := (-8 ≤ x ∧ x ≤ 8) ∧ (-8 ≤ y ∧ y ≤ 8)
instance (x y : Int) : Decidable (DR x y) := by unfold DR; infer_instance

theorem sDrift0 (x y : Int) : spec_l4Drift.f x y = some (decide ((-8 ≤ x ∧ x ≤ 8) ∧ (-8 ≤ y ∧ y ≤ 8))) := by
  unfold spec_l4Drift.f
  simp only [sIn, Option.bind_some]
  split <;> rename_i h <;> simp at h ⊢ <;> omega
theorem sDrift (x y : Int) : spec_l4Drift.f x y = some (decide (DR x y)) := sDrift0 x y

theorem iDrift0 (x y : Int) : impl_isDrift.f x y = some (decide ((-8 ≤ x ∧ x ≤ 8) ∧ (-8 ≤ y ∧ y ≤ 8))) := by
  unfold impl_isDrift.f
  simp only [iWithin, Option.bind_some]
  split <;> rename_i h <;> simp at h ⊢ <;> omega
theorem iDrift (x y : Int) : impl_isDrift.f x y = some (decide (DR x y)) := iDrift0 x y

theorem rose_both (m : List S26) (hm : m.length ≤ 1048576) (d : Nat) : ∀ (i : Int), 0 ≤ i → (m.length : Int) - i = d → ∃ r, Ev (fun k => spec_IsRose.l0 k m m (m.length : Int) i) r ∧ Ev (fun k => impl_IsRose.l0 k m m (m.length : Int) i) r := by
  induction d with
  | zero =>
    intro i h0 hd
    refine ⟨decide (1 ≤ (m.length : Int) ∧ (m.length : Int) ≤ 4), Ev.succ' ?_, Ev.succ' ?_⟩
    · simp only [spec_IsRose.l0, if_neg (show ¬ i < (m.length : Int) by omega)]
      have : (if (m.length : Int) ≥ 1 then some (decide ((m.length : Int) ≤ 4)) else some false) = some (decide (1 ≤ (m.length : Int) ∧ (m.length : Int) ≤ 4)) := by
        split <;> simp <;> omega
      simp only [this]
      exact Ev.now _
    · simp only [impl_IsRose.l0, if_neg (show ¬ i < (m.length : Int) by omega), iWithin, Option.bind_some]; exact Ev.now _
  | succ d ih =>
    intro i h0 hd
    obtain ⟨r, r1, r2⟩ := ih (i + 1) (by omega) (by omega)
    have e1 : wrap64 (i + 1) = i + 1 := w64 (by omega) (by omega)
    have e2 : wrap64 (i - 1) = i - 1 := w64 (by omega) (by omega)
    by_cases h2 : DR (rd_T26 m i).f0 (rd_T26 m i).f1
    · by_cases h3 : i > 0
      · have c1 := sCmp (rd_T26 m (i - 1)).f0 (rd_T26 m (i - 1)).f1 (rd_T26 m i).f0 (rd_T26 m i).f1
        have c2 := iCmp (rd_T26 m (i - 1)).f0 (rd_T26 m (i - 1)).f1 (rd_T26 m i).f0 (rd_T26 m i).f1
        by_cases h4 : cmpV (rd_T26 m (i - 1)).f0 (rd_T26 m (i - 1)).f1 (rd_T26 m i).f0 (rd_T26 m i).f1 ≥ 0
        · refine ⟨false, Ev.succ' ?_, Ev.succ' ?_⟩
          · simp only [spec_IsRose.l0, if_pos (show i < (m.length : Int) by omega), if_pos h0, sDrift, Option.bind_some, h2, decide_true, if_true, if_pos h3, e2, if_pos (show 0 ≤ i - 1 by omega), if_pos (show i - 1 < (m.length : Int) by omega)]
            refine Ev.bind c1 ?_
            simp only [if_pos h4]
            exact Ev.now _
          · simp only [impl_IsRose.l0, if_pos (show i < (m.length : Int) by omega), if_pos h0, iDrift, Option.bind_some, h2, decide_true, if_true, if_pos h3, e2, if_pos (show 0 ≤ i - 1 by omega), if_pos (show i - 1 < (m.length : Int) by omega)]
            refine Ev.bind c2 ?_
            simp only [if_pos h4]
            exact Ev.now _
        · refine ⟨r, Ev.succ' ?_, Ev.succ' ?_⟩
          · simp only [spec_IsRose.l0, if_pos (show i < (m.length : Int) by omega), if_pos h0, sDrift, Option.bind_some, h2, decide_true, if_true, if_pos h3, e2, e1, if_pos (show 0 ≤ i - 1 by omega), if_pos (show i - 1 < (m.length : Int) by omega)]
            refine Ev.bind c1 ?_
            simp only [if_neg h4]
            exact r1
          · simp only [impl_IsRose.l0, if_pos (show i < (m.length : Int) by omega), if_pos h0, iDrift, Option.bind_some, h2, decide_true, if_true, if_pos h3, e2, e1, if_pos (show 0 ≤ i - 1 by omega), if_pos (show i - 1 < (m.length : Int) by omega)]
            refine Ev.bind c2 ?_
            simp only [if_neg h4]
            exact r2
      · refine ⟨r, Ev.succ' ?_, Ev.succ' ?_⟩
        · simp only [spec_IsRose.l0, if_pos (show i < (m.length : Int) by omega), if_pos h0, sDrift, Option.bind_some, h2, decide_true, if_true, if_neg h3, e1]
          exact r1
        · simp only [impl_IsRose.l0, if_pos (show i < (m.length : Int) by omega), if_pos h0, iDrift, Option.bind_some, h2, decide_true, if_true, if_neg h3, e1]
          exact r2
    · refine ⟨false, Ev.succ' ?_, Ev.succ' ?_⟩
      · simp only [spec_IsRose.l0, if_pos (show i < (m.length : Int) by omega), if_pos h0, sDrift, Option.bind_some, h2, decide_false, if_false, Bool.false_eq_true]
        exact Ev.now _
      · simp only [impl_IsRose.l0, if_pos (show i < (m.length : Int) by omega), if_pos h0, iDrift, Option.bind_some, h2, decide_false, if_false, Bool.false_eq_true]
        exact Ev.now _

theorem FnExactIsRose : ∀ (l0 : List S23), l0.length ≤ 9223372036854775807 → (∀ x ∈ l0, (Lit.int .i64 x.f0).wf = true ∧ (Lit.int .i64 x.f1).wf = true) → ∃ k, laws_FnExactIsRose.f k l0 = some true := by
  intro l hl _
  refine Ev.rounds (r := true) ?_
  unfold laws_FnExactIsRose.f
  simp only [szP l hl, Option.bind_some]
  by_cases hb : (l.length : Int) ≤ 1048576
  · simp only [if_pos hb, if_neg (show ¬ (1048576 - (l.length : Int)) < 0 by omega)]
    have ht := toPlaceS_ev l (by omega)
    have hm : (l.map cvP).length ≤ 1048576 := by rw [List.length_map]; omega
    obtain ⟨r, h1, h2⟩ := rose_both (l.map cvP) hm (l.map cvP).length 0 (by omega) (by omega)
    refine Ev.bind ht (Ev.bind h1 (Ev.bind ht (Ev.bind h2 ?_)))
    simp only [bne_self_eq_false, Bool.false_eq_true, if_false]
    refine Ev.bind ht (Ev.bind (eqPlaceS_ev _ hm) ?_)
    simp only [if_true]
    exact Ev.now _
  · simp only [if_neg hb, if_pos (show (-1 : Int) < 0 by omega)]
    exact Ev.now _

end Go.Proofs.Ytlmgokicanlcpaa.Pure
