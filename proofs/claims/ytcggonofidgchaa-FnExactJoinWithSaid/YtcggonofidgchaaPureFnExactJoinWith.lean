/- The plain law behind FnExactJoinWith: for every input that the row lets in, the printed function of the law answers true. No condition beyond the bounds that the statement names. -/
import Derived.Test.YtcggonofidgchaaIFnExactJoinWithx1
namespace Go.Proofs.Ytcggonofidgchaa.Pure
open Go.RowKit Go.Proofs.Ytcggonofidgchaa.PFnExactJoinWith Go.Proofs.YtcggonofidgchaaW.PrintWords Go.Proofs.YtcggonofidgchaaW.PrintLast
open Go.Proofs.YtcggonofidgchaaW.PrintMore
set_option linter.unusedVariables false
set_option linter.unusedSimpArgs false

theorem w64 {x : Int} (h0 : -9223372036854775808 ≤ x) (h1 : x ≤ 9223372036854775807) : wrap64 x = x := by unfold wrap64; omega
theorem wfb {a : Int} (h : (Lit.int .i64 a).wf = true) : -9223372036854775808 ≤ a ∧ a ≤ 9223372036854775807 := by
  simp [Lit.wf, IntKind.min, IntKind.max, IntKind.signed, IntKind.bits] at h
  omega
theorem Ev.succ' {α : Type} {g : Nat → Option α} {r : α} (h : Ev (fun k => g (k + 1)) r) : Ev g r := Ev.step (fun _ => rfl) h
theorem dec_congr {p q : Prop} [Decidable p] [Decidable q] (h : p ↔ q) : decide p = decide q := by simp [h]

theorem getD_get {α : Type} (l : List α) (d : α) (i : Int) (h0 : 0 ≤ i) (h1 : i < l.length) : l[i.toNat]? = some (l.getD i.toNat d) := by
  rw [List.getD_eq_getElem?_getD]
  obtain ⟨v, hv⟩ : ∃ v, l[i.toNat]? = some v := ⟨_, List.getElem?_eq_getElem (by omega)⟩
  rw [hv]; rfl

def dS (x : ByteArray) : List UInt8 := x.data.toList
def szS (l : List ByteArray) : Nat := Lib.lens (l.map dS)
theorem szS_drop (l : List ByteArray) (i : Nat) (h : i < l.length) : szS (l.drop i) = (l.getD i ByteArray.empty).size + szS (l.drop (i + 1)) := by
  rw [List.drop_eq_getElem_cons h]
  simp only [szS, Lib.lens, dS, List.map_cons, List.sum_cons, List.getD_eq_getElem?_getD, List.getElem?_eq_getElem h, Option.getD_some]
  rfl
theorem szS_loop (l : List ByteArray) (hl : ∀ x ∈ l, x.size ≤ maxLen) (hn : l.length ≤ 9223372036854775807) (d : Nat) : ∀ (i n : Int), 0 ≤ i → 0 ≤ n → n ≤ 1048576 → (l.length : Int) - i = d →
    ∃ r, Ev (fun k => laws_szStringS.l0 k l n i) r ∧ (r < 0 ∨ (szS (l.drop i.toNat) : Int) ≤ n) := by
  induction d with
  | zero =>
    intro i n h0 hn0 hn1 hd
    refine ⟨n, Ev.succ' ?_, Or.inr ?_⟩
    · simp only [laws_szStringS.l0, if_neg (show ¬ i < (l.length : Int) by omega)]
      exact Ev.now _
    · rw [List.drop_eq_nil_of_le (by omega)]
      simp only [szS, Lib.lens, List.map_nil, List.sum_nil]
      omega
  | succ d ih =>
    intro i n h0 hn0 hn1 hd
    have hlt : i.toNat < l.length := by omega
    have hm : (rdOf ByteArray.empty l i).size ≤ maxLen := by
      have e : rdOf ByteArray.empty l i = l[i.toNat] := by simp [rdOf, List.getD_eq_getElem?_getD, List.getElem?_eq_getElem hlt]
      rw [e]
      exact hl _ (List.getElem_mem hlt)
    unfold maxLen at hm
    have hw : wrap64 (n - ((rdOf ByteArray.empty l i).size : Int)) = n - ((rdOf ByteArray.empty l i).size : Int) := w64 (by omega) (by omega)
    by_cases hc : n - ((rdOf ByteArray.empty l i).size : Int) < 0
    · refine ⟨-1, Ev.succ' ?_, Or.inl (by omega)⟩
      simp only [laws_szStringS.l0, if_pos (show i < (l.length : Int) by omega), if_pos h0, hw, if_pos hc]
      exact Ev.now _
    · obtain ⟨r, h1, h2⟩ := ih (i + 1) (n - ((rdOf ByteArray.empty l i).size : Int)) (by omega) (by omega) (by omega) (by omega)
      refine ⟨r, Ev.succ' ?_, ?_⟩
      · simp only [laws_szStringS.l0, if_pos (show i < (l.length : Int) by omega), if_pos h0, hw, if_neg hc]
        rw [w64 (x := i + 1) (by omega) (by omega)]
        exact h1
      · rcases h2 with h2 | h2
        · exact Or.inl h2
        · refine Or.inr ?_
          rw [szS_drop l i.toNat hlt]
          rw [show (i + 1).toNat = i.toNat + 1 by omega] at h2
          have e : (rdOf ByteArray.empty l i).size = (l.getD i.toNat ByteArray.empty).size := rfl
          omega
theorem szS_ev (l : List ByteArray) (hl : ∀ x ∈ l, x.size ≤ maxLen) (hn : l.length ≤ 9223372036854775807) : ∃ r, Ev (fun k => laws_szStringS.f k l 1048576) r ∧ (r < 0 ∨ (l.length ≤ 1048576 ∧ szS l ≤ 1048576)) := by
  unfold laws_szStringS.f
  have hw : wrap64 (1048576 - (l.length : Int)) = 1048576 - (l.length : Int) := w64 (by omega) (by omega)
  by_cases hc : (1048576 : Int) - (l.length : Int) < 0
  · refine ⟨-1, ?_, Or.inl (by omega)⟩
    simp only [hw, if_pos hc]
    exact Ev.now _
  · obtain ⟨r, h1, h2⟩ := szS_loop l hl hn l.length 0 (1048576 - (l.length : Int)) (by omega) (by omega) (by omega) (by omega)
    refine ⟨r, ?_, ?_⟩
    · simp only [hw, if_neg hc]
      exact h1
    · rcases h2 with h2 | h2
      · exact Or.inl h2
      · right
        simp only [Int.toNat_zero, List.drop_zero] at h2
        omega
theorem toS_loop (l : List ByteArray) (hl : l.length ≤ 1048576) (d : Nat) : ∀ (i : Int) (acc : List ByteArray), 0 ≤ i → acc.length = l.length → (∀ j : Nat, (j : Int) < i → acc[j]? = l[j]?) → (l.length : Int) - i = d → Ev (fun k => laws_toStringS.l0 k l acc i) l := by
  induction d with
  | zero =>
    intro i acc h0 hlen hacc hd
    have e : acc = l := List.ext_getElem? fun j => by
      by_cases hj : j < l.length
      · exact hacc j (by omega)
      · rw [List.getElem?_eq_none (by omega), List.getElem?_eq_none (by omega)]
    refine Ev.succ' ?_
    simp only [laws_toStringS.l0, if_neg (show ¬ i < (l.length : Int) by omega)]
    rw [e]
    exact Ev.now _
  | succ d ih =>
    intro i acc h0 hlen hacc hd
    refine Ev.succ' ?_
    simp only [laws_toStringS.l0, if_pos (show i < (l.length : Int) by omega), if_pos h0, if_pos (show i < (acc.length : Int) by omega)]
    rw [w64 (by omega) (by omega)]
    refine ih (i + 1) _ (by omega) (by rw [List.length_set]; exact hlen) (fun j hj => ?_) (by omega)
    rw [List.getElem?_set]
    by_cases hji : i.toNat = j
    · rw [if_pos hji, if_pos (by omega), ← hji, getD_get l ByteArray.empty i h0 (by omega)]
      rfl
    · rw [if_neg hji]; exact hacc j (by omega)
theorem toS_ev (l : List ByteArray) (hl : l.length ≤ 1048576) : Ev (fun k => laws_toStringS.f k l) l := by
  unfold laws_toStringS.f
  simp only [if_pos (show (0 : Int) ≤ (l.length : Int) by omega), if_pos (show (((l.length : Int) : Int)).toNat ≤ 17592186044416 by omega)]
  exact toS_loop l hl l.length 0 _ (by omega) (by simp) (fun j hj => by omega) (by omega)
theorem eqS_ev (l : List ByteArray) (hl : l.length ≤ 1048576) : Ev (fun k => laws_eqStringS.f k l l) true := by
  have loop : ∀ (d : Nat) (i : Int), 0 ≤ i → (l.length : Int) - i = d → Ev (fun k => laws_eqStringS.l0 k l l i) true := by
    intro d
    induction d with
    | zero =>
      intro i h0 hd
      refine Ev.succ' ?_
      simp only [laws_eqStringS.l0, if_neg (show ¬ i < (l.length : Int) by omega)]
      exact Ev.now _
    | succ d ih =>
      intro i h0 hd
      refine Ev.succ' ?_
      simp only [laws_eqStringS.l0, if_pos (show i < (l.length : Int) by omega), if_pos h0, if_true]
      rw [w64 (by omega) (by omega)]
      exact ih (i + 1) (by omega) (by omega)
  unfold laws_eqStringS.f
  simp only [if_true]
  exact loop l.length 0 (by omega) (by omega)

theorem join_len (xs : List (List UInt8)) (sep : List UInt8) : (Lib.join xs sep).length ≤ sep.length * xs.length + Lib.lens xs := by
  cases xs with
  | nil => simp [Lib.join_nil]
  | cons x r =>
    rw [Lib.join_cons, List.length_append, Lib.joinTail_length]
    simp only [Lib.lens, List.map_cons, List.sum_cons, List.length_cons, Nat.mul_succ]
    omega
theorem join_step (xs : List (List UInt8)) (sep : List UInt8) (i : Nat) (y : List UInt8) (h : xs[i]? = some y) : Lib.join (xs.take (i + 1)) sep = if i = 0 then y else Lib.join (xs.take i) sep ++ sep ++ y := by
  cases xs with
  | nil => simp at h
  | cons x r =>
    cases i with
    | zero =>
      simp only [List.getElem?_cons_zero, Option.some.injEq] at h
      subst h
      simp [Lib.join_one]
    | succ i =>
      rw [if_neg (by omega), List.take_succ_cons, List.take_succ_cons, Lib.join_cons, Lib.join_cons, Lib.joinTail_take_succ sep r i y (by simpa using h)]
      simp [List.append_assoc]
theorem dS_append (a b : ByteArray) : dS (a ++ b) = dS a ++ dS b := by
  unfold dS
  rw [ByteArray.data_append, Array.toList_append]
theorem dS_size (a : ByteArray) : (dS a).length = a.size := rfl
theorem ba_of (a : ByteArray) (l : List UInt8) (h : dS a = l) : a = ⟨l.toArray⟩ := by
  apply ByteArray.ext
  rw [← h]
  simp [dS]
theorem sjoin_loop (l : List ByteArray) (sep : ByteArray) (hl : l.length ≤ 1048576) (hs : sep.size ≤ 1048576) (hz : szS l ≤ 1048576) (d : Nat) : ∀ (i : Int) (acc : ByteArray), 0 ≤ i → (l.length : Int) - i = d → dS acc = Lib.join ((l.map dS).take i.toNat) (dS sep) →
    Ev (fun k => spec_JoinWith.l0 k sep acc l (l.length : Int) i) ⟨(Lib.join (l.map dS) (dS sep)).toArray⟩ := by
  have bound : ∀ i : Nat, (Lib.join ((l.map dS).take i) (dS sep)).length ≤ 1048576 * 1048576 + 1048576 := fun i => by
    refine Nat.le_trans (join_len _ _) ?_
    have h1 := Lib.lens_take_le (l.map dS) i
    have h2 : ((l.map dS).take i).length ≤ 1048576 := by rw [List.length_take, List.length_map]; omega
    have h3 : (dS sep).length * ((l.map dS).take i).length ≤ 1048576 * 1048576 := Nat.mul_le_mul (by rw [dS_size]; exact hs) h2
    have h4 : Lib.lens (l.map dS) ≤ 1048576 := hz
    omega
  induction d with
  | zero =>
    intro i acc h0 hd ha
    refine Ev.succ' ?_
    simp only [spec_JoinWith.l0, if_neg (show ¬ i < (l.length : Int) by omega)]
    rw [List.take_of_length_le (by rw [List.length_map]; omega)] at ha
    rw [ba_of acc _ ha]
    exact Ev.now _
  | succ d ih =>
    intro i acc h0 hd ha
    have hlt : i.toNat < l.length := by omega
    have hy : (l.map dS)[i.toNat]? = some (dS (rdOf ByteArray.empty l i)) := by
      rw [List.getElem?_map, getD_get l ByteArray.empty i h0 (by omega)]
      rfl
    have hstep := join_step (l.map dS) (dS sep) i.toNat _ hy
    have hb0 := bound i.toNat
    have hb1 := bound (i.toNat + 1)
    rw [← ha, dS_size] at hb0
    have ey := dS_size (rdOf ByteArray.empty l i)
    have es := dS_size sep
    have ea := dS_size acc
    refine Ev.succ' ?_
    simp only [spec_JoinWith.l0, if_pos (show i < (l.length : Int) by omega), if_pos h0]
    rw [w64 (x := i + 1) (by omega) (by omega)]
    by_cases hi : i > 0
    · rw [if_neg (by omega)] at hstep
      have e1 : dS (acc ++ sep ++ rdOf ByteArray.empty l i) = Lib.join ((l.map dS).take (i.toNat + 1)) (dS sep) := by rw [hstep, dS_append, dS_append, ha]
      have e2 := dS_size (acc ++ sep ++ rdOf ByteArray.empty l i)
      have e3 : (acc ++ sep).size = acc.size + sep.size := ByteArray.size_append
      have e4 : (acc ++ sep ++ rdOf ByteArray.empty l i).size = (acc ++ sep).size + (rdOf ByteArray.empty l i).size := ByteArray.size_append
      rw [e1] at e2
      simp only [if_pos hi, if_pos (show acc.size + sep.size ≤ 9223372036854775807 by omega), if_pos (show (acc ++ sep).size + (rdOf ByteArray.empty l i).size ≤ 9223372036854775807 by omega)]
      exact ih (i + 1) _ (by omega) (by omega) (by rw [show (i + 1).toNat = i.toNat + 1 by omega]; exact e1)
    · have hi0 : i.toNat = 0 := by omega
      rw [if_pos hi0] at hstep
      have e0 : dS acc = [] := by rw [ha, hi0]; rfl
      have e1 : dS (acc ++ rdOf ByteArray.empty l i) = Lib.join ((l.map dS).take (i.toNat + 1)) (dS sep) := by rw [hstep, dS_append, e0]; rfl
      have e4 : (acc ++ rdOf ByteArray.empty l i).size = acc.size + (rdOf ByteArray.empty l i).size := ByteArray.size_append
      have e2 := dS_size (acc ++ rdOf ByteArray.empty l i)
      rw [e1] at e2
      simp only [if_neg hi, if_pos (show acc.size + (rdOf ByteArray.empty l i).size ≤ 9223372036854775807 by omega)]
      exact ih (i + 1) _ (by omega) (by omega) (by rw [show (i + 1).toNat = i.toNat + 1 by omega]; exact e1)

theorem FnExactJoinWith : ∀ (l0 : List ByteArray) (a1 : ByteArray), l0.length ≤ 9223372036854775807 → (∀ x ∈ l0, x.size ≤ maxLen) → a1.size ≤ 140737488351232 → ∃ k, laws_FnExactJoinWith.f k l0 a1 = some true := by
  intro l sep hn hl hs0
  refine Ev.rounds (r := true) ?_
  unfold laws_FnExactJoinWith.f
  by_cases hb : (sep.size : Int) > 1048576
  · simp only [if_pos hb]
    exact Ev.now _
  · simp only [if_neg hb]
    obtain ⟨r, h1, h2⟩ := szS_ev l hl hn
    refine Ev.bind h1 ?_
    by_cases hr : r < 0
    · simp only [if_pos hr]
      exact Ev.now _
    · simp only [if_neg hr]
      obtain ⟨hlen, hz⟩ := h2.resolve_left hr
      have ht := toS_ev l hlen
      have hj := sjoin_loop l sep hlen (by omega) hz l.length 0 ⟨#[]⟩ (by omega) (by omega) rfl
      have hbd : (Lib.join (l.map dS) (dS sep)).length ≤ 1048576 * 1048576 + 1048576 := by
        refine Nat.le_trans (join_len _ _) ?_
        have h3 : (dS sep).length * (l.map dS).length ≤ 1048576 * 1048576 := Nat.mul_le_mul (by rw [dS_size]; omega) (by rw [List.length_map]; exact hlen)
        have h4 : Lib.lens (l.map dS) ≤ 1048576 := hz
        omega
      have hi : impl_JoinWith.f l sep = some ⟨(Lib.join (l.map dS) (dS sep)).toArray⟩ := by
        unfold impl_JoinWith.f Go.Proofs.YtcggonofidgchaaV.strings_Join.f
        rw [if_pos ⟨by omega, by unfold dS at hbd; omega⟩]
        rfl
      refine Ev.bind ht (Ev.bind hj (Ev.bind ht ?_))
      rw [hi]
      simp only [Option.bind_some, if_true]
      refine Ev.bind ht (Ev.bind (eqS_ev l hlen) ?_)
      simp only [if_true]
      exact Ev.now _

end Go.Proofs.Ytcggonofidgchaa.Pure
