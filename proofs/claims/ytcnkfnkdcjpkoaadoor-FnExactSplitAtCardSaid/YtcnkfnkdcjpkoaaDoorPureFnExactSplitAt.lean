/- The plain law behind FnExactSplitAt: for every input that the row lets in, the printed function of the law answers true. No condition beyond the bounds that the statement names. -/
import Derived.Test.YtcnkfnkdcjpkoaaDoorIFnExactSplitAtx2
namespace Go.Proofs.YtcnkfnkdcjpkoaaDoor.Pure
open Go.RowKit Go.Proofs.YtcnkfnkdcjpkoaaDoor.PFnExactSplitAt Go.Proofs.YtcnkfnkdcjpkoaaDoorW.PrintWords Go.Proofs.YtcnkfnkdcjpkoaaDoorW.PrintLast
open Go.Proofs.YtcnkfnkdcjpkoaaDoorW.PrintMore
set_option linter.unusedVariables false
set_option linter.unusedSimpArgs false

theorem w64 {x : Int} (h0 : -9223372036854775808 ≤ x) (h1 : x ≤ 9223372036854775807) : wrap64 x = x := by unfold wrap64; omega
theorem wfb {a : Int} (h : (Lit.int .i64 a).wf = true) : -9223372036854775808 ≤ a ∧ a ≤ 9223372036854775807 := by
  simp [Lit.wf, IntKind.min, IntKind.max, IntKind.signed, IntKind.bits] at h
  omega
theorem Ev.succ' {α : Type} {g : Nat → Option α} {r : α} (h : Ev (fun k => g (k + 1)) r) : Ev g r := Ev.step (fun _ => rfl) h
theorem dec_congr {p q : Prop} [Decidable p] [Decidable q] (h : p ↔ q) : decide p = decide q := by simp [h]

theorem getD_get {α : Type} (l : List α) (d : α) (i : Int) (h0 : 0 ≤ i) (h1 : i < l.length) : l[i.toNat]? = some (l.getD i.toNat d) := by
  rw [List.getD_eq_getElem?_getD]
  obtain ⟨v, hv⟩ : ∃ v, l[i.toNat]? = some v := ⟨_, List.getElem?_eq_getElem (by omega)⟩
  rw [hv]; rfl

theorem mt_ex : ∀ (d : Nat) (n : Int) (acc : ByteArray), 0 ≤ n → n ≤ d → acc.size + d ≤ 1000000000000 → ∃ v, Ev (fun k => laws_markText.l0 k n acc) v := by
  intro d
  induction d with
  | zero =>
    intro n acc h0 hn ha
    refine ⟨(⟨#[109]⟩ : ByteArray) ++ acc, Ev.succ' ?_⟩
    simp only [laws_markText.l0, if_neg (show ¬ n > 0 by omega), if_pos (show 1 + acc.size ≤ 9223372036854775807 by omega)]
    exact Ev.now _
  | succ d ih =>
    intro n acc h0 hn ha
    by_cases hz : n > 0
    · have e2 : wrap64 (Int.tdiv n 10) = n / 10 := by rw [Int.tdiv_eq_ediv_of_nonneg (by omega), w64 (by omega) (by omega)]
      have hs : (strOfNums ([wrap64 (48 + Int.tmod n 10) % 256] : List Int)).size = 1 := by rw [strOfNums_size]; rfl
      obtain ⟨v, hv⟩ := ih (n / 10) (strOfNums ([wrap64 (48 + Int.tmod n 10) % 256] : List Int) ++ acc) (by omega) (by omega) (by rw [ByteArray.size_append, hs]; omega)
      refine ⟨v, Ev.succ' ?_⟩
      simp only [laws_markText.l0, if_pos hz, Option.bind_some, hs, if_pos (show 1 + acc.size ≤ 9223372036854775807 by omega), e2]
      exact hv
    · refine ⟨(⟨#[109]⟩ : ByteArray) ++ acc, Ev.succ' ?_⟩
      simp only [laws_markText.l0, if_neg hz, if_pos (show 1 + acc.size ≤ 9223372036854775807 by omega)]
      exact Ev.now _
theorem mtf_ex (n : Int) (h0 : 0 ≤ n) (hn : n ≤ 100000000000) : ∃ v, Ev (fun k => laws_markText.f k n) v := by
  by_cases hz : n ≤ 0
  · refine ⟨⟨#[109, 48]⟩, ?_⟩
    unfold laws_markText.f
    simp only [if_pos hz]
    exact Ev.now _
  · obtain ⟨v, hv⟩ := mt_ex n.toNat n ⟨#[]⟩ h0 (by omega) (by show (0 : Nat) + n.toNat ≤ 1000000000000; omega)
    refine ⟨v, ?_⟩
    unfold laws_markText.f
    simp only [if_neg hz]
    exact hv
noncomputable def mt (n : Int) : ByteArray := if h : 0 ≤ n ∧ n ≤ 100000000000 then Classical.choose (mtf_ex n h.1 h.2) else ⟨#[]⟩
theorem mt_ev (n : Int) (h0 : 0 ≤ n) (hn : n ≤ 100000000000) : Ev (fun k => laws_markText.f k n) (mt n) := by
  unfold mt
  rw [dif_pos ⟨h0, hn⟩]
  exact Classical.choose_spec (mtf_ex n h0 hn)
theorem markS_ev (d : Nat) : ∀ (l : List ByteArray) (m i : Int), l.length ≤ 10000000000 → 0 ≤ m → m + d ≤ 50000000000 → 0 ≤ i → (l.length : Int) - i = d →
    ∃ l', Ev (fun k => laws_markStringS.l0 k l m i) (m + d, l') ∧ l'.length = l.length ∧ (∀ j : Nat, (j : Int) < i → l'[j]? = l[j]?) ∧ (∀ j : Nat, i ≤ (j : Int) → j < l.length → l'[j]? = some (mt (m + (j - i)))) := by
  induction d with
  | zero =>
    intro l m i hl hm hmd h0 hd
    refine ⟨l, Ev.succ' ?_, rfl, fun _ _ => rfl, fun j h1 h2 => by omega⟩
    simp only [laws_markStringS.l0, if_neg (show ¬ i < (l.length : Int) by omega)]
    rw [show m + ((0 : Nat) : Int) = m by omega]
    exact Ev.now _
  | succ d ih =>
    intro l m i hl hm hmd h0 hd
    obtain ⟨l', h1, h2, h3, h4⟩ := ih (l.set i.toNat (mt m)) (m + 1) (i + 1) (by rw [List.length_set]; exact hl) (by omega) (by omega) (by omega) (by rw [List.length_set]; omega)
    refine ⟨l', Ev.succ' ?_, by rw [h2, List.length_set], fun j hj => ?_, fun j hj1 hj2 => ?_⟩
    · simp only [laws_markStringS.l0, if_pos (show i < (l.length : Int) by omega), if_pos h0]
      rw [w64 (x := m + 1) (by omega) (by omega), w64 (x := i + 1) (by omega) (by omega)]
      refine Ev.bind (mt_ev m hm (by omega)) ?_
      rw [show m + ((d + 1 : Nat) : Int) = m + 1 + (d : Int) by omega]
      exact h1
    · rw [h3 j (by omega), List.getElem?_set_ne (by omega)]
    · by_cases hji : (j : Int) = i
      · rw [h3 j (by omega), List.getElem?_set, if_pos (by omega), if_pos (by omega), show m + ((j : Int) - i) = m by omega]
      · rw [h4 j (by omega) (by rw [List.length_set]; exact hj2), show m + 1 + ((j : Int) - (i + 1)) = m + ((j : Int) - i) by omega]
theorem heldS_ev (d : Nat) : ∀ (l : List ByteArray) (m i : Int), l.length ≤ 10000000000 → 0 ≤ m → m + d ≤ 50000000000 → 0 ≤ i → (l.length : Int) - i = d → (∀ j : Nat, i ≤ (j : Int) → j < l.length → l[j]? = some (mt (m + (j - i)))) →
    Ev (fun k => laws_heldStringS.l0 k l m i) (m + d) := by
  induction d with
  | zero =>
    intro l m i hl hm hmd h0 hd ha
    refine Ev.succ' ?_
    simp only [laws_heldStringS.l0, if_neg (show ¬ i < (l.length : Int) by omega)]
    rw [show m + ((0 : Nat) : Int) = m by omega]
    exact Ev.now _
  | succ d ih =>
    intro l m i hl hm hmd h0 hd ha
    have he : rdOf ByteArray.empty l i = mt m := by
      have h1 := ha i.toNat (by omega) (by omega)
      rw [show m + ((i.toNat : Int) - i) = m by omega] at h1
      simp only [rdOf, List.getD_eq_getElem?_getD, h1, Option.getD_some]
    refine Ev.succ' ?_
    simp only [laws_heldStringS.l0, if_pos (show i < (l.length : Int) by omega), if_pos h0, he]
    rw [w64 (x := m + 1) (by omega) (by omega), w64 (x := i + 1) (by omega) (by omega)]
    refine Ev.bind (mt_ev m hm (by omega)) ?_
    simp only [if_true]
    rw [show m + ((d + 1 : Nat) : Int) = m + 1 + (d : Int) by omega]
    exact ih l (m + 1) (i + 1) hl (by omega) (by omega) (by omega) (by omega) (fun j h1 h2 => by rw [ha j (by omega) h2, show m + 1 + ((j : Int) - (i + 1)) = m + ((j : Int) - i) by omega])
theorem mark_held (l : List ByteArray) (hl : l.length ≤ 10000000) : ∃ l', Ev (fun k => laws_markStringS.f k l 1) (1 + (l.length : Int), l') ∧ Ev (fun k => laws_heldStringS.f k l' 1) (1 + (l.length : Int)) := by
  obtain ⟨l', h1, h2, _, h4⟩ := markS_ev l.length l 1 0 (by omega) (by omega) (by omega) (by omega) (by omega)
  refine ⟨l', h1, ?_⟩
  have := heldS_ev l.length l' 1 0 (by omega) (by omega) (by omega) (by omega) (by omega) (fun j hj1 hj2 => h4 j hj1 (by omega))
  exact this

def splV (s p : ByteArray) : List ByteArray := Lib.splitB p 0 (Lib.countB s p) s
theorem splB_len (p : ByteArray) (hp : 1 ≤ p.size) : ∀ (n : Nat) (s : ByteArray), s.size ≤ n → (splV s p).length = Lib.countB s p + 1 := by
  intro n
  induction n with
  | zero =>
    intro s hs
    have hm : Lib.indexB s p = -1 := by
      refine Lib.index_none fun j _ => ?_
      cases hh : Lib.occAt s.data.toList p.data.toList j with
      | false => rfl
      | true =>
        rcases Lib.occAt_room hh with h | h
        · have : s.data.toList.length = s.size := rfl
          have : p.data.toList.length = p.size := rfl
          omega
        · have : p.data.toList.length = p.size := rfl
          rw [h] at this; simp at this; omega
    unfold splV
    rw [Lib.countB_miss s p hm, Lib.splitB_zero]
    rfl
  | succ n ih =>
    intro s hs
    rcases Int.lt_or_le (Lib.indexB s p) 0 with hm | hm
    · have h1 := Lib.index_ge s.data.toList p.data.toList
      have hm : Lib.indexB s p = -1 := by unfold Lib.indexB at hm ⊢; omega
      unfold splV
      rw [Lib.countB_miss s p hm, Lib.splitB_zero]
      rfl
    · obtain ⟨i, hi⟩ : ∃ i : Nat, Lib.indexB s p = i := ⟨(Lib.indexB s p).toNat, by omega⟩
      have hl : (s.extract (i + p.size) s.size).size ≤ n := by rw [ByteArray.size_extract]; omega
      have := ih _ hl
      unfold splV at this ⊢
      rw [Lib.countB_hit s p i hp hi, Nat.add_comm 1, Lib.splitB_hit p 0 _ s i hi, List.length_cons, this]
theorem sspl_loop (s p : ByteArray) (hs : s.size ≤ 1048576) (hp : 1 ≤ p.size) (hp2 : p.size ≤ 1048576) (d : Nat) : ∀ (fr i : Nat) (out : List ByteArray), s.size + 1 - i ≤ d → fr ≤ i → i ≤ s.size → out.length ≤ i →
    (∀ j, fr ≤ j → j < i → Lib.occAt s.data.toList p.data.toList j = false) →
    Ev (fun k => spec_SplitAt.l0 k s p out (fr : Int) (i : Int)) (out ++ splV (s.extract fr s.size) p) := by
  have hpe : ¬ p.toList = ([] : List UInt8) := by
    intro e
    have : p.toList.length = p.size := by rw [ByteArray.toList_eq]; rfl
    rw [e] at this; simp at this; omega
  have hS : s.data.toList.length = s.size := rfl
  have hP : p.data.toList.length = p.size := rfl
  have hPn : p.data.toList ≠ [] := by intro e; rw [e] at hP; simp at hP; omega
  have occ_drop : ∀ fr j, Lib.occAt (s.extract fr s.size).data.toList p.data.toList j = Lib.occAt s.data.toList p.data.toList (fr + j) := by
    intro fr j
    unfold Lib.occAt
    rw [Lib.extract_data, List.take_of_length_le (by rw [List.length_drop]; omega), List.drop_drop]
  have hsz : ∀ fr, (s.extract fr s.size).data.toList.length = s.size - fr := by
    intro fr
    rw [Lib.extract_data, List.take_of_length_le (by rw [List.length_drop]; omega), List.length_drop]; omega
  induction d with
  | zero => intro fr i out hd h1 h2 h3 ha; omega
  | succ d ih =>
    intro fr i out hd h1 h2 h3 ha
    refine Ev.succ' ?_
    simp only [spec_SplitAt.l0, if_neg hpe]
    have hw : wrap64 ((i : Int) + (p.size : Int)) = ((i + p.size : Nat) : Int) := by rw [w64 (by omega) (by omega)]; omega
    rw [hw]
    by_cases hr : i + p.size ≤ s.size
    · have hdec : decide (((i + p.size : Nat) : Int) ≤ (s.size : Int)) = true := decide_eq_true (by omega)
      rw [hdec]
      refine Ev.succ' ?_
      simp only [spec_SplitAt.j1, if_true, hw, if_pos (show (0 : Int) ≤ (i : Int) by omega), if_pos (show (i : Int) ≤ ((i + p.size : Nat) : Int) by omega), if_pos (show ((i + p.size : Nat) : Int) ≤ (s.size : Int) by omega), Int.toNat_natCast]
      by_cases hc : (s.extract i (i + p.size)).toList = p.toList
      · simp only [if_pos hc, if_pos (show (0 : Int) ≤ (fr : Int) by omega), if_pos (show (fr : Int) ≤ (i : Int) by omega), if_pos (show (i : Int) ≤ (s.size : Int) by omega), if_pos (show out.length < 8796093022208 by omega), Int.toNat_natCast]
        have hocc := Go.Proofs.occ_yes s p i hr (beq_iff_eq.2 hc)
        have hidx : Lib.indexB (s.extract fr s.size) p = ((i - fr : Nat) : Int) := by
          refine Lib.index_first (by rw [hsz]; omega) ?_ (fun j hj => ?_)
          · rw [occ_drop, show fr + (i - fr) = i by omega]; exact hocc
          · rw [occ_drop]; exact ha _ (by omega) (by omega)
        have h4 := ih (i + p.size) (i + p.size) (out ++ [s.extract fr i]) (by omega) (Nat.le_refl _) hr (by rw [List.length_append, List.length_singleton]; omega) (fun j h5 h6 => by omega)
        have e : splV (s.extract fr s.size) p = s.extract fr i :: splV (s.extract (i + p.size) s.size) p := by
          unfold splV
          have e1 : (s.extract fr s.size).extract (i - fr + p.size) (s.extract fr s.size).size = s.extract (i + p.size) s.size := by
            rw [ByteArray.size_extract, ByteArray.extract_extract]
            congr 1 <;> omega
          have e2 : (s.extract fr s.size).extract 0 (i - fr + 0) = s.extract fr i := by
            rw [ByteArray.extract_extract]
            congr 1 <;> omega
          rw [Lib.countB_hit _ p _ hp hidx, e1, Nat.add_comm 1, Lib.splitB_hit p 0 _ _ _ hidx, e1, e2]
        rw [e, show out ++ s.extract fr i :: splV (s.extract (i + p.size) s.size) p = out ++ [s.extract fr i] ++ splV (s.extract (i + p.size) s.size) p by simp]
        exact h4
      · simp only [if_neg hc]
        have hocc := Go.Proofs.occ_no s p i hr (beq_eq_false_iff_ne.2 hc)
        rw [w64 (x := (i : Int) + 1) (by omega) (by omega)]
        exact ih fr (i + 1) out (by omega) (by omega) (by omega) (by omega) (fun j h5 h6 => by
          by_cases hj : j = i
          · rw [hj]; exact hocc
          · exact ha j h5 (by omega))
    · have hdec : decide (((i + p.size : Nat) : Int) ≤ (s.size : Int)) = false := decide_eq_false (by omega)
      rw [hdec]
      refine Ev.succ' ?_
      simp only [spec_SplitAt.j1, Bool.false_eq_true, if_false, if_pos (show (0 : Int) ≤ (fr : Int) by omega), if_pos (show (fr : Int) ≤ (s.size : Int) by omega), if_pos (show out.length < 8796093022208 by omega), Int.toNat_natCast]
      have hm : Lib.indexB (s.extract fr s.size) p = -1 := by
        refine Lib.index_none fun j _ => ?_
        rw [occ_drop]
        by_cases hj : fr + j < i
        · exact ha _ (by omega) hj
        · cases hh : Lib.occAt s.data.toList p.data.toList (fr + j) with
          | false => rfl
          | true =>
            rcases Lib.occAt_room hh with h | h
            · omega
            · exact absurd h hPn
      have e : splV (s.extract fr s.size) p = [s.extract fr s.size] := by
        unfold splV
        rw [Lib.countB_miss _ p hm, Lib.splitB_zero]
      rw [e]
      exact Ev.now _
theorem whole (s : ByteArray) : s.extract 0 s.size = s := Lib.whole_piece s
theorem spl_count (s p : ByteArray) : Lib.countB s p ≤ s.size + 1 := Lib.count_le _ _
def splA (s p : ByteArray) : List ByteArray := if p.size = 0 then [s] else splV s p
theorem nil_iff (p : ByteArray) : p.toList = ([] : List UInt8) ↔ p.size = 0 := by
  have : p.toList.length = p.size := by rw [ByteArray.toList_eq]; rfl
  constructor
  · intro e; rw [e] at this; simp at this; omega
  · intro e; exact List.length_eq_zero_iff.1 (by omega)
theorem sspl (s p : ByteArray) (hs : s.size ≤ 1048576) (hp2 : p.size ≤ 1048576) : Ev (fun k => spec_SplitAt.f k s p) (splA s p) := by
  unfold spec_SplitAt.f splA
  by_cases hp : p.size = 0
  · rw [if_pos hp]
    refine Ev.succ' ?_
    simp only [spec_SplitAt.l0, if_pos ((nil_iff p).2 hp)]
    refine Ev.succ' ?_
    simp only [spec_SplitAt.j1, Bool.false_eq_true, if_false, if_pos (show (0 : Int) ≤ 0 by omega), if_pos (show (0 : Int) ≤ (s.size : Int) by omega), List.length_nil, if_pos (show 0 < 8796093022208 by omega), Int.toNat_zero, List.nil_append, whole]
    exact Ev.now _
  · rw [if_neg hp]
    have := sspl_loop s p hs (by omega) hp2 (s.size + 1) 0 0 [] (by omega) (by omega) (by omega) (by simp) (fun j h1 h2 => by omega)
    rw [whole, List.nil_append] at this
    exact this
theorem ispl (s p : ByteArray) (hs : s.size ≤ 1048576) : impl_SplitAt.f s p = some (splA s p) := by
  unfold impl_SplitAt.f splA
  by_cases hp : p.size = 0
  · rw [if_pos ((nil_iff p).2 hp), if_pos hp]
  · rw [if_neg (fun e => hp ((nil_iff p).1 e)), if_neg hp]
    unfold Go.Proofs.YtcnkfnkdcjpkoaaDoorVS.strings_Split.f
    have h1 := splB_len p (by omega) s.size s (Nat.le_refl _)
    have h2 := spl_count s p
    rw [if_pos ⟨by omega, by omega, h1, by omega⟩]
    rfl
theorem splA_len (s p : ByteArray) (hs : s.size ≤ 1048576) : (splA s p).length ≤ 1048578 := by
  unfold splA
  split
  · simp
  · have h1 := splB_len p (by omega) s.size s (Nat.le_refl _)
    have h2 := spl_count s p
    omega
theorem eqS_ev' (l : List ByteArray) (hl : l.length ≤ 1048578) : Ev (fun k => laws_eqStringS.f k l l) true := by
  have loop : ∀ (d : Nat) (i : Int), 0 ≤ i → (l.length : Int) - i = d → Ev (fun k => laws_eqStringS.l0 k l l i) true := by
    intro d
    induction d with
    | zero =>
      intro i h0 hd
      refine Ev.succ' ?_
      simp only [laws_eqStringS.l0, if_neg (show ¬ i < (l.length : Int) by omega)]
      exact Ev.now _
    | succ d ih =>
      intro i h0 hd
      refine Ev.succ' ?_
      simp only [laws_eqStringS.l0, if_pos (show i < (l.length : Int) by omega), if_pos h0, if_true]
      rw [w64 (by omega) (by omega)]
      exact ih (i + 1) (by omega) (by omega)
  unfold laws_eqStringS.f
  simp only [if_true]
  exact loop l.length 0 (by omega) (by omega)

theorem FnExactSplitAt : ∀ (a0 : ByteArray) (a1 : ByteArray), a0.size ≤ 140737488351232 → a1.size ≤ 140737488351232 → ∃ k, laws_FnExactSplitAt.f k a0 a1 = some true := by
  intro s p _ _
  refine Ev.rounds (r := true) ?_
  unfold laws_FnExactSplitAt.f
  by_cases h1 : (s.size : Int) > 1048576
  · simp only [if_pos h1]
    exact Ev.now _
  · simp only [if_neg h1]
    by_cases h2 : (p.size : Int) > 1048576
    · simp only [if_pos h2]
      exact Ev.now _
    · simp only [if_neg h2]
      have hl := splA_len s p (by omega)
      have hi := ispl s p (by omega)
      have he := eqS_ev' (splA s p) hl
      obtain ⟨l', hm, hh⟩ := mark_held (splA s p) (by omega)
      refine Ev.bind (sspl s p (by omega) (by omega)) ?_
      simp only [hi, Option.bind_some]
      refine Ev.bind he ?_
      simp only [if_true]
      refine Ev.bind hm (Ev.bind hh ?_)
      simp only [if_neg (show ¬ (1 + ((splA s p).length : Int) < 0) by omega), if_true]
      refine Ev.bind he ?_
      simp only [if_true]
      refine Ev.bind hh ?_
      simp only [if_neg (show ¬ (1 + ((splA s p).length : Int) < 0) by omega), if_true]
      exact Ev.now _

end Go.Proofs.YtcnkfnkdcjpkoaaDoor.Pure
