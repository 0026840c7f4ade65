/- strings.LastIndexAny at the two signs, of a string of no byte or of 2 to 8 bytes, answers the place of the last sign, or -1. Condition: the start-up code's tables lie in the world. -/
import Derived.Test.YtcnkfnkdcjpkoaaDoorVL
import Derived.Lib.MapLaws
import Derived.Lib.TrimU
import Derived.Lib.TrimAscii
namespace Go.Proofs.YtcnkfnkdcjpkoaaDoorV
open Go.RowKit Go.Lib Go.Shelf Go.Proofs.YtcnkfnkdcjpkoaaDoorW.PrintWords

/-- The last place below n that holds one of the two signs, else -1. -/
def lastUpto (l : List UInt8) : Nat → Int
  | 0 => -1
  | n + 1 => if pmB (l.getD n 0) then n else lastUpto l n

theorem decodeL_far (t : List UInt8) (h128 : 128 ≤ (t.getD (t.length - 1) 0).toNat) (hw : (decodeL t).2 = t.length) : 128 ≤ (decodeL t).1 ∧ ∀ j, j < t.length → 128 ≤ (t.getD j 0).toNat := by
  rw [decodeL_N] at hw ⊢
  rcases decodeN_shape t.length (t.getD 0 0).toNat (t.getD 1 0).toNat (t.getD 2 0).toNat (t.getD 3 0).toNat with ⟨c, e⟩ | ⟨c1, c2, c3, cv, e⟩ | ⟨c1, c2, c3, c4, cv, cs, e⟩ | ⟨c1, c2, c3, c4, c5, cv, cs, e⟩ | e
  all_goals (rw [e] at hw ⊢; dsimp only at hw ⊢; rw [← hw] at h128 ⊢)
  · exact absurd c (by simpa using h128)
  · refine ⟨cv, fun j hj => ?_⟩
    rcases (show j = 0 ∨ j = 1 by omega) with rfl | rfl <;> omega
  · refine ⟨by omega, fun j hj => ?_⟩
    rcases (show j = 0 ∨ j = 1 ∨ j = 2 by omega) with rfl | rfl | rfl <;> omega
  · refine ⟨by omega, fun j hj => ?_⟩
    rcases (show j = 0 ∨ j = 1 ∨ j = 2 ∨ j = 3 by omega) with rfl | rfl | rfl | rfl <;> omega
  · refine ⟨by omega, fun j hj => ?_⟩
    obtain rfl : j = 0 := by omega
    exact h128

theorem decodeLast_far (l : List UInt8) (hne : l ≠ []) (hb : 128 ≤ (l.getD (l.length - 1) 0).toNat) :
    128 ≤ (decodeLastL l).1 ∧ ∀ j, l.length - (decodeLastL l).2 ≤ j → j < l.length → 128 ≤ (l.getD j 0).toNat := by
  have hpos : 0 < l.length := List.length_pos_iff.2 hne
  have hone : 128 ≤ (Utf8.runeError, 1).1 ∧ ∀ j, l.length - (Utf8.runeError, 1).2 ≤ j → j < l.length → 128 ≤ (l.getD j 0).toNat :=
    ⟨by decide, fun j h1 h2 => by obtain rfl : j = l.length - 1 := by have : (Utf8.runeError, 1).2 = 1 := rfl; omega
                                  exact hb⟩
  unfold decodeLastL
  rw [if_neg hne, if_neg (by omega)]
  simp only
  split
  · next hs =>
    have hst : lastStart l < l.length := by have := decodeL_width (l.drop (lastStart l)); omega
    have hlen : (l.drop (lastStart l)).length = l.length - lastStart l := List.length_drop
    have hget : ∀ j, (l.drop (lastStart l)).getD j 0 = l.getD (lastStart l + j) 0 := fun j => by simp [List.getD_eq_getElem?_getD, List.getElem?_drop]
    obtain ⟨h1, h2⟩ := decodeL_far (l.drop (lastStart l)) (by rw [hlen, hget, show lastStart l + (l.length - lastStart l - 1) = l.length - 1 by omega]; exact hb) (by omega)
    refine ⟨h1, fun j hj1 hj2 => ?_⟩
    have := h2 (j - lastStart l) (by omega)
    rw [hget, show lastStart l + (j - lastStart l) = j by omega] at this
    exact this
  · exact hone

theorem pmB_far {x : UInt8} (h : 128 ≤ x.toNat) : pmB x = false := by
  unfold pmB
  have h1 : x ≠ 43 := fun e => by subst e; revert h; decide
  have h2 : x ≠ 45 := fun e => by subst e; revert h; decide
  simp [h1, h2]

theorem lastUpto_skip (l : List UInt8) (n m : Nat) (hm : m ≤ n) (h : ∀ j, m ≤ j → j < n → pmB (l.getD j 0) = false) : lastUpto l n = lastUpto l m := by
  induction n with
  | zero => obtain rfl : m = 0 := by omega
            rfl
  | succ n ih =>
    by_cases hmn : m = n + 1
    · rw [hmn]
    · rw [show lastUpto l (n + 1) = if pmB (l.getD n 0) then (n : Int) else lastUpto l n from rfl, h n (by omega) (by omega), if_neg (by decide)]
      exact ih (by omega) (fun j h1 h2 => h j h1 (by omega))

theorem last_step (L : List UInt8) (n : Nat) (hn : n ≤ L.length) (h0 : 0 < n) :
    1 ≤ (decodeLastL (L.take n)).2 ∧ (decodeLastL (L.take n)).2 ≤ n ∧ (decodeLastL (L.take n)).1 ≤ 1114111 ∧
    ((decide ((decodeLastL (L.take n)).1 < 128) && pmB (UInt8.ofNat (decodeLastL (L.take n)).1)) = true → lastUpto L n = ((n - (decodeLastL (L.take n)).2 : Nat) : Int)) ∧
    ((decide ((decodeLastL (L.take n)).1 < 128) && pmB (UInt8.ofNat (decodeLastL (L.take n)).1)) = false → lastUpto L n = lastUpto L (n - (decodeLastL (L.take n)).2)) := by
  have hlen : (L.take n).length = n := by rw [List.length_take]; omega
  have hw := decodeLastL_width (L.take n) (by omega)
  rw [hlen] at hw
  refine ⟨hw.1, hw.2, decodeLastL_rune _, ?_⟩
  have hg : ∀ j, j < n → (L.take n).getD j 0 = L.getD j 0 := fun j hj => by simp [List.getD_eq_getElem?_getD, hj]
  obtain ⟨m, rfl⟩ : ∃ m, n = m + 1 := ⟨n - 1, by omega⟩
  have hu : lastUpto L (m + 1) = if pmB (L.getD m 0) then (m : Int) else lastUpto L m := rfl
  by_cases hb : (L.getD m 0).toNat < 128
  · have e : decodeLastL (L.take (m + 1)) = ((L.getD m 0).toNat, 1) := by
      unfold decodeLastL
      rw [if_neg (by intro e; rw [e] at hlen; simp at hlen), hlen, show m + 1 - 1 = m by omega, hg m (by omega), if_pos hb]
    rw [e]
    dsimp only
    rw [decide_eq_true hb, Bool.true_and, show UInt8.ofNat (L.getD m 0).toNat = L.getD m 0 by simp, show m + 1 - 1 = m by omega, hu]
    constructor
    · intro h; rw [if_pos h]
    · intro h; rw [h, if_neg (by decide)]
  · obtain ⟨h1, h2⟩ := decodeLast_far (L.take (m + 1)) (by intro e; rw [e] at hlen; simp at hlen) (by rw [hlen, show m + 1 - 1 = m by omega, hg m (by omega)]; omega)
    rw [hlen] at h2
    rw [decide_eq_false (by omega), Bool.false_and]
    refine ⟨fun h => (by cases h), fun _ => ?_⟩
    exact lastUpto_skip L (m + 1) _ (by omega) (fun j hj1 hj2 => pmB_far (by rw [← hg j hj2]; exact h2 j hj1 hj2))

set_option maxHeartbeats 4000000 in
set_option maxRecDepth 1000000 in
theorem last_short (s : ByteArray) (w : World) (ht : Tabs w) (h1 : s.size ≠ 1) (h8 : s.size ≤ 8) :
    Calls Tryd.prog 63 #[.string s, .string pmS] w fun e w' => e = .returned (.int .i64 (lastUpto s.data.toList s.size)) ∧ Below w.heap.size w w' := by
  have HT := Aside0.mk ht
  clear ht
  have HB := Aside0.mk (Below.refl w.heap.size w)
  have hemp : pmS.toList.isEmpty = false := by rw [ByteArray.toList_eq]; rfl
  have hn1 : ((s.size : Int) == 1) = false := beq_eq_false_iff_ne.2 (by omega)
  have hp1 : ((pmS.size : Int) == 1) = false := by decide
  have h8z : decide ((8 : Int) < (s.size : Int)) = false := decide_eq_false (by omega)
  go_enter Tryd.func63, Tryd.ntmps63
  go_wp2_with (go_at_call 89; refine (Tryd.strings_shouldUseASCIISet _ _).mono ?_; rintro e w' ⟨rfl, hw⟩; rw [hw, h8z])
  go_loopg [13, 14, 15] s.size (fun g s13 _ _ wx => ∃ n : Nat, n ≤ g ∧ n ≤ s.size ∧ s13 = .int .i64 n ∧ lastUpto s.data.toList s.size = lastUpto s.data.toList n ∧ Aside0 (Below w.heap.size w wx))
  case atStart => exact ⟨s.size, Nat.le_refl _, Nat.le_refl _, rfl, rfl, HB⟩
  case round =>
    obtain ⟨n, hng, hns, rfl, hl, HB'⟩ := hrel
    by_cases hz : n = 0
    · subst hz
      have hd : decide ((0 : Int) < ((0 : Nat) : Int)) = false := by decide
      go_wp2
      go_ret
      exact ⟨by rw [hl]; rfl, HB'.out⟩
    · have hd : decide ((0 : Int) < (n : Int)) = true := decide_eq_true (by omega)
      have hx1 : ((n : Int) ≤ (s.size : Int)) = True := eq_true (by omega)
      have hx2 : (n ≤ s.size) = True := eq_true hns
      have hex : (s.extract 0 n).data.toList = s.data.toList.take n := Lib.extract_from_zero s n
      obtain ⟨k1, k2, k3, k4, k5⟩ := last_step s.data.toList n hns (by omega)
      rw [← hex] at k1 k2 k3 k4 k5
      generalize hD : decodeLastL (s.extract 0 n).data.toList = D at k1 k2 k3 k4 k5
      obtain ⟨rn, sz⟩ := D
      dsimp only at k1 k2 k3 k4 k5
      have hsub : (n : Int) - (sz : Int) = ((n - sz : Nat) : Int) := by omega
      have hsubw : wrap64 ((n : Int) - (sz : Int)) = ((n - sz : Nat) : Int) := by unfold wrap64; omega
      cases hq : (decide (rn < 128) && pmB (UInt8.ofNat rn))
      all_goals go_wp2_with (first
        | (go_at_call 91; refine (Tryd.utf8_DecodeLastRuneInString _ _ ?hsz ?htb).mono ?_; (case hsz => rw [ByteArray.size_extract]; omega); (case htb => exact (Tabs.below HT.out HB'.out).utf); rintro e w1 ⟨rfl, hb1⟩; rw [hD]; have HB1 := Aside0.mk (below_step HB'.out hb1); clear hb1)
        | (go_at_call 88; refine (indexRune_pm rn _ k3).mono ?_; rintro e w2 ⟨⟨kk, rfl, hk⟩, hb2⟩; rw [hq] at hk; have HB2 := Aside0.mk (below_step HB1.out hb2); clear hb2))
      · go_roundg (gk - 1)
        case measure => omega
        case rel =>
          refine ⟨n - sz, ?_, ?_, rfl, by rw [hl, k5 hq], HB2⟩ <;> omega
      · go_ret
        exact ⟨by rw [hl, k4 hq]; rfl, HB2.out⟩

end Go.Proofs.YtcnkfnkdcjpkoaaDoorV
