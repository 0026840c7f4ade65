/- strings.LastIndexAny at the two signs, of a string of one byte, answers 0 where it is a sign, else -1. No further condition. -/
import Derived.Test.YtcnkfnkdcjpkoaaDoorVM
namespace Go.Proofs.YtcnkfnkdcjpkoaaDoorV
open Go.RowKit Go.Lib Go.Shelf Go.Proofs.YtcnkfnkdcjpkoaaDoorW.PrintWords

set_option maxHeartbeats 4000000 in
set_option maxRecDepth 1000000 in
theorem last_one (s : ByteArray) (w : World) (h1 : s.size = 1) :
    Calls Tryd.prog 63 #[.string s, .string pmS] w fun e w' => e = .returned (.int .i64 (lastUpto s.data.toList s.size)) ∧ Below w.heap.size w w' := by
  have HB := Aside0.mk (Below.refl w.heap.size w)
  have hemp : pmS.toList.isEmpty = false := by rw [ByteArray.toList_eq]; rfl
  have hn1 : ((s.size : Int) == 1) = true := beq_iff_eq.2 (by omega)
  have q0 : (0 < s.size) = True := eq_true (by omega)
  have q1 : ((0 : Int) < (s.size : Int)) = True := eq_true (by omega)
  obtain ⟨b, hb⟩ : ∃ b : UInt8, s[0]'(by omega) = b := ⟨_, rfl⟩
  have hlast : Aside0 (lastUpto s.data.toList s.size = if pmB b then 0 else -1) := Aside0.mk (by
    rw [h1]
    have hg : s.data.toList.getD 0 0 = b := by rw [← hb]; simp [List.getD_eq_getElem?_getD, Lib.data_getElem? s 0 (by omega)]
    show (if pmB (s.data.toList.getD 0 0) then ((0 : Nat) : Int) else lastUpto s.data.toList 0) = _
    rw [hg]; rfl)
  have hb0 : ∀ h : 0 < s.size, s[0]'h = b := fun h => hb
  clear hb h1
  have hwr : wrap32 (b.toNat : Int) = b.toNat := by have := b.toNat_lt; unfold wrap32; omega
  by_cases h128 : b.toNat < 128
  · have d1 : decide ((128 : Int) ≤ (b.toNat : Int)) = false := decide_eq_false (by omega)
    have HI : Aside0 (b.toNat < 128) := Aside0.mk h128
    clear h128
    cases hq : pmB b
    all_goals go_enter Tryd.func63, Tryd.ntmps63
    all_goals go_wp2_with (go_at_call 88; refine (indexRune_pm b.toNat _ (by have := HI.out; omega)).mono ?_; rintro e w2 ⟨⟨kk, rfl, hk⟩, hb2⟩; rw [show UInt8.ofNat b.toNat = b by simp, decide_eq_true HI.out, hq] at hk; have HB2 := Aside0.mk (below_step HB.out hb2); clear hb2)
    · go_ret
      exact ⟨by rw [hlast.out, hq]; rfl, HB2.out⟩
    · go_ret
      exact ⟨by rw [hlast.out, hq]; rfl, HB2.out⟩
  · have d1 : decide ((128 : Int) ≤ (b.toNat : Int)) = true := decide_eq_true (by omega)
    have hq : pmB b = false := pmB_far (by omega)
    clear h128
    go_enter Tryd.func63, Tryd.ntmps63
    go_wp2_with (go_at_call 88; refine (indexRune_pm 65533 _ (by omega)).mono ?_; rintro e w2 ⟨⟨kk, rfl, hk⟩, hb2⟩; rw [show (decide (65533 < 128) && pmB (UInt8.ofNat 65533)) = false by decide] at hk; have HB2 := Aside0.mk (below_step HB.out hb2); clear hb2)
    go_ret
    exact ⟨by rw [hlast.out, hq]; rfl, HB2.out⟩

end Go.Proofs.YtcnkfnkdcjpkoaaDoorV
