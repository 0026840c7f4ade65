/- strings.LastIndexAny at the two signs, of a string of more than 8 bytes, answers the place of the last sign, or -1. Condition: fewer than 4294967281 bytes. -/
import Derived.Test.YtcnkfnkdcjpkoaaDoorVM
import Derived.Lib.Builder
namespace Go.Proofs.YtcnkfnkdcjpkoaaDoorV
open Go.RowKit Go.Lib Go.Shelf Go.Proofs.YtcnkfnkdcjpkoaaDoorW.PrintWords

set_option maxHeartbeats 8000000 in
set_option maxRecDepth 1000000 in
theorem last_long (s : ByteArray) (w : World) (h8 : 8 < s.size) (hs : s.size < 4294967281) :
    Calls Tryd.prog 63 #[.string s, .string pmS] w fun e w' => e = .returned (.int .i64 (lastUpto s.data.toList s.size)) ∧ w' = ((w.alloc (.cells (Lib.setCells pmS.data.toList) 80)).alloc (.cells (Lib.setCells pmS.data.toList) 80)) := by
  have hac : ∀ (j : Nat) b, pmS.data.toList[j]? = some b → b.toNat < 128 := by
    intro j b h
    have : b ∈ pmS.data.toList := List.mem_of_getElem? h
    revert this
    show b ∈ [43, 45] → _
    intro h
    rcases List.mem_cons.1 h with rfl | h
    · decide
    · rcases List.mem_singleton.1 h with rfl
      decide
  have hemp : pmS.toList.isEmpty = false := by rw [ByteArray.toList_eq]; rfl
  have hn1 : ((s.size : Int) == 1) = false := beq_eq_false_iff_ne.2 (by omega)
  have h8z : decide ((8 : Int) < (s.size : Int)) = true := decide_eq_true (by omega)
  have hsub : wrap64 ((s.size : Int) - 1) = (s.size : Int) - 1 := by unfold wrap64; omega
  have hv80 : ∀ w, (zeroValue 80).run Tryd.prog w = .ok (.agg (Array.replicate 256 (.bool false))) w := (zero_of_info (P := Tryd.prog) (t := 80) (n := 256) (by kernel_rfl)).1
  have hi80 : (Tryd.prog.info? 80).map (·.size) = some 256 := by kernel_rfl
  have hM := Tryd.strings_makeASCIISet hv80 pmS w (by decide) hac
  clear hac
  have hsc : (storeCells ⟨w.heap.size + 1, 0, none⟩ (Lib.setCells pmS.data.toList).toList 0).run Tryd.prog ((w.alloc (.cells (Lib.setCells pmS.data.toList) 80)).alloc (.cells (Array.replicate 256 (.bool false)) 80)) = .ok () ((w.alloc (.cells (Lib.setCells pmS.data.toList) 80)).alloc (.cells (Lib.setCells pmS.data.toList) 80)) := by
    have := run_storeCells_new (P := Tryd.prog) (w.alloc (.cells (Lib.setCells pmS.data.toList) 80)) 80 (Array.replicate 256 (.bool false)) (Lib.setCells pmS.data.toList) (by rw [Lib.setCells_size]; exact hi80) (by rw [Lib.setCells_size, Array.size_replicate]) (Lib.setCells_one _)
    simpa using this
  have hsz := Lib.setCells_size pmS.data.toList
  have hcellAt : ∀ x : UInt8, ((w.alloc (.cells (Lib.setCells pmS.data.toList) 80)).alloc (.cells (Lib.setCells pmS.data.toList) 80)).cell? ⟨w.heap.size + 1, x.toNat, none⟩ = some (.bool (pmB x)) := fun x => by
    rw [World.cell?_alloc_at _ _ _ _ (by simp), Lib.setCells_at]
    rfl
  have HC : Aside0 (∀ x : UInt8, ((w.alloc (.cells (Lib.setCells pmS.data.toList) 80)).alloc (.cells (Lib.setCells pmS.data.toList) 80)).cell? ⟨w.heap.size + 1, x.toNat, none⟩ = some (.bool (pmB x))) := Aside0.mk hcellAt
  clear hcellAt
  generalize Lib.setCells pmS.data.toList = C at hM hsc hsz HC ⊢
  go_enter Tryd.func63, Tryd.ntmps63
  go_wp2_with (first
    | (go_at_call 89; refine (Tryd.strings_shouldUseASCIISet _ _).mono ?_; rintro e w' ⟨rfl, hw⟩; rw [hw, h8z])
    | (go_at_call 83; refine hM.mono ?_; rintro e w' ⟨rfl, hw⟩; rw [hw]))
  clear hM hsc hv80 hi80 hsz
  go_loopg [8] s.size (fun g s8 wx => ∃ (n : Nat) (z : Int), n ≤ g ∧ n ≤ s.size ∧ z = (n : Int) - 1 ∧ s8 = .int .i64 z ∧ wx = ((w.alloc (.cells (C) 80)).alloc (.cells (C) 80)) ∧ lastUpto s.data.toList s.size = lastUpto s.data.toList n)
  case atStart => exact ⟨s.size, (s.size : Int) - 1, Nat.le_refl _, Nat.le_refl _, rfl, by first | rfl | rw [hsub], rfl, rfl⟩
  case round =>
    obtain ⟨n, z, hng, hns, hz, rfl, rfl, hl⟩ := hrel
    cases n with
    | zero =>
      obtain rfl : z = -1 := by omega
      clear hz
      have hd : decide ((0 : Int) ≤ -1) = false := by decide
      go_wp2
      go_ret
      exact ⟨by rw [hl]; rfl, rfl⟩
    | succ m =>
      obtain rfl : z = (m : Int) := by omega
      clear hz
      have hm : m < s.size := by omega
      have hd : decide ((0 : Int) ≤ (m : Int)) = true := decide_eq_true (by omega)
      obtain ⟨x, hx⟩ : ∃ x : UInt8, s[m]'hm = x := ⟨_, rfl⟩
      have hxl : s.data.toList.getD m 0 = x := by rw [List.getD_eq_getElem?_getD, Lib.data_getElem? s m hm, hx]; rfl
      have Hx : Aside0 (lastUpto s.data.toList (m + 1) = if pmB x then (m : Int) else lastUpto s.data.toList m) := Aside0.mk (by rw [← hxl]; rfl)
      clear hxl
      have hcx := HC.out x
      have hsub2 : wrap64 ((m : Int) - 1) = (m : Int) - 1 := by unfold wrap64; omega
      cases hin : pmB x <;> rw [hin] at hcx
      · go_wp2_with (go_at_call 90; refine (Tryd.asciiSet_contains _ x _ _ hcx).mono ?_; rintro e w' ⟨rfl, hw⟩; rw [hw])
        go_roundg (gk - 1)
        case measure => omega
        case rel => exact ⟨m, (m : Int) - 1, by omega, by omega, rfl, by first | rfl | rw [hsub2], rfl, by rw [hl, Hx.out, hin, if_neg (by decide)]⟩
      · go_wp2_with (go_at_call 90; refine (Tryd.asciiSet_contains _ x _ _ hcx).mono ?_; rintro e w' ⟨rfl, hw⟩; rw [hw])
        go_ret
        exact ⟨by rw [hl, Hx.out, hin, if_pos rfl]; rfl, rfl⟩

end Go.Proofs.YtcnkfnkdcjpkoaaDoorV
