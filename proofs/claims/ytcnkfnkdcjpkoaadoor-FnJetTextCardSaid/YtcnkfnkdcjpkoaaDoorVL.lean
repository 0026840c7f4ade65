/- strings.IndexRune over the two signs plus and minus answers, at every rune, a number that is at least 0 just where the rune is one of the two. Condition: the rune is at most 1114111. -/
import Derived.Test.YtcnkfnkdcjpkoaaDoorV
import Derived.Deep.LoopGhost
import Derived.Lib.Walk
import Derived.WalkKit
import Derived.Lib.RuneBytes
import Derived.Lib.ConvBytes
import Derived.WalkMore
import Derived.ScopeJumps
import Derived.Shelf.RegionOpenPlain
import Derived.Deep.RegionWith
namespace Go.Proofs.YtcnkfnkdcjpkoaaDoorV
open Go.RowKit Go.Lib Go.Proofs.YtcnkfnkdcjpkoaaDoorW.PrintWords

def pmS : ByteArray := ⟨#[43, 45]⟩

theorem run_convert_rune (w : World) (r : Int) : (convert 21 9 (.int .i32 r)).run Tryd.prog w = .ok (.string (Utf8.encode r)) w := by
  unfold convert
  simp only [Sem.run_bind, run_underlying Tryd.underlying21, run_underlying Tryd.underlying9, Result.andThen]
  rfl

theorem encode_far (r : Int) (h0 : 128 ≤ r) (h1 : r ≤ 1114111) : (∃ b : Int, (Utf8.encode r).size = 2 ∧ (∀ h : 1 < (Utf8.encode r).size, (((Utf8.encode r)[1]'h).toNat : Int) = b) ∧ 128 ≤ b) ∨ 3 ≤ (Utf8.encode r).size ∧ (Utf8.encode r).size ≤ 4 := by
  have hc : ∃ c : Nat, (if Utf8.valid r then r.toNat else Utf8.runeError) = c ∧ 128 ≤ c := by
    split
    · exact ⟨_, rfl, by omega⟩
    · exact ⟨_, rfl, by decide⟩
  obtain ⟨c, ec, hc⟩ := hc
  by_cases h8 : c < 0x800
  · have e : Utf8.encode r = ⟨#[UInt8.ofNat (0xC0 + c / 64), UInt8.ofNat (0x80 + c % 64)]⟩ := by
      unfold Utf8.encode
      simp only [ec]
      rw [if_neg (by omega), if_pos h8]
    rw [e]
    refine Or.inl ⟨((UInt8.ofNat (0x80 + c % 64)).toNat : Int), rfl, fun _ => rfl, ?_⟩
    have : (UInt8.ofNat (0x80 + c % 64)).toNat = 0x80 + c % 64 := by simp [UInt8.toNat_ofNat']; omega
    rw [this]; omega
  · right
    unfold Utf8.encode
    simp only [ec]
    rw [if_neg (by omega), if_neg h8]
    split
    · exact ⟨by show 3 ≤ 3; omega, by show 3 ≤ 4; omega⟩
    · exact ⟨by show 3 ≤ 4; omega, by show 4 ≤ 4; omega⟩

set_option maxHeartbeats 4000000 in
set_option maxRecDepth 1000000 in
theorem indexRune_far (r : Int) (w : World) (h0 : 128 ≤ r) (h1 : r ≤ 1114111) (hne : r ≠ 65533) :
    Calls Tryd.prog 88 #[.string pmS, .int .i32 r] w fun e w' => e = .returned (.int .i64 (-1)) ∧ Below w.heap.size w w' := by
  have a1 : ¬ (r < 128) := by omega
  have a2 : (0 : Int) ≤ r := by omega
  have a3 : (r == 65533) = false := beq_eq_false_iff_ne.2 hne
  have hcv := fun w => run_convert_rune w r
  have hen := encode_far r h0 h1
  generalize Utf8.encode r = rs at hcv hen
  rcases hen with ⟨b, hs, hb1, hb⟩ | ⟨h3, h4⟩
  · go_enter Tryd.func88, Tryd.ntmps88
    cases hv : Lib.validRune r
    all_goals go_wp2_with (first
      | (go_at_call 105; refine (Tryd.utf8_ValidRune _ _).mono ?_; rintro e w' ⟨rfl, hw⟩; rw [hw, hv])
      | (go_at_call 104; refine (Tryd.strings_IndexByte _ _ _).mono ?_; rintro e w' ⟨rfl, hw⟩; rw [hw]))
    · go_ret
      exact ⟨rfl, Below.refl _ _⟩
    go_step3
    go_wp2_with (first
      | (go_at_call 104; refine (Tryd.strings_IndexByte _ _ _).mono ?_; rintro e w' ⟨rfl, hw⟩; rw [hw]))
    go_loopg [9, 10, 11, 12] 1 (fun g s9 _ _ _ wx => g = 1 ∧ s9 = .int .i64 1 ∧ wx = w)
    case atStart => exact ⟨rfl, rfl, rfl⟩
    case round =>
      obtain ⟨rfl, rfl, rfl⟩ := hrel
      have q1 : (1 < pmS.size) = True := eq_true (by decide)
      have q2 : ((1 : Int) < (pmS.size : Int)) = True := eq_true (by decide)
      have q3 : decide ((1 : Int) < (pmS.size : Int)) = true := by decide
      have q4 : ∀ h : 1 < pmS.size, ((pmS[1]'h).toNat : Int) = 45 := fun _ => rfl
      have q5 : (1 < rs.size) = True := eq_true (by omega)
      have q6 : ((1 : Int) < (rs.size : Int)) = True := eq_true (by omega)
      have y5 : ((45 : Int) == b) = false := beq_eq_false_iff_ne.2 (by omega)
      have y6 : ((45 : Int) != b) = true := bne_iff_ne.2 (by omega)
      go_wp2_with (first
        | (go_at_call 104; refine (Tryd.strings_IndexByte _ _ _).mono ?_; rintro e w' ⟨rfl, hw⟩; rw [hw]))
      go_step3
      go_wp2
      go_region_o
      go_wp2
      have q7 : ((2 : Int) ≤ (pmS.size : Int)) = True := eq_true (by decide)
      have q8 : (2 ≤ pmS.size) = True := eq_true (by decide)
      have ho : ∀ n c, Lib.indexByte (pmS.extract 2 n).data.toList c = -1 := fun n c => by
        rw [Lib.extract_data]
        have : pmS.data.toList.drop 2 = [] := rfl
        rw [this, List.take_nil]
        rfl
      go_region_with (go_at_call 104; refine (Tryd.strings_IndexByte _ _ _).mono ?_; rintro e w' ⟨rfl, hw⟩; rw [hw, ho])
      all_goals go_wp2
      all_goals (rw [Exit.noGoto_ret]; simp only [Exit.inBlock, Exit.then]; rw [Exit.noGoto_ret]; go_ret; exact ⟨rfl, below_drew1 (below_drew1 (Below.refl _ _))⟩)
  · go_enter Tryd.func88, Tryd.ntmps88
    cases hv : Lib.validRune r
    all_goals go_wp2_with (first
      | (go_at_call 105; refine (Tryd.utf8_ValidRune _ _).mono ?_; rintro e w' ⟨rfl, hw⟩; rw [hw, hv])
      | (go_at_call 104; refine (Tryd.strings_IndexByte _ _ _).mono ?_; rintro e w' ⟨rfl, hw⟩; rw [hw]))
    · go_ret
      exact ⟨rfl, Below.refl _ _⟩
    go_step3
    have e1 : wrap64 ((rs.size : Int) - 1) = (rs.size : Int) - 1 := by unfold wrap64; omega
    have e2 : decide ((rs.size : Int) - 1 < (pmS.size : Int)) = false := decide_eq_false (by have : pmS.size = 2 := rfl; omega)
    go_wp2
    go_loopg [9, 10, 11, 12] 1 (fun g s9 _ _ _ wx => g = 1 ∧ s9 = .int .i64 ((rs.size : Int) - 1) ∧ wx = w)
    case atStart => exact ⟨rfl, by first | rfl | simp [e1], rfl⟩
    case round =>
      obtain ⟨rfl, rfl, rfl⟩ := hrel
      go_wp2
      rw [Exit.noGoto_ret]
      go_ret
      exact ⟨rfl, Below.refl _ _⟩
set_option maxHeartbeats 4000000 in
set_option maxRecDepth 1000000 in
theorem indexRune_err (w : World) :
    Calls Tryd.prog 88 #[.string pmS, .int .i32 65533] w fun e w' => e = .returned (.int .i64 (-1)) ∧ Below w.heap.size w w' := by
  go_enter Tryd.func88, Tryd.ntmps88
  go_wp2
  go_loopg [5, 6] 2 (fun g _ _ wx => ∃ i : Nat, i + g = 2 ∧ wx = w.iter pmS i)
  case atStart => exact ⟨0, by omega, rfl⟩
  case round =>
    obtain ⟨i, hig, rfl⟩ := hrel
    cases gk with
    | zero =>
      obtain rfl : i = 2 := by omega
      have hnx := fun ty => run_next_end (P := Tryd.prog) w pmS 2 ty (by decide)
      go_wp2
      go_ret
      exact ⟨rfl, (Below.refl _ _).alloc (Nat.le_refl _) _⟩
    | succ g =>
      have hc : i = 0 ∨ i = 1 := by omega
      rcases hc with rfl | rfl
      · have hnx : ∀ ty, (Instr.next (.pointer (some ⟨w.heap.size, 0, none⟩)) true ty).run Tryd.prog (w.iter pmS 0) = .ok (.tuple #[.bool true, .int .i64 (0 : Nat), .int .i32 (43 : Nat)]) (w.iter pmS 1) := fun ty => run_next_ascii (P := Tryd.prog) w pmS 0 ty (by decide) (by decide)
        go_wp2
        go_roundg g
        case measure => omega
        case rel => exact ⟨1, by omega, rfl⟩
      · have hnx : ∀ ty, (Instr.next (.pointer (some ⟨w.heap.size, 0, none⟩)) true ty).run Tryd.prog (w.iter pmS 1) = .ok (.tuple #[.bool true, .int .i64 (1 : Nat), .int .i32 (45 : Nat)]) (w.iter pmS 2) := fun ty => run_next_ascii (P := Tryd.prog) w pmS 1 ty (by decide) (by decide)
        go_wp2
        go_roundg g
        case measure => omega
        case rel => exact ⟨2, by omega, rfl⟩

/-- Is it one of the two signs? -/
def pmB (x : UInt8) : Bool := ([43, 45] : List UInt8).contains x
theorem pm_index (x : UInt8) : decide (0 ≤ Lib.indexByte [43, 45] x) = pmB x := by
  unfold pmB Lib.indexByte Lib.indexByte Lib.indexByte
  by_cases h1 : x = 43
  · subst h1; rfl
  · by_cases h2 : x = 45
    · subst h2; rfl
    · have e1 : ((43 : UInt8) == x) = false := beq_eq_false_iff_ne.2 (fun e => h1 e.symm)
      have e2 : ((45 : UInt8) == x) = false := beq_eq_false_iff_ne.2 (fun e => h2 e.symm)
      have e3 : (x == 43) = false := beq_eq_false_iff_ne.2 h1
      have e4 : (x == 45) = false := beq_eq_false_iff_ne.2 h2
      simp [e1, e2, h1, h2]

/-- IndexRune over the two signs, at whatever rune a decoder yields: is it one of them? -/
theorem indexRune_pm (r : Nat) (w : World) (h1 : r ≤ 1114111) :
    Calls Tryd.prog 88 #[.string pmS, .int .i32 (r : Int)] w fun e w' => (∃ k : Int, e = .returned (.int .i64 k) ∧ decide (0 ≤ k) = (decide (r < 128) && pmB (UInt8.ofNat r))) ∧ Below w.heap.size w w' := by
  by_cases h : r < 128
  · refine (Tryd.strings_IndexRune_ascii pmS (r : Int) w (by omega) (by omega)).mono ?_
    rintro e w' ⟨rfl, rfl⟩
    refine ⟨⟨_, rfl, ?_⟩, Below.refl _ _⟩
    rw [decide_eq_true h, Bool.true_and]
    exact pm_index _
  · have e0 : decide ((0 : Int) ≤ -1) = (decide (r < 128) && pmB (UInt8.ofNat r)) := by rw [decide_eq_false h]; rfl
    by_cases he : r = 65533
    · subst he
      refine (indexRune_err w).mono ?_
      rintro e w' ⟨rfl, hb⟩
      exact ⟨⟨_, rfl, e0⟩, hb⟩
    · refine (indexRune_far (r : Int) w (by omega) (by omega) (by omega)).mono ?_
      rintro e w' ⟨rfl, hb⟩
      exact ⟨⟨_, rfl, e0⟩, hb⟩

end Go.Proofs.YtcnkfnkdcjpkoaaDoorV
