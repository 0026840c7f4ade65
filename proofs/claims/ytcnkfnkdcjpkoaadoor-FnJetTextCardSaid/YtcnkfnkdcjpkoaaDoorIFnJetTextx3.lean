/- Plain functions and walks of the law FnJetText: each function answers as its plain function does. No condition beside. Printed by a changed copy of the print (wip/tools/inject.py). -/
import Derived.Test.YtcnkfnkdcjpkoaaDoorIFnJetTextx0
import Derived.Test.YtcnkfnkdcjpkoaaDoorIFnJetTextx2
namespace Go.Proofs.YtcnkfnkdcjpkoaaDoor.PFnJetText
open Go.RowKit Go.Proofs.YtcnkfnkdcjpkoaaDoorV Go.Proofs.YtcnkfnkdcjpkoaaDoorW.PrintWords Go.Proofs.YtcnkfnkdcjpkoaaDoorW.PrintLast Go.Proofs.YtcnkfnkdcjpkoaaDoorW.PrintMore
attribute [local go_sem] max2_int min2_int max_two min_two max_three min_three max_four min_four   -- for this text's walks alone
set_option linter.unusedVariables false
set_option linter.unusedSimpArgs false

theorem p1d : type_of% @List.setIfInBounds_toArray := @List.setIfInBounds_toArray
theorem p2d : type_of% @List.set_cons_zero := @List.set_cons_zero
theorem p3d : type_of% @List.set_cons_succ := @List.set_cons_succ
theorem q1d : type_of% @below_alloc := @below_alloc
theorem q2d : type_of% @pw_below_drewN := @pw_below_drewN
theorem q3d : type_of% @below_drew1 := @below_drew1
theorem q4d : type_of% @below_set := @below_set
theorem q5d : type_of% @blk_drewN := @blk_drewN
theorem q6d : type_of% @blk_drew := @blk_drew
theorem q7d : type_of% @blk_alloc := @blk_alloc
theorem q8d : type_of% @blk_below := @blk_below
theorem q9d : type_of% @below_step := @below_step
theorem qad : type_of% @below_size := @below_size
theorem qbd : type_of% @blk_frozen := @blk_frozen
theorem qcd : type_of% @blk_cell := @blk_cell
theorem qgd : type_of% @Aside0.mk := @Aside0.mk
theorem qhd : type_of% @box_event := @box_event
theorem qkd : type_of% @Kd.R_alloc := @Kd.R_alloc
theorem qld : type_of% @Kd.R_drewN := @Kd.R_drewN
theorem qmd : type_of% @Kd.R_drew := @Kd.R_drew
theorem qtd : type_of% @gate_callee := @gate_callee
theorem qud : type_of% @gate_dst := @gate_dst
/-! ### impl_FormatJet: function 34 -/
def impl_FormatJet.f (k : Nat) (a0_0 : Int) (a0_1 : Int) (a0_2 : Int) (a0_3 : Int) (a0_4 : Int) : Option (ByteArray) := (impl_IsJet.f a0_0 a0_1 a0_2 a0_3 a0_4).bind fun t124 => (if t124 = true then ((impl_FormatPlace.f k a0_0 a0_1).bind fun t125 => (if 3 + t125.size ≤ 9223372036854775807 then (if ((⟨#[97, 116, 32]⟩ : ByteArray) ++ t125).size + 9 ≤ 9223372036854775807 then ((impl_FormatNumber.f a0_2).bind fun t126 => (if (((⟨#[97, 116, 32]⟩ : ByteArray) ++ t125) ++ (⟨#[32, 104, 101, 97, 100, 105, 110, 103, 32]⟩ : ByteArray)).size + t126.size ≤ 9223372036854775807 then (if ((((⟨#[97, 116, 32]⟩ : ByteArray) ++ t125) ++ (⟨#[32, 104, 101, 97, 100, 105, 110, 103, 32]⟩ : ByteArray)) ++ t126).size + 6 ≤ 9223372036854775807 then ((impl_FormatMeasure.f k a0_3).bind fun t127 => (if (((((⟨#[97, 116, 32]⟩ : ByteArray) ++ t125) ++ (⟨#[32, 104, 101, 97, 100, 105, 110, 103, 32]⟩ : ByteArray)) ++ t126) ++ (⟨#[32, 116, 105, 108, 116, 32]⟩ : ByteArray)).size + t127.size ≤ 9223372036854775807 then (if ((((((⟨#[97, 116, 32]⟩ : ByteArray) ++ t125) ++ (⟨#[32, 104, 101, 97, 100, 105, 110, 103, 32]⟩ : ByteArray)) ++ t126) ++ (⟨#[32, 116, 105, 108, 116, 32]⟩ : ByteArray)) ++ t127).size + 6 ≤ 9223372036854775807 then ((impl_FormatMeasure.f k a0_4).bind fun t128 => (if (((((((⟨#[97, 116, 32]⟩ : ByteArray) ++ t125) ++ (⟨#[32, 104, 101, 97, 100, 105, 110, 103, 32]⟩ : ByteArray)) ++ t126) ++ (⟨#[32, 116, 105, 108, 116, 32]⟩ : ByteArray)) ++ t127) ++ (⟨#[32, 108, 105, 102, 116, 32]⟩ : ByteArray)).size + t128.size ≤ 9223372036854775807 then (some ((((((((⟨#[97, 116, 32]⟩ : ByteArray) ++ t125) ++ (⟨#[32, 104, 101, 97, 100, 105, 110, 103, 32]⟩ : ByteArray)) ++ t126) ++ (⟨#[32, 116, 105, 108, 116, 32]⟩ : ByteArray)) ++ t127) ++ (⟨#[32, 108, 105, 102, 116, 32]⟩ : ByteArray)) ++ t128)) else (none))) else (none)) else (none))) else (none)) else (none))) else (none)) else (none))) else (some (⟨#[]⟩ : ByteArray)))
theorem impl_FormatJet.mono : ∀ a0 a1 a2 a3 a4 k, LeO (impl_FormatJet.f k a0 a1 a2 a3 a4) (impl_FormatJet.f (k + 1) a0 a1 a2 a3 a4) := by
  intro a0 a1 a2 a3 a4 k
  unfold impl_FormatJet.f
  repeat' first
      | (with_reducible exact impl_FormatMeasure.mono _ _)
      | (with_reducible exact impl_FormatPlace.mono _ _ _)
      | (with_reducible exact LeO.refl _)
      | (with_reducible exact LeO.none _)
      | (with_reducible refine LeO.ite ?_ ?_)
      | (with_reducible refine LeO.bind ?_ (fun _ => ?_))
      | exact impl_FormatMeasure.mono _ _
      | exact impl_FormatPlace.mono _ _ _
      | exact LeO.none _
      | refine LeO.ite ?_ ?_
      | refine LeO.bind ?_ (fun _ => ?_)
def impl_FormatJet.T3 : Bool × List (List Nat × List Nat) := (true, [([], []), ([0], [0]), ([1], [1]), ([2], [2]), ([3], [3]), ([], []), ([5], [5]), ([6, 2], [6]), ([4, 7], [4, 7]), ([8], [8]), ([], []), ([10], [10]), ([11, 7], [11]), ([9, 12], [9, 12]), ([13], [13]), ([], []), ([15], [15]), ([16, 12], [16]), ([14, 17], [14, 17]), ([18, 17, 0, 1, 2, 3, 4, 5, 6, 7, 8, 9, 10, 11, 12, 13, 14, 15, 16, 17, 18], [18])])
def impl_FormatJet.B3 : List Nat := [0, 1, 3, 7, 15, 0, 32, 103, 255, 511, 0, 1024, 3303, 8191, 16383, 0, 32768, 105703, 262143, 524287]
theorem impl_FormatJet.tab3 : rtab .any (opsOf Tryd.f34 3) = impl_FormatJet.T3 := by kernel_rfl
theorem impl_FormatJet.bits3 : waitsOk impl_FormatJet.T3.2 impl_FormatJet.B3 = true := by kernel_rfl
set_option maxHeartbeats 8000000 in
set_option maxRecDepth 100000 in
theorem impl_FormatJet.calls (k : Nat) (a0_0 : Int) (a0_1 : Int) (a0_2 : Int) (a0_3 : Int) (a0_4 : Int) (r : ByteArray) (w : World) (h : impl_FormatJet.f k a0_0 a0_1 a0_2 a0_3 a0_4 = some r) (ht : Tabs w) :
 Calls Tryd.prog 34 #[.agg #[.int .i64 a0_0, .int .i64 a0_1, .int .i64 a0_2, .int .i64 a0_3, .int .i64 a0_4]] w fun e w' => e = .returned (.string r) ∧ Below w.heap.size w w' := by
 have HT := qgd ht
 clear ht
 have hu45 := Tryd.underlying45
 have hu35 := Tryd.underlying35
 have HB := qgd (Below.refl w.heap.size w)
 have H : ((impl_IsJet.f a0_0 a0_1 a0_2 a0_3 a0_4).bind fun t124 => (if t124 = true then ((impl_FormatPlace.f k a0_0 a0_1).bind fun t125 => (if 3 + t125.size ≤ 9223372036854775807 then (if ((⟨#[97, 116, 32]⟩ : ByteArray) ++ t125).size + 9 ≤ 9223372036854775807 then ((impl_FormatNumber.f a0_2).bind fun t126 => (if (((⟨#[97, 116, 32]⟩ : ByteArray) ++ t125) ++ (⟨#[32, 104, 101, 97, 100, 105, 110, 103, 32]⟩ : ByteArray)).size + t126.size ≤ 9223372036854775807 then (if ((((⟨#[97, 116, 32]⟩ : ByteArray) ++ t125) ++ (⟨#[32, 104, 101, 97, 100, 105, 110, 103, 32]⟩ : ByteArray)) ++ t126).size + 6 ≤ 9223372036854775807 then ((impl_FormatMeasure.f k a0_3).bind fun t127 => (if (((((⟨#[97, 116, 32]⟩ : ByteArray) ++ t125) ++ (⟨#[32, 104, 101, 97, 100, 105, 110, 103, 32]⟩ : ByteArray)) ++ t126) ++ (⟨#[32, 116, 105, 108, 116, 32]⟩ : ByteArray)).size + t127.size ≤ 9223372036854775807 then (if ((((((⟨#[97, 116, 32]⟩ : ByteArray) ++ t125) ++ (⟨#[32, 104, 101, 97, 100, 105, 110, 103, 32]⟩ : ByteArray)) ++ t126) ++ (⟨#[32, 116, 105, 108, 116, 32]⟩ : ByteArray)) ++ t127).size + 6 ≤ 9223372036854775807 then ((impl_FormatMeasure.f k a0_4).bind fun t128 => (if (((((((⟨#[97, 116, 32]⟩ : ByteArray) ++ t125) ++ (⟨#[32, 104, 101, 97, 100, 105, 110, 103, 32]⟩ : ByteArray)) ++ t126) ++ (⟨#[32, 116, 105, 108, 116, 32]⟩ : ByteArray)) ++ t127) ++ (⟨#[32, 108, 105, 102, 116, 32]⟩ : ByteArray)).size + t128.size ≤ 9223372036854775807 then (some ((((((((⟨#[97, 116, 32]⟩ : ByteArray) ++ t125) ++ (⟨#[32, 104, 101, 97, 100, 105, 110, 103, 32]⟩ : ByteArray)) ++ t126) ++ (⟨#[32, 116, 105, 108, 116, 32]⟩ : ByteArray)) ++ t127) ++ (⟨#[32, 108, 105, 102, 116, 32]⟩ : ByteArray)) ++ t128)) else (none))) else (none)) else (none))) else (none)) else (none))) else (none)) else (none))) else (some (⟨#[]⟩ : ByteArray)))) = some r := h
 clear h
 replace H := Option.bind_eq_some_iff.mp H
 obtain ⟨t124, A20, H⟩ := H
 replace H : (if t124 = true then ((impl_FormatPlace.f k a0_0 a0_1).bind fun t125 => (if 3 + t125.size ≤ 9223372036854775807 then (if ((⟨#[97, 116, 32]⟩ : ByteArray) ++ t125).size + 9 ≤ 9223372036854775807 then ((impl_FormatNumber.f a0_2).bind fun t126 => (if (((⟨#[97, 116, 32]⟩ : ByteArray) ++ t125) ++ (⟨#[32, 104, 101, 97, 100, 105, 110, 103, 32]⟩ : ByteArray)).size + t126.size ≤ 9223372036854775807 then (if ((((⟨#[97, 116, 32]⟩ : ByteArray) ++ t125) ++ (⟨#[32, 104, 101, 97, 100, 105, 110, 103, 32]⟩ : ByteArray)) ++ t126).size + 6 ≤ 9223372036854775807 then ((impl_FormatMeasure.f k a0_3).bind fun t127 => (if (((((⟨#[97, 116, 32]⟩ : ByteArray) ++ t125) ++ (⟨#[32, 104, 101, 97, 100, 105, 110, 103, 32]⟩ : ByteArray)) ++ t126) ++ (⟨#[32, 116, 105, 108, 116, 32]⟩ : ByteArray)).size + t127.size ≤ 9223372036854775807 then (if ((((((⟨#[97, 116, 32]⟩ : ByteArray) ++ t125) ++ (⟨#[32, 104, 101, 97, 100, 105, 110, 103, 32]⟩ : ByteArray)) ++ t126) ++ (⟨#[32, 116, 105, 108, 116, 32]⟩ : ByteArray)) ++ t127).size + 6 ≤ 9223372036854775807 then ((impl_FormatMeasure.f k a0_4).bind fun t128 => (if (((((((⟨#[97, 116, 32]⟩ : ByteArray) ++ t125) ++ (⟨#[32, 104, 101, 97, 100, 105, 110, 103, 32]⟩ : ByteArray)) ++ t126) ++ (⟨#[32, 116, 105, 108, 116, 32]⟩ : ByteArray)) ++ t127) ++ (⟨#[32, 108, 105, 102, 116, 32]⟩ : ByteArray)).size + t128.size ≤ 9223372036854775807 then (some ((((((((⟨#[97, 116, 32]⟩ : ByteArray) ++ t125) ++ (⟨#[32, 104, 101, 97, 100, 105, 110, 103, 32]⟩ : ByteArray)) ++ t126) ++ (⟨#[32, 116, 105, 108, 116, 32]⟩ : ByteArray)) ++ t127) ++ (⟨#[32, 108, 105, 102, 116, 32]⟩ : ByteArray)) ++ t128)) else (none))) else (none)) else (none))) else (none)) else (none))) else (none)) else (none))) else (some (⟨#[]⟩ : ByteArray))) = some r := H
 have A2 := qgd A20
 clear A20
 by_cases c3 : t124 = true
 ·subst c3
  have H1 : ((impl_FormatPlace.f k a0_0 a0_1).bind fun t125 => (if 3 + t125.size ≤ 9223372036854775807 then (if ((⟨#[97, 116, 32]⟩ : ByteArray) ++ t125).size + 9 ≤ 9223372036854775807 then ((impl_FormatNumber.f a0_2).bind fun t126 => (if (((⟨#[97, 116, 32]⟩ : ByteArray) ++ t125) ++ (⟨#[32, 104, 101, 97, 100, 105, 110, 103, 32]⟩ : ByteArray)).size + t126.size ≤ 9223372036854775807 then (if ((((⟨#[97, 116, 32]⟩ : ByteArray) ++ t125) ++ (⟨#[32, 104, 101, 97, 100, 105, 110, 103, 32]⟩ : ByteArray)) ++ t126).size + 6 ≤ 9223372036854775807 then ((impl_FormatMeasure.f k a0_3).bind fun t127 => (if (((((⟨#[97, 116, 32]⟩ : ByteArray) ++ t125) ++ (⟨#[32, 104, 101, 97, 100, 105, 110, 103, 32]⟩ : ByteArray)) ++ t126) ++ (⟨#[32, 116, 105, 108, 116, 32]⟩ : ByteArray)).size + t127.size ≤ 9223372036854775807 then (if ((((((⟨#[97, 116, 32]⟩ : ByteArray) ++ t125) ++ (⟨#[32, 104, 101, 97, 100, 105, 110, 103, 32]⟩ : ByteArray)) ++ t126) ++ (⟨#[32, 116, 105, 108, 116, 32]⟩ : ByteArray)) ++ t127).size + 6 ≤ 9223372036854775807 then ((impl_FormatMeasure.f k a0_4).bind fun t128 => (if (((((((⟨#[97, 116, 32]⟩ : ByteArray) ++ t125) ++ (⟨#[32, 104, 101, 97, 100, 105, 110, 103, 32]⟩ : ByteArray)) ++ t126) ++ (⟨#[32, 116, 105, 108, 116, 32]⟩ : ByteArray)) ++ t127) ++ (⟨#[32, 108, 105, 102, 116, 32]⟩ : ByteArray)).size + t128.size ≤ 9223372036854775807 then (some ((((((((⟨#[97, 116, 32]⟩ : ByteArray) ++ t125) ++ (⟨#[32, 104, 101, 97, 100, 105, 110, 103, 32]⟩ : ByteArray)) ++ t126) ++ (⟨#[32, 116, 105, 108, 116, 32]⟩ : ByteArray)) ++ t127) ++ (⟨#[32, 108, 105, 102, 116, 32]⟩ : ByteArray)) ++ t128)) else (none))) else (none)) else (none))) else (none)) else (none))) else (none)) else (none))) = some r := by rw [if_pos rfl] at H; exact H
  clear H
  have H := H1
  clear H1
  replace H := Option.bind_eq_some_iff.mp H
  obtain ⟨t125, A40, H⟩ := H
  replace H : (if 3 + t125.size ≤ 9223372036854775807 then (if ((⟨#[97, 116, 32]⟩ : ByteArray) ++ t125).size + 9 ≤ 9223372036854775807 then ((impl_FormatNumber.f a0_2).bind fun t126 => (if (((⟨#[97, 116, 32]⟩ : ByteArray) ++ t125) ++ (⟨#[32, 104, 101, 97, 100, 105, 110, 103, 32]⟩ : ByteArray)).size + t126.size ≤ 9223372036854775807 then (if ((((⟨#[97, 116, 32]⟩ : ByteArray) ++ t125) ++ (⟨#[32, 104, 101, 97, 100, 105, 110, 103, 32]⟩ : ByteArray)) ++ t126).size + 6 ≤ 9223372036854775807 then ((impl_FormatMeasure.f k a0_3).bind fun t127 => (if (((((⟨#[97, 116, 32]⟩ : ByteArray) ++ t125) ++ (⟨#[32, 104, 101, 97, 100, 105, 110, 103, 32]⟩ : ByteArray)) ++ t126) ++ (⟨#[32, 116, 105, 108, 116, 32]⟩ : ByteArray)).size + t127.size ≤ 9223372036854775807 then (if ((((((⟨#[97, 116, 32]⟩ : ByteArray) ++ t125) ++ (⟨#[32, 104, 101, 97, 100, 105, 110, 103, 32]⟩ : ByteArray)) ++ t126) ++ (⟨#[32, 116, 105, 108, 116, 32]⟩ : ByteArray)) ++ t127).size + 6 ≤ 9223372036854775807 then ((impl_FormatMeasure.f k a0_4).bind fun t128 => (if (((((((⟨#[97, 116, 32]⟩ : ByteArray) ++ t125) ++ (⟨#[32, 104, 101, 97, 100, 105, 110, 103, 32]⟩ : ByteArray)) ++ t126) ++ (⟨#[32, 116, 105, 108, 116, 32]⟩ : ByteArray)) ++ t127) ++ (⟨#[32, 108, 105, 102, 116, 32]⟩ : ByteArray)).size + t128.size ≤ 9223372036854775807 then (some ((((((((⟨#[97, 116, 32]⟩ : ByteArray) ++ t125) ++ (⟨#[32, 104, 101, 97, 100, 105, 110, 103, 32]⟩ : ByteArray)) ++ t126) ++ (⟨#[32, 116, 105, 108, 116, 32]⟩ : ByteArray)) ++ t127) ++ (⟨#[32, 108, 105, 102, 116, 32]⟩ : ByteArray)) ++ t128)) else (none))) else (none)) else (none))) else (none)) else (none))) else (none)) else (none)) = some r := H
  have A4 := qgd A40
  clear A40
  by_cases c5 : 3 + t125.size ≤ 9223372036854775807
  ·rw [if_pos c5] at H
   have c5b0 := eq_true c5
   have c5b1 : decide (3 + t125.size ≤ 9223372036854775807) = true := decide_eq_true c5
   try have c5b2 : (9223372036854775807 < 3 + t125.size) = False := eq_false (Nat.not_lt.2 c5)
   by_cases c6 : ((⟨#[97, 116, 32]⟩ : ByteArray) ++ t125).size + 9 ≤ 9223372036854775807
   ·rw [if_pos c6] at H
    have c6b0 := eq_true c6
    have c6b1 : decide (((⟨#[97, 116, 32]⟩ : ByteArray) ++ t125).size + 9 ≤ 9223372036854775807) = true := decide_eq_true c6
    try have c6b2 : (9223372036854775807 < ((⟨#[97, 116, 32]⟩ : ByteArray) ++ t125).size + 9) = False := eq_false (Nat.not_lt.2 c6)
    have zz_c6 : 3 + t125.size + 9 ≤ 9223372036854775807 := by have h_ := c6; (try simp only [ByteArray.size_append] at h_); first | exact h_ | (have e0_ : (⟨#[]⟩ : ByteArray).size = 0 := rfl; omega)
    have zt_c6 := eq_true zz_c6
    have zf_c6 : (9223372036854775807 < 3 + t125.size + 9) = False := eq_false (Nat.not_lt.2 zz_c6)
    replace H := Option.bind_eq_some_iff.mp H
    obtain ⟨t126, A70, H⟩ := H
    replace H : (if (((⟨#[97, 116, 32]⟩ : ByteArray) ++ t125) ++ (⟨#[32, 104, 101, 97, 100, 105, 110, 103, 32]⟩ : ByteArray)).size + t126.size ≤ 9223372036854775807 then (if ((((⟨#[97, 116, 32]⟩ : ByteArray) ++ t125) ++ (⟨#[32, 104, 101, 97, 100, 105, 110, 103, 32]⟩ : ByteArray)) ++ t126).size + 6 ≤ 9223372036854775807 then ((impl_FormatMeasure.f k a0_3).bind fun t127 => (if (((((⟨#[97, 116, 32]⟩ : ByteArray) ++ t125) ++ (⟨#[32, 104, 101, 97, 100, 105, 110, 103, 32]⟩ : ByteArray)) ++ t126) ++ (⟨#[32, 116, 105, 108, 116, 32]⟩ : ByteArray)).size + t127.size ≤ 9223372036854775807 then (if ((((((⟨#[97, 116, 32]⟩ : ByteArray) ++ t125) ++ (⟨#[32, 104, 101, 97, 100, 105, 110, 103, 32]⟩ : ByteArray)) ++ t126) ++ (⟨#[32, 116, 105, 108, 116, 32]⟩ : ByteArray)) ++ t127).size + 6 ≤ 9223372036854775807 then ((impl_FormatMeasure.f k a0_4).bind fun t128 => (if (((((((⟨#[97, 116, 32]⟩ : ByteArray) ++ t125) ++ (⟨#[32, 104, 101, 97, 100, 105, 110, 103, 32]⟩ : ByteArray)) ++ t126) ++ (⟨#[32, 116, 105, 108, 116, 32]⟩ : ByteArray)) ++ t127) ++ (⟨#[32, 108, 105, 102, 116, 32]⟩ : ByteArray)).size + t128.size ≤ 9223372036854775807 then (some ((((((((⟨#[97, 116, 32]⟩ : ByteArray) ++ t125) ++ (⟨#[32, 104, 101, 97, 100, 105, 110, 103, 32]⟩ : ByteArray)) ++ t126) ++ (⟨#[32, 116, 105, 108, 116, 32]⟩ : ByteArray)) ++ t127) ++ (⟨#[32, 108, 105, 102, 116, 32]⟩ : ByteArray)) ++ t128)) else (none))) else (none)) else (none))) else (none)) else (none)) = some r := H
    have A7 := qgd A70
    clear A70
    by_cases c8 : (((⟨#[97, 116, 32]⟩ : ByteArray) ++ t125) ++ (⟨#[32, 104, 101, 97, 100, 105, 110, 103, 32]⟩ : ByteArray)).size + t126.size ≤ 9223372036854775807
    ·rw [if_pos c8] at H
     have c8b0 := eq_true c8
     have c8b1 : decide ((((⟨#[97, 116, 32]⟩ : ByteArray) ++ t125) ++ (⟨#[32, 104, 101, 97, 100, 105, 110, 103, 32]⟩ : ByteArray)).size + t126.size ≤ 9223372036854775807) = true := decide_eq_true c8
     try have c8b2 : (9223372036854775807 < (((⟨#[97, 116, 32]⟩ : ByteArray) ++ t125) ++ (⟨#[32, 104, 101, 97, 100, 105, 110, 103, 32]⟩ : ByteArray)).size + t126.size) = False := eq_false (Nat.not_lt.2 c8)
     have zz_c8 : 3 + t125.size + 9 + t126.size ≤ 9223372036854775807 := by have h_ := c8; (try simp only [ByteArray.size_append] at h_); first | exact h_ | (have e0_ : (⟨#[]⟩ : ByteArray).size = 0 := rfl; omega)
     have zt_c8 := eq_true zz_c8
     have zf_c8 : (9223372036854775807 < 3 + t125.size + 9 + t126.size) = False := eq_false (Nat.not_lt.2 zz_c8)
     by_cases c9 : ((((⟨#[97, 116, 32]⟩ : ByteArray) ++ t125) ++ (⟨#[32, 104, 101, 97, 100, 105, 110, 103, 32]⟩ : ByteArray)) ++ t126).size + 6 ≤ 9223372036854775807
     ·rw [if_pos c9] at H
      have c9b0 := eq_true c9
      have c9b1 : decide (((((⟨#[97, 116, 32]⟩ : ByteArray) ++ t125) ++ (⟨#[32, 104, 101, 97, 100, 105, 110, 103, 32]⟩ : ByteArray)) ++ t126).size + 6 ≤ 9223372036854775807) = true := decide_eq_true c9
      try have c9b2 : (9223372036854775807 < ((((⟨#[97, 116, 32]⟩ : ByteArray) ++ t125) ++ (⟨#[32, 104, 101, 97, 100, 105, 110, 103, 32]⟩ : ByteArray)) ++ t126).size + 6) = False := eq_false (Nat.not_lt.2 c9)
      have zz_c9 : 3 + t125.size + 9 + t126.size + 6 ≤ 9223372036854775807 := by have h_ := c9; (try simp only [ByteArray.size_append] at h_); first | exact h_ | (have e0_ : (⟨#[]⟩ : ByteArray).size = 0 := rfl; omega)
      have zt_c9 := eq_true zz_c9
      have zf_c9 : (9223372036854775807 < 3 + t125.size + 9 + t126.size + 6) = False := eq_false (Nat.not_lt.2 zz_c9)
      replace H := Option.bind_eq_some_iff.mp H
      obtain ⟨t127, A100, H⟩ := H
      replace H : (if (((((⟨#[97, 116, 32]⟩ : ByteArray) ++ t125) ++ (⟨#[32, 104, 101, 97, 100, 105, 110, 103, 32]⟩ : ByteArray)) ++ t126) ++ (⟨#[32, 116, 105, 108, 116, 32]⟩ : ByteArray)).size + t127.size ≤ 9223372036854775807 then (if ((((((⟨#[97, 116, 32]⟩ : ByteArray) ++ t125) ++ (⟨#[32, 104, 101, 97, 100, 105, 110, 103, 32]⟩ : ByteArray)) ++ t126) ++ (⟨#[32, 116, 105, 108, 116, 32]⟩ : ByteArray)) ++ t127).size + 6 ≤ 9223372036854775807 then ((impl_FormatMeasure.f k a0_4).bind fun t128 => (if (((((((⟨#[97, 116, 32]⟩ : ByteArray) ++ t125) ++ (⟨#[32, 104, 101, 97, 100, 105, 110, 103, 32]⟩ : ByteArray)) ++ t126) ++ (⟨#[32, 116, 105, 108, 116, 32]⟩ : ByteArray)) ++ t127) ++ (⟨#[32, 108, 105, 102, 116, 32]⟩ : ByteArray)).size + t128.size ≤ 9223372036854775807 then (some ((((((((⟨#[97, 116, 32]⟩ : ByteArray) ++ t125) ++ (⟨#[32, 104, 101, 97, 100, 105, 110, 103, 32]⟩ : ByteArray)) ++ t126) ++ (⟨#[32, 116, 105, 108, 116, 32]⟩ : ByteArray)) ++ t127) ++ (⟨#[32, 108, 105, 102, 116, 32]⟩ : ByteArray)) ++ t128)) else (none))) else (none)) else (none)) = some r := H
      have A10 := qgd A100
      clear A100
      by_cases c11 : (((((⟨#[97, 116, 32]⟩ : ByteArray) ++ t125) ++ (⟨#[32, 104, 101, 97, 100, 105, 110, 103, 32]⟩ : ByteArray)) ++ t126) ++ (⟨#[32, 116, 105, 108, 116, 32]⟩ : ByteArray)).size + t127.size ≤ 9223372036854775807
      ·rw [if_pos c11] at H
       have c11b0 := eq_true c11
       have c11b1 : decide ((((((⟨#[97, 116, 32]⟩ : ByteArray) ++ t125) ++ (⟨#[32, 104, 101, 97, 100, 105, 110, 103, 32]⟩ : ByteArray)) ++ t126) ++ (⟨#[32, 116, 105, 108, 116, 32]⟩ : ByteArray)).size + t127.size ≤ 9223372036854775807) = true := decide_eq_true c11
       try have c11b2 : (9223372036854775807 < (((((⟨#[97, 116, 32]⟩ : ByteArray) ++ t125) ++ (⟨#[32, 104, 101, 97, 100, 105, 110, 103, 32]⟩ : ByteArray)) ++ t126) ++ (⟨#[32, 116, 105, 108, 116, 32]⟩ : ByteArray)).size + t127.size) = False := eq_false (Nat.not_lt.2 c11)
       have zz_c11 : 3 + t125.size + 9 + t126.size + 6 + t127.size ≤ 9223372036854775807 := by have h_ := c11; (try simp only [ByteArray.size_append] at h_); first | exact h_ | (have e0_ : (⟨#[]⟩ : ByteArray).size = 0 := rfl; omega)
       have zt_c11 := eq_true zz_c11
       have zf_c11 : (9223372036854775807 < 3 + t125.size + 9 + t126.size + 6 + t127.size) = False := eq_false (Nat.not_lt.2 zz_c11)
       by_cases c12 : ((((((⟨#[97, 116, 32]⟩ : ByteArray) ++ t125) ++ (⟨#[32, 104, 101, 97, 100, 105, 110, 103, 32]⟩ : ByteArray)) ++ t126) ++ (⟨#[32, 116, 105, 108, 116, 32]⟩ : ByteArray)) ++ t127).size + 6 ≤ 9223372036854775807
       ·rw [if_pos c12] at H
        have c12b0 := eq_true c12
        have c12b1 : decide (((((((⟨#[97, 116, 32]⟩ : ByteArray) ++ t125) ++ (⟨#[32, 104, 101, 97, 100, 105, 110, 103, 32]⟩ : ByteArray)) ++ t126) ++ (⟨#[32, 116, 105, 108, 116, 32]⟩ : ByteArray)) ++ t127).size + 6 ≤ 9223372036854775807) = true := decide_eq_true c12
        try have c12b2 : (9223372036854775807 < ((((((⟨#[97, 116, 32]⟩ : ByteArray) ++ t125) ++ (⟨#[32, 104, 101, 97, 100, 105, 110, 103, 32]⟩ : ByteArray)) ++ t126) ++ (⟨#[32, 116, 105, 108, 116, 32]⟩ : ByteArray)) ++ t127).size + 6) = False := eq_false (Nat.not_lt.2 c12)
        have zz_c12 : 3 + t125.size + 9 + t126.size + 6 + t127.size + 6 ≤ 9223372036854775807 := by have h_ := c12; (try simp only [ByteArray.size_append] at h_); first | exact h_ | (have e0_ : (⟨#[]⟩ : ByteArray).size = 0 := rfl; omega)
        have zt_c12 := eq_true zz_c12
        have zf_c12 : (9223372036854775807 < 3 + t125.size + 9 + t126.size + 6 + t127.size + 6) = False := eq_false (Nat.not_lt.2 zz_c12)
        replace H := Option.bind_eq_some_iff.mp H
        obtain ⟨t128, A130, H⟩ := H
        replace H : (if (((((((⟨#[97, 116, 32]⟩ : ByteArray) ++ t125) ++ (⟨#[32, 104, 101, 97, 100, 105, 110, 103, 32]⟩ : ByteArray)) ++ t126) ++ (⟨#[32, 116, 105, 108, 116, 32]⟩ : ByteArray)) ++ t127) ++ (⟨#[32, 108, 105, 102, 116, 32]⟩ : ByteArray)).size + t128.size ≤ 9223372036854775807 then (some ((((((((⟨#[97, 116, 32]⟩ : ByteArray) ++ t125) ++ (⟨#[32, 104, 101, 97, 100, 105, 110, 103, 32]⟩ : ByteArray)) ++ t126) ++ (⟨#[32, 116, 105, 108, 116, 32]⟩ : ByteArray)) ++ t127) ++ (⟨#[32, 108, 105, 102, 116, 32]⟩ : ByteArray)) ++ t128)) else (none)) = some r := H
        have A13 := qgd A130
        clear A130
        by_cases c14 : (((((((⟨#[97, 116, 32]⟩ : ByteArray) ++ t125) ++ (⟨#[32, 104, 101, 97, 100, 105, 110, 103, 32]⟩ : ByteArray)) ++ t126) ++ (⟨#[32, 116, 105, 108, 116, 32]⟩ : ByteArray)) ++ t127) ++ (⟨#[32, 108, 105, 102, 116, 32]⟩ : ByteArray)).size + t128.size ≤ 9223372036854775807
        ·rw [if_pos c14] at H
         have c14b0 := eq_true c14
         have c14b1 : decide ((((((((⟨#[97, 116, 32]⟩ : ByteArray) ++ t125) ++ (⟨#[32, 104, 101, 97, 100, 105, 110, 103, 32]⟩ : ByteArray)) ++ t126) ++ (⟨#[32, 116, 105, 108, 116, 32]⟩ : ByteArray)) ++ t127) ++ (⟨#[32, 108, 105, 102, 116, 32]⟩ : ByteArray)).size + t128.size ≤ 9223372036854775807) = true := decide_eq_true c14
         try have c14b2 : (9223372036854775807 < (((((((⟨#[97, 116, 32]⟩ : ByteArray) ++ t125) ++ (⟨#[32, 104, 101, 97, 100, 105, 110, 103, 32]⟩ : ByteArray)) ++ t126) ++ (⟨#[32, 116, 105, 108, 116, 32]⟩ : ByteArray)) ++ t127) ++ (⟨#[32, 108, 105, 102, 116, 32]⟩ : ByteArray)).size + t128.size) = False := eq_false (Nat.not_lt.2 c14)
         have zz_c14 : 3 + t125.size + 9 + t126.size + 6 + t127.size + 6 + t128.size ≤ 9223372036854775807 := by have h_ := c14; (try simp only [ByteArray.size_append] at h_); first | exact h_ | (have e0_ : (⟨#[]⟩ : ByteArray).size = 0 := rfl; omega)
         have zt_c14 := eq_true zz_c14
         have zf_c14 : (9223372036854775807 < 3 + t125.size + 9 + t126.size + 6 + t127.size + 6 + t128.size) = False := eq_false (Nat.not_lt.2 zz_c14)
         obtain rfl := Option.some.inj H
         go_enter Tryd.func34, Tryd.ntmps34
         try go_wp2_with (first | ((with_reducible refine qud (N := 1) rfl ?_); refine qhd ?hg (N := 1) ?hd (cs := #[.int .i64 a0_0, .int .i64 a0_1, .int .i64 a0_2, .int .i64 a0_3, .int .i64 a0_4]) (t := 45) ?hr ?_; (case hd => rfl); (case hg => rfl); (case hr => first | (go_simp; done) | (go_simp; rfl)); intro gb123 hg w15 hbox hb; have n0_ := qgd (q9d (by repeat (first | (with_reducible first | exact HB.out | apply q1d | apply q2d | apply q3d) | exact HB.out)) hb); have n1_ := qgd (hbox); have n2_ := qgd ((by rw [hg]; exact (qad (by repeat (first | (with_reducible first | exact HB.out | apply q1d | apply q2d | apply q3d) | exact HB.out))) : w.heap.size ≤ gb123)); have n3_ := qgd ((by rw [hg]; exact (qad (by repeat (first | (with_reducible first | exact HB.out | apply q1d | apply q2d | apply q3d) | exact HB.out))) : w.heap.size ≤ gb123)); clear HB; have HB := n0_; have BK123 := n1_; have GW123 := n2_; have GE123 := n3_; clear n0_ n1_ n2_ n3_; clear hb hbox hg; have hcz16_0 : w15.cell? ⟨gb123, 0, none⟩ = some (.int .i64 a0_0) := (qcd BK123.out 0).trans rfl; have hcz16_1 : w15.cell? ⟨gb123, 1, none⟩ = some (.int .i64 a0_1) := (qcd BK123.out 1).trans rfl; have hcz16_2 : w15.cell? ⟨gb123, 2, none⟩ = some (.int .i64 a0_2) := (qcd BK123.out 2).trans rfl; have hcz16_3 : w15.cell? ⟨gb123, 3, none⟩ = some (.int .i64 a0_3) := (qcd BK123.out 3).trans rfl; have hcz16_4 : w15.cell? ⟨gb123, 4, none⟩ = some (.int .i64 a0_4) := (qcd BK123.out 4).trans rfl; have hfz16_0 := qbd BK123.out 0; have hfz16_1 := qbd BK123.out 1; have hfz16_2 := qbd BK123.out 2; have hfz16_3 := qbd BK123.out 3; have hfz16_4 := qbd BK123.out 4) | ((with_reducible refine qtd (f := 53) rfl ?_); refine goesL_ (some 4) rfl rfl Tryd.func53 (by kernel_rfl) rfl #[.agg #[.int .i64 a0_0, .int .i64 a0_1, .int .i64 a0_2, .int .i64 a0_3, .int .i64 a0_4]] rfl (by (try simp only [List.map_toArray, List.map_cons, List.map_nil]); first | done | rfl | (simp only [List.length_drop, List.length_take]; rfl)) ?_; (with_reducible refine (impl_IsJet.calls a0_0 a0_1 a0_2 a0_3 a0_4 true _ A2.out).mono ?_); rintro e w17 ⟨rfl, hb⟩; refine ⟨_, rfl, ?_⟩; have n0_ := qgd (q8d (g := gb123) (o := .cells #[.int .i64 a0_0, .int .i64 a0_1, .int .i64 a0_2, .int .i64 a0_3, .int .i64 a0_4] 45 (0, 0)) (by (with_reducible repeat (first | refine q5d ?_ _ | refine q6d ?_ | refine q7d ?_ _)); exact BK123.out) hb); have n1_ := qgd (q9d (by repeat (first | (with_reducible first | exact HB.out | apply q1d | apply q2d | apply q3d | refine q4d ?_ GE123.out) | exact HB.out)) hb); clear BK123; clear HB; have BK123 := n0_; have HB := n1_; clear n0_ n1_; (try clear hb); (try clear hb2); (try clear hk); (try clear hi)))
         have n0_ := qgd (q6d BK123.out)
         have n1_ := qgd (q3d HB.out)
         clear BK123
         clear HB
         have BK123 := n0_
         have HB := n1_
         clear n0_ n1_
         refine start_ (n := 20) (S := fun w' => w'.cell? ⟨gb123, 0, none⟩ = some (.int .i64 a0_0) ∧ w'.cell? ⟨gb123, 1, none⟩ = some (.int .i64 a0_1) ∧ w'.cell? ⟨gb123, 2, none⟩ = some (.int .i64 a0_2) ∧ w'.cell? ⟨gb123, 3, none⟩ = some (.int .i64 a0_3) ∧ w'.cell? ⟨gb123, 4, none⟩ = some (.int .i64 a0_4)) (ds := []) #[false, false, false, false, false, false, false, false, false, false, false, false, false, false, false, false, false, false, false, false] (by kernel_rfl) rfl rfl ⟨(qcd BK123.out 0).trans rfl, (qcd BK123.out 1).trans rfl, (qcd BK123.out 2).trans rfl, (qcd BK123.out 3).trans rfl, (qcd BK123.out 4).trans rfl⟩ (fun hHeld => ?_); refine with_tabW impl_FormatJet.tab3 impl_FormatJet.bits3 (fun HT_ HW_ => ?_)
         generalize w17.drew = w18 at BK123 HB hHeld ⊢
         refine pure_ (i := 0) (N := some 6) (v := ?_) (a' := ?_) #[true, false, false, false, false, false, false, false, false, false, false, false, false, false, false, false, false, false, false, false] rfl rfl (any_of HT_.out (by kernel_rfl)) (fun _ _ _ h => h) (Or.inl ⟨by rfl, ?_⟩) ?_ ?_
         rotate_left
         ·intro w'
          go_simp
          with_reducible rfl
         rotate_left
         ·simp only [Act.put, p1d, p2d, p3d, i64_w, i32_w]
          rfl
         refine pure_ (i := 5) (N := some 11) (v := ?_) (a' := ?_) #[true, false, false, false, false, true, false, false, false, false, false, false, false, false, false, false, false, false, false, false] rfl rfl (any_of HT_.out (by kernel_rfl)) (fun _ _ _ h => h) (Or.inl ⟨by rfl, ?_⟩) ?_ ?_
         rotate_left
         ·intro w'
          go_simp
          with_reducible rfl
         rotate_left
         ·simp only [Act.put, p1d, p2d, p3d, i64_w, i32_w]
          rfl
         refine pure_ (i := 10) (N := some 16) (v := ?_) (a' := ?_) #[true, false, false, false, false, true, false, false, false, false, true, false, false, false, false, false, false, false, false, false] rfl rfl (any_of HT_.out (by kernel_rfl)) (fun _ _ _ h => h) (Or.inl ⟨by rfl, ?_⟩) ?_ ?_
         rotate_left
         ·intro w'
          go_simp
          with_reducible rfl
         rotate_left
         ·simp only [Act.put, p1d, p2d, p3d, i64_w, i32_w]
          rfl
         refine pure_ (i := 15) (N := some 21) (v := ?_) (a' := ?_) #[true, false, false, false, false, true, false, false, false, false, true, false, false, false, false, true, false, false, false, false] rfl rfl (any_of HT_.out (by kernel_rfl)) (fun _ _ _ h => h) (Or.inl ⟨by rfl, ?_⟩) ?_ ?_
         rotate_left
         ·intro w'
          go_simp
          with_reducible rfl
         rotate_left
         ·simp only [Act.put, p1d, p2d, p3d, i64_w, i32_w]
          rfl
         refine take_ (i := 1) (N := some 7) (v := ?_) (a' := ?_) #[true, true, false, false, false, true, false, false, false, false, true, false, false, false, false, true, false, false, false, false] rfl rfl (take_ofW HT_.out HW_.out (by kernel_rfl)) (fun _ _ _ h => h) (Or.inl ⟨by rfl, ?_⟩) hHeld ?_ ?_
         rotate_left
         ·rintro w' ⟨s0, s1, s2, s3, s4⟩
          go_simp
          with_reducible rfl
         rotate_left
         ·simp only [Act.put, p1d, p2d, p3d, i64_w, i32_w]
          rfl
         refine take_ (i := 6) (N := some 12) (v := ?_) (a' := ?_) #[true, true, false, false, false, true, true, false, false, false, true, false, false, false, false, true, false, false, false, false] rfl rfl (take_ofW HT_.out HW_.out (by kernel_rfl)) (fun _ _ _ h => h) (Or.inl ⟨by rfl, ?_⟩) hHeld ?_ ?_
         rotate_left
         ·rintro w' ⟨s0, s1, s2, s3, s4⟩
          go_simp
          with_reducible rfl
         rotate_left
         ·simp only [Act.put, p1d, p2d, p3d, i64_w, i32_w]
          rfl
         refine take_ (i := 11) (N := some 17) (v := ?_) (a' := ?_) #[true, true, false, false, false, true, true, false, false, false, true, true, false, false, false, true, false, false, false, false] rfl rfl (take_ofW HT_.out HW_.out (by kernel_rfl)) (fun _ _ _ h => h) (Or.inl ⟨by rfl, ?_⟩) hHeld ?_ ?_
         rotate_left
         ·rintro w' ⟨s0, s1, s2, s3, s4⟩
          go_simp
          with_reducible rfl
         rotate_left
         ·simp only [Act.put, p1d, p2d, p3d, i64_w, i32_w]
          rfl
         refine take_ (i := 16) (N := some 22) (v := ?_) (a' := ?_) #[true, true, false, false, false, true, true, false, false, false, true, true, false, false, false, true, true, false, false, false] rfl rfl (take_ofW HT_.out HW_.out (by kernel_rfl)) (fun _ _ _ h => h) (Or.inl ⟨by rfl, ?_⟩) hHeld ?_ ?_
         rotate_left
         ·rintro w' ⟨s0, s1, s2, s3, s4⟩
          go_simp
          with_reducible rfl
         rotate_left
         ·simp only [Act.put, p1d, p2d, p3d, i64_w, i32_w]
          rfl
         refine one_ (i := 2) (N := some 8) #[true, true, true, false, false, true, true, false, false, false, true, true, false, false, false, true, true, false, false, false] rfl rfl (one_of HT_.out (by kernel_rfl)) (by decide) (fun K hK => ?_)
         refine goes_ Tryd.func28 (by kernel_rfl) rfl #[.agg #[.int .i64 a0_0, .int .i64 a0_1]] (by rfl) rfl rfl (by (try simp only [List.map_toArray, List.map_cons, List.map_nil]); first | done | rfl | (simp only [List.length_drop, List.length_take]; rfl)) ?_
         with_reducible refine (impl_FormatPlace.calls k a0_0 a0_1 t125 _ A4.out ?tabs).mono ?_
         case tabs => exact Tabs.below HT.out (by repeat (first | (with_reducible first | exact HB.out | apply q1d | apply q2d | apply q3d | refine q4d ?_ GE123.out) | exact HB.out))
         rintro e w19 ⟨rfl, hb⟩
         refine ⟨_, rfl, ?_⟩
         have n0_ := qgd (q8d (g := gb123) (o := .cells #[.int .i64 a0_0, .int .i64 a0_1, .int .i64 a0_2, .int .i64 a0_3, .int .i64 a0_4] 45 (0, 0)) (by (with_reducible repeat (first | refine q5d ?_ _ | refine q6d ?_ | refine q7d ?_ _)); exact BK123.out) hb)
         have n1_ := qgd (q9d (by repeat (first | (with_reducible first | exact HB.out | apply q1d | apply q2d | apply q3d | refine q4d ?_ GE123.out) | exact HB.out)) hb)
         clear BK123
         clear HB
         have BK123 := n0_
         have HB := n1_
         clear n0_ n1_
         (try clear hb)
         (try clear hb2)
         (try clear hk)
         (try clear hi)
         refine hK.out _ _ ⟨(qcd BK123.out 0).trans rfl, (qcd BK123.out 1).trans rfl, (qcd BK123.out 2).trans rfl, (qcd BK123.out 3).trans rfl, (qcd BK123.out 4).trans rfl⟩ (fun hHeld => ?_)
         clear hK K
         refine norm_ (a' := ?_) ?_ ?_
         rotate_left
         ·show Act.put _ (some 8) _ = _
          simp only [Act.put, p1d, p2d, p3d, i64_w, i32_w]
          rfl
         refine pure_ (i := 3) (N := some 9) (v := ?_) (a' := ?_) #[true, true, true, true, false, true, true, false, false, false, true, true, false, false, false, true, true, false, false, false] rfl rfl (any_of HT_.out (by kernel_rfl)) (fun _ _ _ h => h) (Or.inl ⟨by rfl, ?_⟩) ?_ ?_
         rotate_left
         ·intro w'
          go_simp
          with_reducible rfl
         rotate_left
         ·simp only [Act.put, p1d, p2d, p3d, i64_w, i32_w]
          rfl
         refine pure_ (i := 4) (N := some 10) (v := ?_) (a' := ?_) #[true, true, true, true, true, true, true, false, false, false, true, true, false, false, false, true, true, false, false, false] rfl rfl (any_of HT_.out (by kernel_rfl)) (fun _ _ _ h => h) (Or.inl ⟨by rfl, ?_⟩) ?_ ?_
         rotate_left
         ·intro w'
          go_simp
          with_reducible rfl
         rotate_left
         ·simp only [Act.put, p1d, p2d, p3d, i64_w, i32_w]
          rfl
         refine one_ (i := 7) (N := some 13) #[true, true, true, true, true, true, true, true, false, false, true, true, false, false, false, true, true, false, false, false] rfl rfl (one_of HT_.out (by kernel_rfl)) (by decide) (fun K hK => ?_)
         refine goes_ Tryd.func16 (by kernel_rfl) rfl #[.int .i64 a0_2] (by rfl) rfl rfl (by (try simp only [List.map_toArray, List.map_cons, List.map_nil]); first | done | rfl | (simp only [List.length_drop, List.length_take]; rfl)) ?_
         with_reducible refine (impl_FormatNumber.calls a0_2 t126 _ A7.out ?tabs).mono ?_
         case tabs => exact Tabs.below HT.out (by repeat (first | (with_reducible first | exact HB.out | apply q1d | apply q2d | apply q3d | refine q4d ?_ GE123.out) | exact HB.out))
         rintro e w20 ⟨rfl, hb⟩
         refine ⟨_, rfl, ?_⟩
         have n0_ := qgd (q8d (g := gb123) (o := .cells #[.int .i64 a0_0, .int .i64 a0_1, .int .i64 a0_2, .int .i64 a0_3, .int .i64 a0_4] 45 (0, 0)) (by (with_reducible repeat (first | refine q5d ?_ _ | refine q6d ?_ | refine q7d ?_ _)); exact BK123.out) hb)
         have n1_ := qgd (q9d (by repeat (first | (with_reducible first | exact HB.out | apply q1d | apply q2d | apply q3d | refine q4d ?_ GE123.out) | exact HB.out)) hb)
         clear BK123
         clear HB
         have BK123 := n0_
         have HB := n1_
         clear n0_ n1_
         (try clear hb)
         (try clear hb2)
         (try clear hk)
         (try clear hi)
         refine hK.out _ _ ⟨(qcd BK123.out 0).trans rfl, (qcd BK123.out 1).trans rfl, (qcd BK123.out 2).trans rfl, (qcd BK123.out 3).trans rfl, (qcd BK123.out 4).trans rfl⟩ (fun hHeld => ?_)
         clear hK K
         refine norm_ (a' := ?_) ?_ ?_
         rotate_left
         ·show Act.put _ (some 13) _ = _
          simp only [Act.put, p1d, p2d, p3d, i64_w, i32_w]
          rfl
         refine pure_ (i := 8) (N := some 14) (v := ?_) (a' := ?_) #[true, true, true, true, true, true, true, true, true, false, true, true, false, false, false, true, true, false, false, false] rfl rfl (any_of HT_.out (by kernel_rfl)) (fun _ _ _ h => h) (Or.inl ⟨by rfl, ?_⟩) ?_ ?_
         rotate_left
         ·intro w'
          go_simp
          with_reducible rfl
         rotate_left
         ·simp only [Act.put, p1d, p2d, p3d, i64_w, i32_w]
          rfl
         refine pure_ (i := 9) (N := some 15) (v := ?_) (a' := ?_) #[true, true, true, true, true, true, true, true, true, true, true, true, false, false, false, true, true, false, false, false] rfl rfl (any_of HT_.out (by kernel_rfl)) (fun _ _ _ h => h) (Or.inl ⟨by rfl, ?_⟩) ?_ ?_
         rotate_left
         ·intro w'
          go_simp
          with_reducible rfl
         rotate_left
         ·simp only [Act.put, p1d, p2d, p3d, i64_w, i32_w]
          rfl
         refine one_ (i := 12) (N := some 18) #[true, true, true, true, true, true, true, true, true, true, true, true, true, false, false, true, true, false, false, false] rfl rfl (one_of HT_.out (by kernel_rfl)) (by decide) (fun K hK => ?_)
         refine goes_ Tryd.func23 (by kernel_rfl) rfl #[.int .i64 a0_3] (by rfl) rfl rfl (by (try simp only [List.map_toArray, List.map_cons, List.map_nil]); first | done | rfl | (simp only [List.length_drop, List.length_take]; rfl)) ?_
         with_reducible refine (impl_FormatMeasure.calls k a0_3 t127 _ A10.out ?tabs).mono ?_
         case tabs => exact Tabs.below HT.out (by repeat (first | (with_reducible first | exact HB.out | apply q1d | apply q2d | apply q3d | refine q4d ?_ GE123.out) | exact HB.out))
         rintro e w21 ⟨rfl, hb⟩
         refine ⟨_, rfl, ?_⟩
         have n0_ := qgd (q8d (g := gb123) (o := .cells #[.int .i64 a0_0, .int .i64 a0_1, .int .i64 a0_2, .int .i64 a0_3, .int .i64 a0_4] 45 (0, 0)) (by (with_reducible repeat (first | refine q5d ?_ _ | refine q6d ?_ | refine q7d ?_ _)); exact BK123.out) hb)
         have n1_ := qgd (q9d (by repeat (first | (with_reducible first | exact HB.out | apply q1d | apply q2d | apply q3d | refine q4d ?_ GE123.out) | exact HB.out)) hb)
         clear BK123
         clear HB
         have BK123 := n0_
         have HB := n1_
         clear n0_ n1_
         (try clear hb)
         (try clear hb2)
         (try clear hk)
         (try clear hi)
         refine hK.out _ _ ⟨(qcd BK123.out 0).trans rfl, (qcd BK123.out 1).trans rfl, (qcd BK123.out 2).trans rfl, (qcd BK123.out 3).trans rfl, (qcd BK123.out 4).trans rfl⟩ (fun hHeld => ?_)
         clear hK K
         refine norm_ (a' := ?_) ?_ ?_
         rotate_left
         ·show Act.put _ (some 18) _ = _
          simp only [Act.put, p1d, p2d, p3d, i64_w, i32_w]
          rfl
         refine pure_ (i := 13) (N := some 19) (v := ?_) (a' := ?_) #[true, true, true, true, true, true, true, true, true, true, true, true, true, true, false, true, true, false, false, false] rfl rfl (any_of HT_.out (by kernel_rfl)) (fun _ _ _ h => h) (Or.inl ⟨by rfl, ?_⟩) ?_ ?_
         rotate_left
         ·intro w'
          go_simp
          with_reducible rfl
         rotate_left
         ·simp only [Act.put, p1d, p2d, p3d, i64_w, i32_w]
          rfl
         refine pure_ (i := 14) (N := some 20) (v := ?_) (a' := ?_) #[true, true, true, true, true, true, true, true, true, true, true, true, true, true, true, true, true, false, false, false] rfl rfl (any_of HT_.out (by kernel_rfl)) (fun _ _ _ h => h) (Or.inl ⟨by rfl, ?_⟩) ?_ ?_
         rotate_left
         ·intro w'
          go_simp
          with_reducible rfl
         rotate_left
         ·simp only [Act.put, p1d, p2d, p3d, i64_w, i32_w]
          rfl
         refine one_ (i := 17) (N := some 23) #[true, true, true, true, true, true, true, true, true, true, true, true, true, true, true, true, true, true, false, false] rfl rfl (one_of HT_.out (by kernel_rfl)) (by decide) (fun K hK => ?_)
         refine goes_ Tryd.func23 (by kernel_rfl) rfl #[.int .i64 a0_4] (by rfl) rfl rfl (by (try simp only [List.map_toArray, List.map_cons, List.map_nil]); first | done | rfl | (simp only [List.length_drop, List.length_take]; rfl)) ?_
         with_reducible refine (impl_FormatMeasure.calls k a0_4 t128 _ A13.out ?tabs).mono ?_
         case tabs => exact Tabs.below HT.out (by repeat (first | (with_reducible first | exact HB.out | apply q1d | apply q2d | apply q3d | refine q4d ?_ GE123.out) | exact HB.out))
         rintro e w22 ⟨rfl, hb⟩
         refine ⟨_, rfl, ?_⟩
         have n0_ := qgd (q8d (g := gb123) (o := .cells #[.int .i64 a0_0, .int .i64 a0_1, .int .i64 a0_2, .int .i64 a0_3, .int .i64 a0_4] 45 (0, 0)) (by (with_reducible repeat (first | refine q5d ?_ _ | refine q6d ?_ | refine q7d ?_ _)); exact BK123.out) hb)
         have n1_ := qgd (q9d (by repeat (first | (with_reducible first | exact HB.out | apply q1d | apply q2d | apply q3d | refine q4d ?_ GE123.out) | exact HB.out)) hb)
         clear BK123
         clear HB
         have BK123 := n0_
         have HB := n1_
         clear n0_ n1_
         (try clear hb)
         (try clear hb2)
         (try clear hk)
         (try clear hi)
         refine hK.out _ _ ⟨(qcd BK123.out 0).trans rfl, (qcd BK123.out 1).trans rfl, (qcd BK123.out 2).trans rfl, (qcd BK123.out 3).trans rfl, (qcd BK123.out 4).trans rfl⟩ (fun hHeld => ?_)
         clear hK K
         refine norm_ (a' := ?_) ?_ ?_
         rotate_left
         ·show Act.put _ (some 23) _ = _
          simp only [Act.put, p1d, p2d, p3d, i64_w, i32_w]
          rfl
         refine pure_ (i := 18) (N := some 24) (v := ?_) (a' := ?_) #[true, true, true, true, true, true, true, true, true, true, true, true, true, true, true, true, true, true, true, false] rfl rfl (any_of HT_.out (by kernel_rfl)) (fun _ _ _ h => h) (Or.inl ⟨by rfl, ?_⟩) ?_ ?_
         rotate_left
         ·intro w'
          go_simp
          with_reducible rfl
         rotate_left
         ·simp only [Act.put, p1d, p2d, p3d, i64_w, i32_w]
          rfl
         refine pure_ (i := 19) (N := some 2) (v := ?_) (a' := ?_) #[true, true, true, true, true, true, true, true, true, true, true, true, true, true, true, true, true, true, true, true] rfl rfl (any_of HT_.out (by kernel_rfl)) (fun _ _ _ h => h) (Or.inl ⟨by rfl, ?_⟩) ?_ ?_
         rotate_left
         ·intro w'
          go_simp
          with_reducible rfl
         rotate_left
         ·simp only [Act.put, p1d, p2d, p3d, i64_w, i32_w]
          rfl
         refine done_ (done_of HT_.out (by kernel_rfl)) ?_
         try go_wp2
         go_ret
         exact ⟨by first | rfl | (simp [errW_none, errW_some] <;> rfl) | (simp [*, errW_none, errW_some] <;> rfl), by repeat (first | (with_reducible first | exact HB.out | apply q1d | apply q2d | apply q3d | refine q4d ?_ GE123.out) | exact HB.out)⟩
        ·rw [if_neg c14] at H
         exact absurd H (by simp)
       ·rw [if_neg c12] at H
        exact absurd H (by simp)
      ·rw [if_neg c11] at H
       exact absurd H (by simp)
     ·rw [if_neg c9] at H
      exact absurd H (by simp)
    ·rw [if_neg c8] at H
     exact absurd H (by simp)
   ·rw [if_neg c6] at H
    exact absurd H (by simp)
  ·rw [if_neg c5] at H
   exact absurd H (by simp)
 ·replace c3 := Bool.eq_false_iff.mpr c3
  subst c3
  have H1 : (some (⟨#[]⟩ : ByteArray)) = some r := by rw [if_neg (show ¬ (false = true) by decide)] at H; exact H
  clear H
  have H := H1
  clear H1
  obtain rfl := Option.some.inj H
  go_enter Tryd.func34, Tryd.ntmps34
  go_wp2_with (first | ((with_reducible refine qud (N := 1) rfl ?_); refine qhd ?hg (N := 1) ?hd (cs := #[.int .i64 a0_0, .int .i64 a0_1, .int .i64 a0_2, .int .i64 a0_3, .int .i64 a0_4]) (t := 45) ?hr ?_; (case hd => rfl); (case hg => rfl); (case hr => first | (go_simp; done) | (go_simp; rfl)); intro gb123 hg w23 hbox hb; have n0_ := qgd (q9d (by repeat (first | (with_reducible first | exact HB.out | apply q1d | apply q2d | apply q3d) | exact HB.out)) hb); have n1_ := qgd (hbox); have n2_ := qgd ((by rw [hg]; exact (qad (by repeat (first | (with_reducible first | exact HB.out | apply q1d | apply q2d | apply q3d) | exact HB.out))) : w.heap.size ≤ gb123)); have n3_ := qgd ((by rw [hg]; exact (qad (by repeat (first | (with_reducible first | exact HB.out | apply q1d | apply q2d | apply q3d) | exact HB.out))) : w.heap.size ≤ gb123)); clear HB; have HB := n0_; have BK123 := n1_; have GW123 := n2_; have GE123 := n3_; clear n0_ n1_ n2_ n3_; clear hb hbox hg; have hcz24_0 : w23.cell? ⟨gb123, 0, none⟩ = some (.int .i64 a0_0) := (qcd BK123.out 0).trans rfl; have hcz24_1 : w23.cell? ⟨gb123, 1, none⟩ = some (.int .i64 a0_1) := (qcd BK123.out 1).trans rfl; have hcz24_2 : w23.cell? ⟨gb123, 2, none⟩ = some (.int .i64 a0_2) := (qcd BK123.out 2).trans rfl; have hcz24_3 : w23.cell? ⟨gb123, 3, none⟩ = some (.int .i64 a0_3) := (qcd BK123.out 3).trans rfl; have hcz24_4 : w23.cell? ⟨gb123, 4, none⟩ = some (.int .i64 a0_4) := (qcd BK123.out 4).trans rfl; have hfz24_0 := qbd BK123.out 0; have hfz24_1 := qbd BK123.out 1; have hfz24_2 := qbd BK123.out 2; have hfz24_3 := qbd BK123.out 3; have hfz24_4 := qbd BK123.out 4) | ((with_reducible refine qtd (f := 53) rfl ?_); refine goesL_ (some 4) rfl rfl Tryd.func53 (by kernel_rfl) rfl #[.agg #[.int .i64 a0_0, .int .i64 a0_1, .int .i64 a0_2, .int .i64 a0_3, .int .i64 a0_4]] rfl (by (try simp only [List.map_toArray, List.map_cons, List.map_nil]); first | done | rfl | (simp only [List.length_drop, List.length_take]; rfl)) ?_; (with_reducible refine (impl_IsJet.calls a0_0 a0_1 a0_2 a0_3 a0_4 false _ A2.out).mono ?_); rintro e w25 ⟨rfl, hb⟩; refine ⟨_, rfl, ?_⟩; have n0_ := qgd (q8d (g := gb123) (o := .cells #[.int .i64 a0_0, .int .i64 a0_1, .int .i64 a0_2, .int .i64 a0_3, .int .i64 a0_4] 45 (0, 0)) (by (with_reducible repeat (first | refine q5d ?_ _ | refine q6d ?_ | refine q7d ?_ _)); exact BK123.out) hb); have n1_ := qgd (q9d (by repeat (first | (with_reducible first | exact HB.out | apply q1d | apply q2d | apply q3d | refine q4d ?_ GE123.out) | exact HB.out)) hb); clear BK123; clear HB; have BK123 := n0_; have HB := n1_; clear n0_ n1_; (try clear hb); (try clear hb2); (try clear hk); (try clear hi)))
  go_ret
  exact ⟨by first | rfl | (simp [errW_none, errW_some] <;> rfl) | (simp [*, errW_none, errW_some] <;> rfl), by repeat (first | (with_reducible first | exact HB.out | apply q1d | apply q2d | apply q3d | refine q4d ?_ GE123.out) | exact HB.out)⟩
/-! ### impl_SplitAt: function 18 -/
def impl_SplitAt.f (a0 : ByteArray) (a1 : ByteArray) : Option (List ByteArray) := if a1.toList = ([] : List UInt8) then (some (([a0] : List ByteArray))) else ((strings_Split.f a0 a1).bind fun t132 => (some t132))
set_option maxHeartbeats 8000000 in
set_option maxRecDepth 100000 in
theorem impl_SplitAt.calls (a0 : ByteArray) (a1 : ByteArray) (r : List ByteArray) (w : World) (h : impl_SplitAt.f a0 a1 = some r) (ht : Tabs w) :
 Calls Tryd.prog 18 #[.string a0, .string a1] w fun e w' => ∃ v0_ : Value, e = .returned (v0_) ∧ Kd.R Kd.string 9 w' w.heap.size (fun _ => True) v0_ r ∧ Below w.heap.size w w' := by
 have HT := qgd ht
 clear ht
 have HB := qgd (Below.refl w.heap.size w)
 have H : (if a1.toList = ([] : List UInt8) then (some (([a0] : List ByteArray))) else ((strings_Split.f a0 a1).bind fun t132 => (some t132))) = some r := h
 clear h
 by_cases c3 : a1.toList = ([] : List UInt8)
 ·rw [if_pos c3] at H
  have c3b0 : (a1.toList == ([] : List UInt8)) = true := beq_iff_eq.mpr c3
  have c3b1 : (a1.toList != ([] : List UInt8)) = false := bne_eq_false_iff_eq.mpr c3
  clear c3
  obtain ⟨y129, hy129⟩ : ∃ y_ : List ByteArray, y_ = (([a0] : List ByteArray)) := ⟨_, rfl⟩
  replace H : (some y129) = some r := by first | (rw [hy129]; with_reducible exact H) | (have H2_ := (Option.bind_some _ _).symm.trans H; rw [hy129]; with_reducible exact H2_) | (have H2_ := (Option.bind_some _ _).symm.trans H; with_reducible exact H2_) | with_reducible exact H | (rw [hy129]; exact H) | exact H
  have Ny129 := qgd hy129
  clear hy129
  obtain rfl := Option.some.inj H
  go_enter Tryd.func18, Tryd.ntmps18
  go_wp2_with (first | ((with_reducible refine qud (N := 8) rfl ?_); refine Kd.R_lit Kd.string _ 9 ?hg (N := 8) ?hd (xs := ([a0] : List ByteArray)) (inner := [.string a0]) (ok := fun _ => True) (okp := fun _ => True) ?hr ?hp (fun _ hk => hk) trivial (Below.refl _ _) (Nat.le_refl _) (by simp) ?_; (case hd => rfl); (case hg => rfl); (case hr => first | (go_simp; done) | (go_simp; rfl)); (case hp => exact (Reps.one (show Kd.M Kd.string _ _ _ a0 [.string a0] from rfl) (Reps.none _ _))); intro v130 w4 ho5 hb hg_ hnew_; clear hg_ hnew_; (first | rw [← Ny129.out] at ho5 | (simp only [Int.reduceToNat] at ho5; rw [← Ny129.out] at ho5)); have n0_ := qgd (Kd.R_lower ho5 (qad (by repeat (first | (with_reducible first | exact HB.out | apply q1d | apply q2d | apply q3d) | exact HB.out)))); have n1_ := qgd (q9d (by repeat (first | (with_reducible first | exact HB.out | apply q1d | apply q2d | apply q3d) | exact HB.out)) hb); clear HB; have HO131 := n0_; have HB := n1_; clear n0_ n1_; clear hb ho5))
  go_ret
  exact ⟨_, by first | rfl | (simp [errW_none, errW_some] <;> rfl) | (simp [*, errW_none, errW_some] <;> rfl), by (with_reducible repeat (first | apply qkd | apply qld | apply qmd)); exact HO131.out, by repeat (first | (with_reducible first | exact HB.out | apply q1d | apply q2d | apply q3d) | exact HB.out)⟩
 ·rw [if_neg c3] at H
  have c3b0 : (a1.toList == ([] : List UInt8)) = false := beq_eq_false_iff_ne.mpr c3
  have c3b1 : (a1.toList != ([] : List UInt8)) = true := bne_iff_ne.mpr c3
  replace H := Option.bind_eq_some_iff.mp H
  obtain ⟨t132, A60, H⟩ := H
  replace H : (some t132) = some r := H
  have A6 := qgd A60
  clear A60
  obtain rfl := Option.some.inj H
  go_enter Tryd.func18, Tryd.ntmps18
  go_wp2_with (first | ((with_reducible refine qtd (f := 57) rfl ?_); refine goesL_ (some 11) rfl rfl Tryd.func57 (by kernel_rfl) rfl #[.string a0, .string a1] rfl (by (try simp only [List.map_toArray, List.map_cons, List.map_nil]); first | done | rfl | (simp only [List.length_drop, List.length_take]; rfl)) ?_; (with_reducible refine (strings_Split.calls a0 a1 t132 _ A6.out ?tabs).mono ?_); (case tabs => exact Tabs.below HT.out (by repeat (first | (with_reducible first | exact HB.out | apply q1d | apply q2d | apply q3d) | exact HB.out))); rintro e w7 ⟨v133, rfl, ho0, hb⟩; refine ⟨_, rfl, ?_⟩; have n0_ := qgd (Kd.R_lower ho0 (qad (by repeat (first | (with_reducible first | exact HB.out | apply q1d | apply q2d | apply q3d) | exact HB.out)))); have n1_ := qgd (q9d (by repeat (first | (with_reducible first | exact HB.out | apply q1d | apply q2d | apply q3d) | exact HB.out)) hb); clear HB; have HO134 := n0_; have HB := n1_; clear n0_ n1_; (try clear hb); (try clear hb2); (try clear hk); (try clear hi); (try clear ho0)))
  go_ret
  exact ⟨_, by first | rfl | (simp [errW_none, errW_some] <;> rfl) | (simp [*, errW_none, errW_some] <;> rfl), by (with_reducible repeat (first | apply qkd | apply qld | apply qmd)); exact HO134.out, by repeat (first | (with_reducible first | exact HB.out | apply q1d | apply q2d | apply q3d) | exact HB.out)⟩
/-! ### impl_ParseNumber: function 40 -/
mutual
def impl_ParseNumber.j0 : Nat → ByteArray → Bool → Option (Int × Bool)
  | 0, _, _ => none
  | k + 1, x0, x23 => if x23 = true then (some (0, false)) else (impl_ParseNumber.l0 k x0 0 (x0.size : Int) 0)
def impl_ParseNumber.l0 : Nat → ByteArray → Int → Int → Int → Option (Int × Bool)
  | 0, _, _, _, _ => none
  | k + 1, x0, x4, x25, x26 => if x26 < x25 then (if 0 ≤ x26 then (if x26 < (x0.size : Int) then (if (bt x0 x26) < 48 then (some (0, false)) else (if (bt x0 x26) > 57 then (some (0, false)) else (impl_ParseNumber.l0 k x0 (wrap64 ((wrap64 (10 * x4)) + (((bt x0 x26) - 48) % 256))) x25 (wrap64 (x26 + 1))))) else (none)) else (none)) else (some (x4, true))
end
def impl_ParseNumber.f (k : Nat) (a0 : ByteArray) : Option (Int × Bool) := if (a0.size : Int) = 0 then (impl_ParseNumber.j0 k a0 true) else (if (a0.size : Int) > 3 then (impl_ParseNumber.j0 k a0 true) else (if (a0.size : Int) > 1 then (if 0 < (a0.size : Int) then (impl_ParseNumber.j0 k a0 ((bt a0 0) == 48)) else (none)) else (impl_ParseNumber.j0 k a0 false)))
theorem impl_ParseNumber.mono_l : ∀ k, (∀ y0 y1, LeO (impl_ParseNumber.j0 k y0 y1) (impl_ParseNumber.j0 (k + 1) y0 y1)) ∧ (∀ y0 y1 y2 y3, LeO (impl_ParseNumber.l0 k y0 y1 y2 y3) (impl_ParseNumber.l0 (k + 1) y0 y1 y2 y3))
  | 0 => ⟨fun _ _ r h => by simp [impl_ParseNumber.j0] at h, fun _ _ _ _ r h => by simp [impl_ParseNumber.l0] at h⟩
  | k + 1 => by
    obtain ⟨ih0, ih1⟩ := impl_ParseNumber.mono_l k
    refine ⟨?_, ?_⟩
    · intro y0 y1
      unfold impl_ParseNumber.j0
      repeat' first
      | (with_reducible exact ih0 _ _)
      | (with_reducible exact ih1 _ _ _ _)
      | (with_reducible exact LeO.refl _)
      | (with_reducible exact LeO.none _)
      | (with_reducible refine LeO.ite ?_ ?_)
      | (with_reducible refine LeO.bind ?_ (fun _ => ?_))
      | exact ih0 _ _
      | exact ih1 _ _ _ _
      | exact LeO.none _
      | refine LeO.ite ?_ ?_
      | refine LeO.bind ?_ (fun _ => ?_)
    · intro y0 y1 y2 y3
      unfold impl_ParseNumber.l0
      repeat' first
      | (with_reducible exact ih0 _ _)
      | (with_reducible exact ih1 _ _ _ _)
      | (with_reducible exact LeO.refl _)
      | (with_reducible exact LeO.none _)
      | (with_reducible refine LeO.ite ?_ ?_)
      | (with_reducible refine LeO.bind ?_ (fun _ => ?_))
      | exact ih0 _ _
      | exact ih1 _ _ _ _
      | exact LeO.none _
      | refine LeO.ite ?_ ?_
      | refine LeO.bind ?_ (fun _ => ?_)
theorem impl_ParseNumber.mono : ∀ a0 k, LeO (impl_ParseNumber.f k a0) (impl_ParseNumber.f (k + 1) a0) := by
  intro a0 k
  obtain ⟨ih0, ih1⟩ := impl_ParseNumber.mono_l k
  unfold impl_ParseNumber.f
  repeat' first
      | (with_reducible exact ih0 _ _)
      | (with_reducible exact ih1 _ _ _ _)
      | (with_reducible exact LeO.refl _)
      | (with_reducible exact LeO.none _)
      | (with_reducible refine LeO.ite ?_ ?_)
      | (with_reducible refine LeO.bind ?_ (fun _ => ?_))
      | exact ih0 _ _
      | exact ih1 _ _ _ _
      | exact LeO.none _
      | refine LeO.ite ?_ ?_
      | refine LeO.bind ?_ (fun _ => ?_)
set_option maxHeartbeats 8000000 in
set_option maxRecDepth 100000 in
theorem impl_ParseNumber.calls (k : Nat) (a0 : ByteArray) (r1 : Int) (r2 : Bool) (w : World) (h : impl_ParseNumber.f k a0 = some (r1, r2)) :
 Calls Tryd.prog 40 #[.string a0] w fun e w' => e = .returned (.tuple #[.int .i64 r1, .bool r2]) ∧ Drawn0 w w' := by
 have H : (if (a0.size : Int) = 0 then (impl_ParseNumber.j0 k a0 true) else (if (a0.size : Int) > 3 then (impl_ParseNumber.j0 k a0 true) else (if (a0.size : Int) > 1 then (if 0 < (a0.size : Int) then (impl_ParseNumber.j0 k a0 ((bt a0 0) == 48)) else (none)) else (impl_ParseNumber.j0 k a0 false)))) = some (r1, r2) := h
 clear h
 have HC2 := qgd H
 clear H
 go_enter Tryd.func40, Tryd.ntmps40
 go_upto_region 1 with (fail)
 go_cut [23] (fun v23 wc => ∃ (kq : Nat) (x23_1 : Bool), v23 = .bool x23_1 ∧ Aside0 (impl_ParseNumber.j0 kq a0 x23_1 = some (r1, r2)) ∧ Aside0 (kq ≤ k) ∧ Drawn0 w wc)
 case first =>
  have H := HC2.out
  clear HC2
  by_cases c3 : (a0.size : Int) = 0
  ·rw [if_pos c3] at H
   have c3b0 : ((a0.size : Int) == 0) = true := beq_iff_eq.mpr c3
   have c3b1 : ((a0.size : Int) != 0) = false := bne_eq_false_iff_eq.mpr c3
   clear c3
   (first | rw [c3b0] | (simp only [i64_w, i32_w]; rw [c3b0]) | skip)
   have H' := qgd H
   clear H
   go_wp2
   go_meet
   case rel => exact ⟨_, (true), (by first | rfl | (simp; done) | (simp [*]; done)), H', ⟨by first | omega | exact Nat.le_refl _⟩, by repeat (first | exact Drawn0.refl _ | apply Drawn0.step)⟩
  ·rw [if_neg c3] at H
   have c3b0 : ((a0.size : Int) == 0) = false := beq_eq_false_iff_ne.mpr c3
   have c3b1 : ((a0.size : Int) != 0) = true := bne_iff_ne.mpr c3
   (first | rw [c3b0] | (simp only [i64_w, i32_w]; rw [c3b0]) | skip)
   by_cases c4 : (a0.size : Int) > 3
   ·rw [if_pos c4] at H
    have c4b0 : decide (3 < (a0.size : Int)) = true := decide_eq_true c4
    have c4b1 : decide (3 < a0.size) = true := decide_eq_true (by omega)
    clear c4
    have H' := qgd H
    clear H
    go_wp2
    go_meet
    case rel => exact ⟨_, (true), (by first | rfl | (simp; done) | (simp [*]; done)), H', ⟨by first | omega | exact Nat.le_refl _⟩, by repeat (first | exact Drawn0.refl _ | apply Drawn0.step)⟩
   ·rw [if_neg c4] at H
    have c4b0 : decide (3 < (a0.size : Int)) = false := decide_eq_false c4
    have c4b1 : decide (3 < a0.size) = false := decide_eq_false (by omega)
    clear c4
    by_cases c5 : (a0.size : Int) > 1
    ·rw [if_pos c5] at H
     have c5b0 : decide (1 < (a0.size : Int)) = true := decide_eq_true c5
     have c5b1 : decide (1 < a0.size) = true := decide_eq_true (by omega)
     clear c5
     by_cases c6 : 0 < (a0.size : Int)
     ·rw [if_pos c6] at H
      have c6b0 : decide (0 < (a0.size : Int)) = true := decide_eq_true c6
      have c6b1 : decide (0 < a0.size) = true := decide_eq_true (by omega)
      clear c6
      have H' := qgd H
      clear H
      have p7 : 0 ≤ (0 : Int) := (by omega)
      have q7 : 0 < a0.size := (by have : (0 : Int) < (a0.size : Int) := of_decide_eq_true (by first | (with_reducible assumption) | assumption); omega)
      have hx7 : ∀ h : 0 < a0.size, ((a0[0]'h).toNat : Int) = bt a0 0 := bt_at a0 0
      clear p7
      have qi7 : (0 < (a0.size : Int)) = True := eq_true (of_decide_eq_true (by first | (with_reducible assumption) | assumption))
      replace q7 := eq_true q7
      go_wp2
      go_meet
      case rel => exact ⟨_, (((bt a0 0) == 48)), (by first | rfl | (simp; done) | (simp [*]; done)), H', ⟨by first | omega | exact Nat.le_refl _⟩, by repeat (first | exact Drawn0.refl _ | apply Drawn0.step)⟩
     ·rw [if_neg c6] at H
      exact absurd H (by simp)
    ·rw [if_neg c5] at H
     have c5b0 : decide (1 < (a0.size : Int)) = false := decide_eq_false c5
     have c5b1 : decide (1 < a0.size) = false := decide_eq_false (by omega)
     clear c5
     have H' := qgd H
     clear H
     go_wp2
     go_meet
     case rel => exact ⟨_, (false), (by first | rfl | (simp; done) | (simp [*]; done)), H', ⟨by first | omega | exact Nat.le_refl _⟩, by repeat (first | exact Drawn0.refl _ | apply Drawn0.step)⟩
 case rest =>
  clear HC2
  try clear p2
  try clear c3
  try clear c3b0
  try clear c3b1
  try clear c4
  try clear c4b0
  try clear c4b1
  try clear c5
  try clear c5b0
  try clear c5b1
  try clear c6
  try clear c6b0
  try clear c6b1
  try clear p7
  try clear q7
  try clear hx7
  try clear qi7
  try clear p7
  try clear q7
  obtain ⟨kq, x23_1, rfl, HA, HJ1, ⟨mc1, rfl⟩⟩ := hcut
  cases kq with
  | zero => exact absurd HA.out (by simp [impl_ParseNumber.j0])
  | succ kj1 =>
   have H := HA.out
   clear HA
   simp only [impl_ParseNumber.j0] at H
   by_cases c8 : x23_1 = true
   ·subst c8
    have H1 : (some (0, false)) = some (r1, r2) := by rw [if_pos rfl] at H; exact H
    clear H
    have H := H1
    clear H1
    simp only [Option.some.injEq, Prod.mk.injEq] at H
    obtain ⟨rfl, rfl⟩ := H
    go_wp2
    go_ret2
    exact ⟨by first | rfl | (simp; done) | (simp [*]; done), by repeat (first | exact Drawn0.refl _ | apply Drawn0.step)⟩
   ·replace c8 := Bool.eq_false_iff.mpr c8
    subst c8
    have H1 : (impl_ParseNumber.l0 kj1 a0 0 (a0.size : Int) 0) = some (r1, r2) := by rw [if_neg (show ¬ (false = true) by decide)] at H; exact H
    clear H
    have H := H1
    clear H1
    have H' := qgd H
    clear H
    go_wp2
    go_loopg [4, 26] kj1 (fun kq v4 v26 w' => ∃ (x4_2 : Int) (x26_2 : Int), v4 = .int .i64 x4_2 ∧ v26 = .int .i64 x26_2 ∧ Aside0 (impl_ParseNumber.l0 kq a0 x4_2 (a0.size : Int) x26_2 = some (r1, r2)) ∧ Aside0 (kq ≤ kj1) ∧ Drawn0 w w')
    case atStart => exact ⟨(0), (0), (by first | rfl | (simp; done) | (simp [*]; done)), (by first | rfl | (simp; done) | (simp [*]; done)), H', ⟨Nat.le_refl _⟩, by repeat (first | exact Drawn0.refl _ | apply Drawn0.step)⟩
    case round =>
     clear H'
     try clear c1
     try clear p2
     try clear c3
     try clear c3b0
     try clear c3b1
     try clear c4
     try clear c4b0
     try clear c4b1
     try clear c5
     try clear c5b0
     try clear c5b1
     try clear c6
     try clear c6b0
     try clear c6b1
     try clear p7
     try clear q7
     try clear hx7
     try clear qi7
     try clear c8
     try clear p2
     try clear p7
     try clear q7
     obtain ⟨x4_2, x26_2, rfl, rfl, HA, HK2, ⟨m2, rfl⟩⟩ := hrel
     cases gk with
     | zero => exact absurd HA.out (by simp [impl_ParseNumber.l0])
     | succ k2 =>
      have H := HA.out
      clear HA
      simp only [impl_ParseNumber.l0] at H
      by_cases c9 : x26_2 < (a0.size : Int)
      ·rw [if_pos c9] at H
       have c9b0 : decide (x26_2 < (a0.size : Int)) = true := decide_eq_true c9
       clear c9
       by_cases c10 : 0 ≤ x26_2
       ·rw [if_pos c10] at H
        have c10b0 : decide (0 ≤ x26_2) = true := decide_eq_true c10
        clear c10
        by_cases c11 : x26_2 < (a0.size : Int)
        ·rw [if_pos c11] at H
         have c11b0 : decide (x26_2 < (a0.size : Int)) = true := decide_eq_true c11
         clear c11
         by_cases c13 : (bt a0 x26_2) < 48
         ·rw [if_pos c13] at H
          have c13b0 : decide ((bt a0 x26_2) < 48) = true := decide_eq_true c13
          clear c13
          simp only [Option.some.injEq, Prod.mk.injEq] at H
          obtain ⟨rfl, rfl⟩ := H
          have p12 : 0 ≤ (x26_2 : Int) := of_decide_eq_true (by first | (with_reducible assumption) | assumption)
          have q12 : x26_2 < (a0.size : Int) := of_decide_eq_true (by first | (with_reducible assumption) | assumption)
          have hx12 := bt_at a0 x26_2
          replace p12 := eq_true p12
          replace q12 := eq_true q12
          go_wp2
          go_ret2
          exact ⟨by first | rfl | (simp; done) | (simp [*]; done), by repeat (first | exact Drawn0.refl _ | apply Drawn0.step)⟩
         ·rw [if_neg c13] at H
          have c13b0 : decide ((bt a0 x26_2) < 48) = false := decide_eq_false c13
          clear c13
          by_cases c15 : (bt a0 x26_2) > 57
          ·rw [if_pos c15] at H
           have c15b0 : decide (57 < (bt a0 x26_2)) = true := decide_eq_true c15
           clear c15
           simp only [Option.some.injEq, Prod.mk.injEq] at H
           obtain ⟨rfl, rfl⟩ := H
           have p12 : 0 ≤ (x26_2 : Int) := of_decide_eq_true (by first | (with_reducible assumption) | assumption)
           have q12 : x26_2 < (a0.size : Int) := of_decide_eq_true (by first | (with_reducible assumption) | assumption)
           have hx12 := bt_at a0 x26_2
           replace p12 := eq_true p12
           replace q12 := eq_true q12
           have p14 : 0 ≤ (x26_2 : Int) := of_decide_eq_true (by first | (with_reducible assumption) | assumption)
           have q14 : x26_2 < (a0.size : Int) := of_decide_eq_true (by first | (with_reducible assumption) | assumption)
           have hx14 := bt_at a0 x26_2
           replace p14 := eq_true p14
           replace q14 := eq_true q14
           go_wp2
           go_ret2
           exact ⟨by first | rfl | (simp; done) | (simp [*]; done), by repeat (first | exact Drawn0.refl _ | apply Drawn0.step)⟩
          ·rw [if_neg c15] at H
           have c15b0 : decide (57 < (bt a0 x26_2)) = false := decide_eq_false c15
           clear c15
           have H' := qgd H
           clear H
           have p12 : 0 ≤ (x26_2 : Int) := of_decide_eq_true (by first | (with_reducible assumption) | assumption)
           have q12 : x26_2 < (a0.size : Int) := of_decide_eq_true (by first | (with_reducible assumption) | assumption)
           have hx12 := bt_at a0 x26_2
           replace p12 := eq_true p12
           replace q12 := eq_true q12
           have p14 : 0 ≤ (x26_2 : Int) := of_decide_eq_true (by first | (with_reducible assumption) | assumption)
           have q14 : x26_2 < (a0.size : Int) := of_decide_eq_true (by first | (with_reducible assumption) | assumption)
           have hx14 := bt_at a0 x26_2
           replace p14 := eq_true p14
           replace q14 := eq_true q14
           have p16 : 0 ≤ (x26_2 : Int) := of_decide_eq_true (by first | (with_reducible assumption) | assumption)
           have q16 : x26_2 < (a0.size : Int) := of_decide_eq_true (by first | (with_reducible assumption) | assumption)
           have hx16 := bt_at a0 x26_2
           replace p16 := eq_true p16
           replace q16 := eq_true q16
           go_wp2
           go_roundg k2
           case measure => have := HJ1.out; have := HK2.out; omega
           case rel => exact ⟨(wrap64 ((wrap64 (10 * x4_2)) + (((bt a0 x26_2) - 48) % 256))), (wrap64 (x26_2 + 1)), (by first | rfl | (simp; done) | (simp [*]; done)), (by first | rfl | (simp; done) | (simp [*]; done)), H', ⟨by have := HJ1.out; have := HK2.out; omega⟩, by repeat (first | exact Drawn0.refl _ | apply Drawn0.step)⟩
        ·rw [if_neg c11] at H
         exact absurd H (by simp)
       ·rw [if_neg c10] at H
        exact absurd H (by simp)
      ·rw [if_neg c9] at H
       have c9b0 : decide (x26_2 < (a0.size : Int)) = false := decide_eq_false c9
       clear c9
       simp only [Option.some.injEq, Prod.mk.injEq] at H
       obtain ⟨rfl, rfl⟩ := H
       go_wp2
       go_ret2
       exact ⟨by first | rfl | (simp; done) | (simp [*]; done), by repeat (first | exact Drawn0.refl _ | apply Drawn0.step)⟩
end Go.Proofs.YtcnkfnkdcjpkoaaDoor.PFnJetText
