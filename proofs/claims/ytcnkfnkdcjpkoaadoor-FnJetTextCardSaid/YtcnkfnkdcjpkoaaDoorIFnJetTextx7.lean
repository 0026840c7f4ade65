/- Plain functions and walks of the law FnJetText: each function answers as its plain function does. No condition beside. Printed by a changed copy of the print (wip/tools/inject.py). -/
import Derived.Test.YtcnkfnkdcjpkoaaDoorIFnJetTextx0
import Derived.Test.YtcnkfnkdcjpkoaaDoorIFnJetTextx5
import Derived.Test.YtcnkfnkdcjpkoaaDoorIFnJetTextx6
namespace Go.Proofs.YtcnkfnkdcjpkoaaDoor.PFnJetText
open Go.RowKit Go.Proofs.YtcnkfnkdcjpkoaaDoorV Go.Proofs.YtcnkfnkdcjpkoaaDoorW.PrintWords Go.Proofs.YtcnkfnkdcjpkoaaDoorW.PrintLast Go.Proofs.YtcnkfnkdcjpkoaaDoorW.PrintMore
attribute [local go_sem] max2_int min2_int max_two min_two max_three min_three max_four min_four   -- for this text's walks alone
set_option linter.unusedVariables false
set_option linter.unusedSimpArgs false

theorem p1h : type_of% @List.setIfInBounds_toArray := @List.setIfInBounds_toArray
theorem p2h : type_of% @List.set_cons_zero := @List.set_cons_zero
theorem p3h : type_of% @List.set_cons_succ := @List.set_cons_succ
theorem q1h : type_of% @below_alloc := @below_alloc
theorem q2h : type_of% @pw_below_drewN := @pw_below_drewN
theorem q3h : type_of% @below_drew1 := @below_drew1
theorem q4h : type_of% @below_set := @below_set
theorem q5h : type_of% @blk_drewN := @blk_drewN
theorem q6h : type_of% @blk_drew := @blk_drew
theorem q7h : type_of% @blk_alloc := @blk_alloc
theorem q8h : type_of% @blk_below := @blk_below
theorem q9h : type_of% @below_step := @below_step
theorem qah : type_of% @below_size := @below_size
theorem qbh : type_of% @blk_frozen := @blk_frozen
theorem qch : type_of% @blk_cell := @blk_cell
theorem qgh : type_of% @Aside0.mk := @Aside0.mk
theorem qhh : type_of% @box_event := @box_event
theorem qkh : type_of% @Kd.R_alloc := @Kd.R_alloc
theorem qlh : type_of% @Kd.R_drewN := @Kd.R_drewN
theorem qmh : type_of% @Kd.R_drew := @Kd.R_drew
theorem qoh : type_of% @Kd.C_alloc := @Kd.C_alloc
theorem qrh : type_of% @Kd.C_drewN := @Kd.C_drewN
theorem qsh : type_of% @Kd.C_drew := @Kd.C_drew
theorem qth : type_of% @gate_callee := @gate_callee
theorem quh : type_of% @gate_dst := @gate_dst
/-! ### spec_FormatPlace: function 26 -/
def spec_FormatPlace.f (k : Nat) (a0_0 : Int) (a0_1 : Int) : Option (ByteArray) := (spec_IsPlace.f a0_0 a0_1).bind fun t330 => (if t330 = true then ((spec_FormatMeasure.f k a0_0).bind fun t331 => (if a0_1 ≥ 0 then (if t331.size + 1 ≤ 9223372036854775807 then ((spec_FormatMeasure.f k a0_1).bind fun t332 => (if (t331 ++ (⟨#[43]⟩ : ByteArray)).size + t332.size ≤ 9223372036854775807 then (if ((t331 ++ (⟨#[43]⟩ : ByteArray)) ++ t332).size + 1 ≤ 9223372036854775807 then (some (((t331 ++ (⟨#[43]⟩ : ByteArray)) ++ t332) ++ (⟨#[105]⟩ : ByteArray))) else (none)) else (none))) else (none)) else ((spec_FormatMeasure.f k a0_1).bind fun t333 => (if t331.size + t333.size ≤ 9223372036854775807 then (if (t331 ++ t333).size + 1 ≤ 9223372036854775807 then (some ((t331 ++ t333) ++ (⟨#[105]⟩ : ByteArray))) else (none)) else (none))))) else (some (⟨#[]⟩ : ByteArray)))
theorem spec_FormatPlace.mono : ∀ a0 a1 k, LeO (spec_FormatPlace.f k a0 a1) (spec_FormatPlace.f (k + 1) a0 a1) := by
  intro a0 a1 k
  unfold spec_FormatPlace.f
  repeat' first
      | (with_reducible exact spec_FormatMeasure.mono _ _)
      | (with_reducible exact LeO.refl _)
      | (with_reducible exact LeO.none _)
      | (with_reducible refine LeO.ite ?_ ?_)
      | (with_reducible refine LeO.bind ?_ (fun _ => ?_))
      | exact spec_FormatMeasure.mono _ _
      | exact LeO.none _
      | refine LeO.ite ?_ ?_
      | refine LeO.bind ?_ (fun _ => ?_)
set_option maxHeartbeats 8000000 in
set_option maxRecDepth 100000 in
theorem spec_FormatPlace.calls (k : Nat) (a0_0 : Int) (a0_1 : Int) (r : ByteArray) (w : World) (h : spec_FormatPlace.f k a0_0 a0_1 = some r) :
 Calls Tryd.prog 26 #[.agg #[.int .i64 a0_0, .int .i64 a0_1]] w fun e w' => e = .returned (.string r) ∧ Below w.heap.size w w' := by
 have hu35 := Tryd.underlying35
 have HB := qgh (Below.refl w.heap.size w)
 have H : ((spec_IsPlace.f a0_0 a0_1).bind fun t330 => (if t330 = true then ((spec_FormatMeasure.f k a0_0).bind fun t331 => (if a0_1 ≥ 0 then (if t331.size + 1 ≤ 9223372036854775807 then ((spec_FormatMeasure.f k a0_1).bind fun t332 => (if (t331 ++ (⟨#[43]⟩ : ByteArray)).size + t332.size ≤ 9223372036854775807 then (if ((t331 ++ (⟨#[43]⟩ : ByteArray)) ++ t332).size + 1 ≤ 9223372036854775807 then (some (((t331 ++ (⟨#[43]⟩ : ByteArray)) ++ t332) ++ (⟨#[105]⟩ : ByteArray))) else (none)) else (none))) else (none)) else ((spec_FormatMeasure.f k a0_1).bind fun t333 => (if t331.size + t333.size ≤ 9223372036854775807 then (if (t331 ++ t333).size + 1 ≤ 9223372036854775807 then (some ((t331 ++ t333) ++ (⟨#[105]⟩ : ByteArray))) else (none)) else (none))))) else (some (⟨#[]⟩ : ByteArray)))) = some r := h
 clear h
 replace H := Option.bind_eq_some_iff.mp H
 obtain ⟨t330, A20, H⟩ := H
 replace H : (if t330 = true then ((spec_FormatMeasure.f k a0_0).bind fun t331 => (if a0_1 ≥ 0 then (if t331.size + 1 ≤ 9223372036854775807 then ((spec_FormatMeasure.f k a0_1).bind fun t332 => (if (t331 ++ (⟨#[43]⟩ : ByteArray)).size + t332.size ≤ 9223372036854775807 then (if ((t331 ++ (⟨#[43]⟩ : ByteArray)) ++ t332).size + 1 ≤ 9223372036854775807 then (some (((t331 ++ (⟨#[43]⟩ : ByteArray)) ++ t332) ++ (⟨#[105]⟩ : ByteArray))) else (none)) else (none))) else (none)) else ((spec_FormatMeasure.f k a0_1).bind fun t333 => (if t331.size + t333.size ≤ 9223372036854775807 then (if (t331 ++ t333).size + 1 ≤ 9223372036854775807 then (some ((t331 ++ t333) ++ (⟨#[105]⟩ : ByteArray))) else (none)) else (none))))) else (some (⟨#[]⟩ : ByteArray))) = some r := H
 have A2 := qgh A20
 clear A20
 by_cases c3 : t330 = true
 ·subst c3
  have H1 : ((spec_FormatMeasure.f k a0_0).bind fun t331 => (if a0_1 ≥ 0 then (if t331.size + 1 ≤ 9223372036854775807 then ((spec_FormatMeasure.f k a0_1).bind fun t332 => (if (t331 ++ (⟨#[43]⟩ : ByteArray)).size + t332.size ≤ 9223372036854775807 then (if ((t331 ++ (⟨#[43]⟩ : ByteArray)) ++ t332).size + 1 ≤ 9223372036854775807 then (some (((t331 ++ (⟨#[43]⟩ : ByteArray)) ++ t332) ++ (⟨#[105]⟩ : ByteArray))) else (none)) else (none))) else (none)) else ((spec_FormatMeasure.f k a0_1).bind fun t333 => (if t331.size + t333.size ≤ 9223372036854775807 then (if (t331 ++ t333).size + 1 ≤ 9223372036854775807 then (some ((t331 ++ t333) ++ (⟨#[105]⟩ : ByteArray))) else (none)) else (none))))) = some r := by rw [if_pos rfl] at H; exact H
  clear H
  have H := H1
  clear H1
  replace H := Option.bind_eq_some_iff.mp H
  obtain ⟨t331, A40, H⟩ := H
  replace H : (if a0_1 ≥ 0 then (if t331.size + 1 ≤ 9223372036854775807 then ((spec_FormatMeasure.f k a0_1).bind fun t332 => (if (t331 ++ (⟨#[43]⟩ : ByteArray)).size + t332.size ≤ 9223372036854775807 then (if ((t331 ++ (⟨#[43]⟩ : ByteArray)) ++ t332).size + 1 ≤ 9223372036854775807 then (some (((t331 ++ (⟨#[43]⟩ : ByteArray)) ++ t332) ++ (⟨#[105]⟩ : ByteArray))) else (none)) else (none))) else (none)) else ((spec_FormatMeasure.f k a0_1).bind fun t333 => (if t331.size + t333.size ≤ 9223372036854775807 then (if (t331 ++ t333).size + 1 ≤ 9223372036854775807 then (some ((t331 ++ t333) ++ (⟨#[105]⟩ : ByteArray))) else (none)) else (none)))) = some r := H
  have A4 := qgh A40
  clear A40
  by_cases c5 : a0_1 ≥ 0
  ·rw [if_pos c5] at H
   have c5b0 : decide (0 ≤ a0_1) = true := decide_eq_true c5
   clear c5
   by_cases c6 : t331.size + 1 ≤ 9223372036854775807
   ·rw [if_pos c6] at H
    have c6b0 := eq_true c6
    have c6b1 : decide (t331.size + 1 ≤ 9223372036854775807) = true := decide_eq_true c6
    try have c6b2 : (9223372036854775807 < t331.size + 1) = False := eq_false (Nat.not_lt.2 c6)
    replace H := Option.bind_eq_some_iff.mp H
    obtain ⟨t332, A70, H⟩ := H
    replace H : (if (t331 ++ (⟨#[43]⟩ : ByteArray)).size + t332.size ≤ 9223372036854775807 then (if ((t331 ++ (⟨#[43]⟩ : ByteArray)) ++ t332).size + 1 ≤ 9223372036854775807 then (some (((t331 ++ (⟨#[43]⟩ : ByteArray)) ++ t332) ++ (⟨#[105]⟩ : ByteArray))) else (none)) else (none)) = some r := H
    have A7 := qgh A70
    clear A70
    by_cases c8 : (t331 ++ (⟨#[43]⟩ : ByteArray)).size + t332.size ≤ 9223372036854775807
    ·rw [if_pos c8] at H
     have c8b0 := eq_true c8
     have c8b1 : decide ((t331 ++ (⟨#[43]⟩ : ByteArray)).size + t332.size ≤ 9223372036854775807) = true := decide_eq_true c8
     try have c8b2 : (9223372036854775807 < (t331 ++ (⟨#[43]⟩ : ByteArray)).size + t332.size) = False := eq_false (Nat.not_lt.2 c8)
     have zz_c8 : t331.size + 1 + t332.size ≤ 9223372036854775807 := by have h_ := c8; (try simp only [ByteArray.size_append] at h_); first | exact h_ | (have e0_ : (⟨#[]⟩ : ByteArray).size = 0 := rfl; omega)
     have zt_c8 := eq_true zz_c8
     have zf_c8 : (9223372036854775807 < t331.size + 1 + t332.size) = False := eq_false (Nat.not_lt.2 zz_c8)
     by_cases c9 : ((t331 ++ (⟨#[43]⟩ : ByteArray)) ++ t332).size + 1 ≤ 9223372036854775807
     ·rw [if_pos c9] at H
      have c9b0 := eq_true c9
      have c9b1 : decide (((t331 ++ (⟨#[43]⟩ : ByteArray)) ++ t332).size + 1 ≤ 9223372036854775807) = true := decide_eq_true c9
      try have c9b2 : (9223372036854775807 < ((t331 ++ (⟨#[43]⟩ : ByteArray)) ++ t332).size + 1) = False := eq_false (Nat.not_lt.2 c9)
      have zz_c9 : t331.size + 1 + t332.size + 1 ≤ 9223372036854775807 := by have h_ := c9; (try simp only [ByteArray.size_append] at h_); first | exact h_ | (have e0_ : (⟨#[]⟩ : ByteArray).size = 0 := rfl; omega)
      have zt_c9 := eq_true zz_c9
      have zf_c9 : (9223372036854775807 < t331.size + 1 + t332.size + 1) = False := eq_false (Nat.not_lt.2 zz_c9)
      obtain rfl := Option.some.inj H
      go_enter Tryd.func26, Tryd.ntmps26
      go_wp2_with (first | ((with_reducible refine quh (N := 1) rfl ?_); refine qhh ?hg (N := 1) ?hd (cs := #[.int .i64 a0_0, .int .i64 a0_1]) (t := 35) ?hr ?_; (case hd => rfl); (case hg => rfl); (case hr => first | (go_simp; done) | (go_simp; rfl)); intro gb329 hg w10 hbox hb; have n0_ := qgh (q9h (by repeat (first | (with_reducible first | exact HB.out | apply q1h | apply q2h | apply q3h) | exact HB.out)) hb); have n1_ := qgh (hbox); have n2_ := qgh ((by rw [hg]; exact (qah (by repeat (first | (with_reducible first | exact HB.out | apply q1h | apply q2h | apply q3h) | exact HB.out))) : w.heap.size ≤ gb329)); have n3_ := qgh ((by rw [hg]; exact (qah (by repeat (first | (with_reducible first | exact HB.out | apply q1h | apply q2h | apply q3h) | exact HB.out))) : w.heap.size ≤ gb329)); clear HB; have HB := n0_; have BK329 := n1_; have GW329 := n2_; have GE329 := n3_; clear n0_ n1_ n2_ n3_; clear hb hbox hg; have hcz11_0 : w10.cell? ⟨gb329, 0, none⟩ = some (.int .i64 a0_0) := (qch BK329.out 0).trans rfl; have hcz11_1 : w10.cell? ⟨gb329, 1, none⟩ = some (.int .i64 a0_1) := (qch BK329.out 1).trans rfl; have hfz11_0 := qbh BK329.out 0; have hfz11_1 := qbh BK329.out 1) | ((with_reducible refine qth (f := 50) rfl ?_); refine goesL_ (some 5) rfl rfl Tryd.func50 (by kernel_rfl) rfl #[.agg #[.int .i64 a0_0, .int .i64 a0_1]] rfl (by (try simp only [List.map_toArray, List.map_cons, List.map_nil]); first | done | rfl | (simp only [List.length_drop, List.length_take]; rfl)) ?_; (with_reducible refine (spec_IsPlace.calls a0_0 a0_1 true _ A2.out).mono ?_); rintro e w12 ⟨rfl, hb⟩; refine ⟨_, rfl, ?_⟩; have n0_ := qgh (q8h (g := gb329) (o := .cells #[.int .i64 a0_0, .int .i64 a0_1] 35 (0, 0)) (by (with_reducible repeat (first | refine q5h ?_ _ | refine q6h ?_ | refine q7h ?_ _)); exact BK329.out) hb); have n1_ := qgh (q9h (by repeat (first | (with_reducible first | exact HB.out | apply q1h | apply q2h | apply q3h | refine q4h ?_ GE329.out) | exact HB.out)) hb); clear BK329; clear HB; have BK329 := n0_; have HB := n1_; clear n0_ n1_; (try clear hb); (try clear hb2); (try clear hk); (try clear hi); have hcz13_0 : w12.cell? ⟨gb329, 0, none⟩ = some (.int .i64 a0_0) := (qch BK329.out 0).trans rfl; have hcz13_1 : w12.cell? ⟨gb329, 1, none⟩ = some (.int .i64 a0_1) := (qch BK329.out 1).trans rfl; have hfz13_0 := qbh BK329.out 0; have hfz13_1 := qbh BK329.out 1) | ((with_reducible refine qth (f := 22) rfl ?_); refine goesL_ (some 9) rfl rfl Tryd.func22 (by kernel_rfl) rfl #[.int .i64 a0_0] rfl (by (try simp only [List.map_toArray, List.map_cons, List.map_nil]); first | done | rfl | (simp only [List.length_drop, List.length_take]; rfl)) ?_; (with_reducible refine (spec_FormatMeasure.calls k a0_0 t331 _ A4.out).mono ?_); rintro e w14 ⟨rfl, hb⟩; refine ⟨_, rfl, ?_⟩; have n0_ := qgh (q8h (g := gb329) (o := .cells #[.int .i64 a0_0, .int .i64 a0_1] 35 (0, 0)) (by (with_reducible repeat (first | refine q5h ?_ _ | refine q6h ?_ | refine q7h ?_ _)); exact BK329.out) hb); have n1_ := qgh (q9h (by repeat (first | (with_reducible first | exact HB.out | apply q1h | apply q2h | apply q3h | refine q4h ?_ GE329.out) | exact HB.out)) hb); clear BK329; clear HB; have BK329 := n0_; have HB := n1_; clear n0_ n1_; (try clear hb); (try clear hb2); (try clear hk); (try clear hi); have hcz15_0 : w14.cell? ⟨gb329, 0, none⟩ = some (.int .i64 a0_0) := (qch BK329.out 0).trans rfl; have hcz15_1 : w14.cell? ⟨gb329, 1, none⟩ = some (.int .i64 a0_1) := (qch BK329.out 1).trans rfl; have hfz15_0 := qbh BK329.out 0; have hfz15_1 := qbh BK329.out 1) | ((with_reducible refine qth (f := 22) rfl ?_); refine goesL_ (some 18) rfl rfl Tryd.func22 (by kernel_rfl) rfl #[.int .i64 a0_1] rfl (by (try simp only [List.map_toArray, List.map_cons, List.map_nil]); first | done | rfl | (simp only [List.length_drop, List.length_take]; rfl)) ?_; (with_reducible refine (spec_FormatMeasure.calls k a0_1 t332 _ A7.out).mono ?_); rintro e w16 ⟨rfl, hb⟩; refine ⟨_, rfl, ?_⟩; have n0_ := qgh (q8h (g := gb329) (o := .cells #[.int .i64 a0_0, .int .i64 a0_1] 35 (0, 0)) (by (with_reducible repeat (first | refine q5h ?_ _ | refine q6h ?_ | refine q7h ?_ _)); exact BK329.out) hb); have n1_ := qgh (q9h (by repeat (first | (with_reducible first | exact HB.out | apply q1h | apply q2h | apply q3h | refine q4h ?_ GE329.out) | exact HB.out)) hb); clear BK329; clear HB; have BK329 := n0_; have HB := n1_; clear n0_ n1_; (try clear hb); (try clear hb2); (try clear hk); (try clear hi)))
      go_ret
      exact ⟨by first | rfl | (simp [errW_none, errW_some] <;> rfl) | (simp [*, errW_none, errW_some] <;> rfl), by repeat (first | (with_reducible first | exact HB.out | apply q1h | apply q2h | apply q3h | refine q4h ?_ GE329.out) | exact HB.out)⟩
     ·rw [if_neg c9] at H
      exact absurd H (by simp)
    ·rw [if_neg c8] at H
     exact absurd H (by simp)
   ·rw [if_neg c6] at H
    exact absurd H (by simp)
  ·rw [if_neg c5] at H
   have c5b0 : decide (0 ≤ a0_1) = false := decide_eq_false c5
   clear c5
   replace H := Option.bind_eq_some_iff.mp H
   obtain ⟨t333, A170, H⟩ := H
   replace H : (if t331.size + t333.size ≤ 9223372036854775807 then (if (t331 ++ t333).size + 1 ≤ 9223372036854775807 then (some ((t331 ++ t333) ++ (⟨#[105]⟩ : ByteArray))) else (none)) else (none)) = some r := H
   have A17 := qgh A170
   clear A170
   by_cases c18 : t331.size + t333.size ≤ 9223372036854775807
   ·rw [if_pos c18] at H
    have c18b0 := eq_true c18
    have c18b1 : decide (t331.size + t333.size ≤ 9223372036854775807) = true := decide_eq_true c18
    try have c18b2 : (9223372036854775807 < t331.size + t333.size) = False := eq_false (Nat.not_lt.2 c18)
    by_cases c19 : (t331 ++ t333).size + 1 ≤ 9223372036854775807
    ·rw [if_pos c19] at H
     have c19b0 := eq_true c19
     have c19b1 : decide ((t331 ++ t333).size + 1 ≤ 9223372036854775807) = true := decide_eq_true c19
     try have c19b2 : (9223372036854775807 < (t331 ++ t333).size + 1) = False := eq_false (Nat.not_lt.2 c19)
     have zz_c19 : t331.size + t333.size + 1 ≤ 9223372036854775807 := by have h_ := c19; (try simp only [ByteArray.size_append] at h_); first | exact h_ | (have e0_ : (⟨#[]⟩ : ByteArray).size = 0 := rfl; omega)
     have zt_c19 := eq_true zz_c19
     have zf_c19 : (9223372036854775807 < t331.size + t333.size + 1) = False := eq_false (Nat.not_lt.2 zz_c19)
     obtain rfl := Option.some.inj H
     go_enter Tryd.func26, Tryd.ntmps26
     go_wp2_with (first | ((with_reducible refine quh (N := 1) rfl ?_); refine qhh ?hg (N := 1) ?hd (cs := #[.int .i64 a0_0, .int .i64 a0_1]) (t := 35) ?hr ?_; (case hd => rfl); (case hg => rfl); (case hr => first | (go_simp; done) | (go_simp; rfl)); intro gb329 hg w20 hbox hb; have n0_ := qgh (q9h (by repeat (first | (with_reducible first | exact HB.out | apply q1h | apply q2h | apply q3h) | exact HB.out)) hb); have n1_ := qgh (hbox); have n2_ := qgh ((by rw [hg]; exact (qah (by repeat (first | (with_reducible first | exact HB.out | apply q1h | apply q2h | apply q3h) | exact HB.out))) : w.heap.size ≤ gb329)); have n3_ := qgh ((by rw [hg]; exact (qah (by repeat (first | (with_reducible first | exact HB.out | apply q1h | apply q2h | apply q3h) | exact HB.out))) : w.heap.size ≤ gb329)); clear HB; have HB := n0_; have BK329 := n1_; have GW329 := n2_; have GE329 := n3_; clear n0_ n1_ n2_ n3_; clear hb hbox hg; have hcz21_0 : w20.cell? ⟨gb329, 0, none⟩ = some (.int .i64 a0_0) := (qch BK329.out 0).trans rfl; have hcz21_1 : w20.cell? ⟨gb329, 1, none⟩ = some (.int .i64 a0_1) := (qch BK329.out 1).trans rfl; have hfz21_0 := qbh BK329.out 0; have hfz21_1 := qbh BK329.out 1) | ((with_reducible refine qth (f := 50) rfl ?_); refine goesL_ (some 5) rfl rfl Tryd.func50 (by kernel_rfl) rfl #[.agg #[.int .i64 a0_0, .int .i64 a0_1]] rfl (by (try simp only [List.map_toArray, List.map_cons, List.map_nil]); first | done | rfl | (simp only [List.length_drop, List.length_take]; rfl)) ?_; (with_reducible refine (spec_IsPlace.calls a0_0 a0_1 true _ A2.out).mono ?_); rintro e w22 ⟨rfl, hb⟩; refine ⟨_, rfl, ?_⟩; have n0_ := qgh (q8h (g := gb329) (o := .cells #[.int .i64 a0_0, .int .i64 a0_1] 35 (0, 0)) (by (with_reducible repeat (first | refine q5h ?_ _ | refine q6h ?_ | refine q7h ?_ _)); exact BK329.out) hb); have n1_ := qgh (q9h (by repeat (first | (with_reducible first | exact HB.out | apply q1h | apply q2h | apply q3h | refine q4h ?_ GE329.out) | exact HB.out)) hb); clear BK329; clear HB; have BK329 := n0_; have HB := n1_; clear n0_ n1_; (try clear hb); (try clear hb2); (try clear hk); (try clear hi); have hcz23_0 : w22.cell? ⟨gb329, 0, none⟩ = some (.int .i64 a0_0) := (qch BK329.out 0).trans rfl; have hcz23_1 : w22.cell? ⟨gb329, 1, none⟩ = some (.int .i64 a0_1) := (qch BK329.out 1).trans rfl; have hfz23_0 := qbh BK329.out 0; have hfz23_1 := qbh BK329.out 1) | ((with_reducible refine qth (f := 22) rfl ?_); refine goesL_ (some 9) rfl rfl Tryd.func22 (by kernel_rfl) rfl #[.int .i64 a0_0] rfl (by (try simp only [List.map_toArray, List.map_cons, List.map_nil]); first | done | rfl | (simp only [List.length_drop, List.length_take]; rfl)) ?_; (with_reducible refine (spec_FormatMeasure.calls k a0_0 t331 _ A4.out).mono ?_); rintro e w24 ⟨rfl, hb⟩; refine ⟨_, rfl, ?_⟩; have n0_ := qgh (q8h (g := gb329) (o := .cells #[.int .i64 a0_0, .int .i64 a0_1] 35 (0, 0)) (by (with_reducible repeat (first | refine q5h ?_ _ | refine q6h ?_ | refine q7h ?_ _)); exact BK329.out) hb); have n1_ := qgh (q9h (by repeat (first | (with_reducible first | exact HB.out | apply q1h | apply q2h | apply q3h | refine q4h ?_ GE329.out) | exact HB.out)) hb); clear BK329; clear HB; have BK329 := n0_; have HB := n1_; clear n0_ n1_; (try clear hb); (try clear hb2); (try clear hk); (try clear hi); have hcz25_0 : w24.cell? ⟨gb329, 0, none⟩ = some (.int .i64 a0_0) := (qch BK329.out 0).trans rfl; have hcz25_1 : w24.cell? ⟨gb329, 1, none⟩ = some (.int .i64 a0_1) := (qch BK329.out 1).trans rfl; have hfz25_0 := qbh BK329.out 0; have hfz25_1 := qbh BK329.out 1) | ((with_reducible refine qth (f := 22) rfl ?_); refine goesL_ (some 18) rfl rfl Tryd.func22 (by kernel_rfl) rfl #[.int .i64 a0_1] rfl (by (try simp only [List.map_toArray, List.map_cons, List.map_nil]); first | done | rfl | (simp only [List.length_drop, List.length_take]; rfl)) ?_; (with_reducible refine (spec_FormatMeasure.calls k a0_1 t333 _ A17.out).mono ?_); rintro e w26 ⟨rfl, hb⟩; refine ⟨_, rfl, ?_⟩; have n0_ := qgh (q8h (g := gb329) (o := .cells #[.int .i64 a0_0, .int .i64 a0_1] 35 (0, 0)) (by (with_reducible repeat (first | refine q5h ?_ _ | refine q6h ?_ | refine q7h ?_ _)); exact BK329.out) hb); have n1_ := qgh (q9h (by repeat (first | (with_reducible first | exact HB.out | apply q1h | apply q2h | apply q3h | refine q4h ?_ GE329.out) | exact HB.out)) hb); clear BK329; clear HB; have BK329 := n0_; have HB := n1_; clear n0_ n1_; (try clear hb); (try clear hb2); (try clear hk); (try clear hi)))
     go_ret
     exact ⟨by first | rfl | (simp [errW_none, errW_some] <;> rfl) | (simp [*, errW_none, errW_some] <;> rfl), by repeat (first | (with_reducible first | exact HB.out | apply q1h | apply q2h | apply q3h | refine q4h ?_ GE329.out) | exact HB.out)⟩
    ·rw [if_neg c19] at H
     exact absurd H (by simp)
   ·rw [if_neg c18] at H
    exact absurd H (by simp)
 ·replace c3 := Bool.eq_false_iff.mpr c3
  subst c3
  have H1 : (some (⟨#[]⟩ : ByteArray)) = some r := by rw [if_neg (show ¬ (false = true) by decide)] at H; exact H
  clear H
  have H := H1
  clear H1
  obtain rfl := Option.some.inj H
  go_enter Tryd.func26, Tryd.ntmps26
  go_wp2_with (first | ((with_reducible refine quh (N := 1) rfl ?_); refine qhh ?hg (N := 1) ?hd (cs := #[.int .i64 a0_0, .int .i64 a0_1]) (t := 35) ?hr ?_; (case hd => rfl); (case hg => rfl); (case hr => first | (go_simp; done) | (go_simp; rfl)); intro gb329 hg w27 hbox hb; have n0_ := qgh (q9h (by repeat (first | (with_reducible first | exact HB.out | apply q1h | apply q2h | apply q3h) | exact HB.out)) hb); have n1_ := qgh (hbox); have n2_ := qgh ((by rw [hg]; exact (qah (by repeat (first | (with_reducible first | exact HB.out | apply q1h | apply q2h | apply q3h) | exact HB.out))) : w.heap.size ≤ gb329)); have n3_ := qgh ((by rw [hg]; exact (qah (by repeat (first | (with_reducible first | exact HB.out | apply q1h | apply q2h | apply q3h) | exact HB.out))) : w.heap.size ≤ gb329)); clear HB; have HB := n0_; have BK329 := n1_; have GW329 := n2_; have GE329 := n3_; clear n0_ n1_ n2_ n3_; clear hb hbox hg; have hcz28_0 : w27.cell? ⟨gb329, 0, none⟩ = some (.int .i64 a0_0) := (qch BK329.out 0).trans rfl; have hcz28_1 : w27.cell? ⟨gb329, 1, none⟩ = some (.int .i64 a0_1) := (qch BK329.out 1).trans rfl; have hfz28_0 := qbh BK329.out 0; have hfz28_1 := qbh BK329.out 1) | ((with_reducible refine qth (f := 50) rfl ?_); refine goesL_ (some 5) rfl rfl Tryd.func50 (by kernel_rfl) rfl #[.agg #[.int .i64 a0_0, .int .i64 a0_1]] rfl (by (try simp only [List.map_toArray, List.map_cons, List.map_nil]); first | done | rfl | (simp only [List.length_drop, List.length_take]; rfl)) ?_; (with_reducible refine (spec_IsPlace.calls a0_0 a0_1 false _ A2.out).mono ?_); rintro e w29 ⟨rfl, hb⟩; refine ⟨_, rfl, ?_⟩; have n0_ := qgh (q8h (g := gb329) (o := .cells #[.int .i64 a0_0, .int .i64 a0_1] 35 (0, 0)) (by (with_reducible repeat (first | refine q5h ?_ _ | refine q6h ?_ | refine q7h ?_ _)); exact BK329.out) hb); have n1_ := qgh (q9h (by repeat (first | (with_reducible first | exact HB.out | apply q1h | apply q2h | apply q3h | refine q4h ?_ GE329.out) | exact HB.out)) hb); clear BK329; clear HB; have BK329 := n0_; have HB := n1_; clear n0_ n1_; (try clear hb); (try clear hb2); (try clear hk); (try clear hi)))
  go_ret
  exact ⟨by first | rfl | (simp [errW_none, errW_some] <;> rfl) | (simp [*, errW_none, errW_some] <;> rfl), by repeat (first | (with_reducible first | exact HB.out | apply q1h | apply q2h | apply q3h | refine q4h ?_ GE329.out) | exact HB.out)⟩
/-! ### spec_FormatJet: function 32 -/
def spec_FormatJet.f (k : Nat) (a0_0 : Int) (a0_1 : Int) (a0_2 : Int) (a0_3 : Int) (a0_4 : Int) : Option (ByteArray) := (spec_IsJet.f a0_0 a0_1 a0_2 a0_3 a0_4).bind fun t335 => (if t335 = true then ((spec_FormatPlace.f k a0_0 a0_1).bind fun t336 => (if 3 + t336.size ≤ 9223372036854775807 then (if ((⟨#[97, 116, 32]⟩ : ByteArray) ++ t336).size + 9 ≤ 9223372036854775807 then ((spec_FormatNumber.f k a0_2).bind fun t337 => (if (((⟨#[97, 116, 32]⟩ : ByteArray) ++ t336) ++ (⟨#[32, 104, 101, 97, 100, 105, 110, 103, 32]⟩ : ByteArray)).size + t337.size ≤ 9223372036854775807 then (if ((((⟨#[97, 116, 32]⟩ : ByteArray) ++ t336) ++ (⟨#[32, 104, 101, 97, 100, 105, 110, 103, 32]⟩ : ByteArray)) ++ t337).size + 6 ≤ 9223372036854775807 then ((spec_FormatMeasure.f k a0_3).bind fun t338 => (if (((((⟨#[97, 116, 32]⟩ : ByteArray) ++ t336) ++ (⟨#[32, 104, 101, 97, 100, 105, 110, 103, 32]⟩ : ByteArray)) ++ t337) ++ (⟨#[32, 116, 105, 108, 116, 32]⟩ : ByteArray)).size + t338.size ≤ 9223372036854775807 then (if ((((((⟨#[97, 116, 32]⟩ : ByteArray) ++ t336) ++ (⟨#[32, 104, 101, 97, 100, 105, 110, 103, 32]⟩ : ByteArray)) ++ t337) ++ (⟨#[32, 116, 105, 108, 116, 32]⟩ : ByteArray)) ++ t338).size + 6 ≤ 9223372036854775807 then ((spec_FormatMeasure.f k a0_4).bind fun t339 => (if (((((((⟨#[97, 116, 32]⟩ : ByteArray) ++ t336) ++ (⟨#[32, 104, 101, 97, 100, 105, 110, 103, 32]⟩ : ByteArray)) ++ t337) ++ (⟨#[32, 116, 105, 108, 116, 32]⟩ : ByteArray)) ++ t338) ++ (⟨#[32, 108, 105, 102, 116, 32]⟩ : ByteArray)).size + t339.size ≤ 9223372036854775807 then (some ((((((((⟨#[97, 116, 32]⟩ : ByteArray) ++ t336) ++ (⟨#[32, 104, 101, 97, 100, 105, 110, 103, 32]⟩ : ByteArray)) ++ t337) ++ (⟨#[32, 116, 105, 108, 116, 32]⟩ : ByteArray)) ++ t338) ++ (⟨#[32, 108, 105, 102, 116, 32]⟩ : ByteArray)) ++ t339)) else (none))) else (none)) else (none))) else (none)) else (none))) else (none)) else (none))) else (some (⟨#[]⟩ : ByteArray)))
theorem spec_FormatJet.mono : ∀ a0 a1 a2 a3 a4 k, LeO (spec_FormatJet.f k a0 a1 a2 a3 a4) (spec_FormatJet.f (k + 1) a0 a1 a2 a3 a4) := by
  intro a0 a1 a2 a3 a4 k
  unfold spec_FormatJet.f
  repeat' first
      | (with_reducible exact spec_FormatMeasure.mono _ _)
      | (with_reducible exact spec_FormatNumber.mono _ _)
      | (with_reducible exact spec_FormatPlace.mono _ _ _)
      | (with_reducible exact LeO.refl _)
      | (with_reducible exact LeO.none _)
      | (with_reducible refine LeO.ite ?_ ?_)
      | (with_reducible refine LeO.bind ?_ (fun _ => ?_))
      | exact spec_FormatMeasure.mono _ _
      | exact spec_FormatNumber.mono _ _
      | exact spec_FormatPlace.mono _ _ _
      | exact LeO.none _
      | refine LeO.ite ?_ ?_
      | refine LeO.bind ?_ (fun _ => ?_)
def spec_FormatJet.T3 : Bool × List (List Nat × List Nat) := (true, [([], []), ([0], [0]), ([1], [1]), ([2], [2]), ([3], [3]), ([], []), ([5], [5]), ([6, 2], [6]), ([4, 7], [4, 7]), ([8], [8]), ([], []), ([10], [10]), ([11, 7], [11]), ([9, 12], [9, 12]), ([13], [13]), ([], []), ([15], [15]), ([16, 12], [16]), ([14, 17], [14, 17]), ([18, 17, 0, 1, 2, 3, 4, 5, 6, 7, 8, 9, 10, 11, 12, 13, 14, 15, 16, 17, 18], [18])])
def spec_FormatJet.B3 : List Nat := [0, 1, 3, 7, 15, 0, 32, 103, 255, 511, 0, 1024, 3303, 8191, 16383, 0, 32768, 105703, 262143, 524287]
theorem spec_FormatJet.tab3 : rtab .any (opsOf Tryd.f32 3) = spec_FormatJet.T3 := by kernel_rfl
theorem spec_FormatJet.bits3 : waitsOk spec_FormatJet.T3.2 spec_FormatJet.B3 = true := by kernel_rfl
set_option maxHeartbeats 8000000 in
set_option maxRecDepth 100000 in
theorem spec_FormatJet.calls (k : Nat) (a0_0 : Int) (a0_1 : Int) (a0_2 : Int) (a0_3 : Int) (a0_4 : Int) (r : ByteArray) (w : World) (h : spec_FormatJet.f k a0_0 a0_1 a0_2 a0_3 a0_4 = some r) :
 Calls Tryd.prog 32 #[.agg #[.int .i64 a0_0, .int .i64 a0_1, .int .i64 a0_2, .int .i64 a0_3, .int .i64 a0_4]] w fun e w' => e = .returned (.string r) ∧ Below w.heap.size w w' := by
 have hu45 := Tryd.underlying45
 have hu35 := Tryd.underlying35
 have HB := qgh (Below.refl w.heap.size w)
 have H : ((spec_IsJet.f a0_0 a0_1 a0_2 a0_3 a0_4).bind fun t335 => (if t335 = true then ((spec_FormatPlace.f k a0_0 a0_1).bind fun t336 => (if 3 + t336.size ≤ 9223372036854775807 then (if ((⟨#[97, 116, 32]⟩ : ByteArray) ++ t336).size + 9 ≤ 9223372036854775807 then ((spec_FormatNumber.f k a0_2).bind fun t337 => (if (((⟨#[97, 116, 32]⟩ : ByteArray) ++ t336) ++ (⟨#[32, 104, 101, 97, 100, 105, 110, 103, 32]⟩ : ByteArray)).size + t337.size ≤ 9223372036854775807 then (if ((((⟨#[97, 116, 32]⟩ : ByteArray) ++ t336) ++ (⟨#[32, 104, 101, 97, 100, 105, 110, 103, 32]⟩ : ByteArray)) ++ t337).size + 6 ≤ 9223372036854775807 then ((spec_FormatMeasure.f k a0_3).bind fun t338 => (if (((((⟨#[97, 116, 32]⟩ : ByteArray) ++ t336) ++ (⟨#[32, 104, 101, 97, 100, 105, 110, 103, 32]⟩ : ByteArray)) ++ t337) ++ (⟨#[32, 116, 105, 108, 116, 32]⟩ : ByteArray)).size + t338.size ≤ 9223372036854775807 then (if ((((((⟨#[97, 116, 32]⟩ : ByteArray) ++ t336) ++ (⟨#[32, 104, 101, 97, 100, 105, 110, 103, 32]⟩ : ByteArray)) ++ t337) ++ (⟨#[32, 116, 105, 108, 116, 32]⟩ : ByteArray)) ++ t338).size + 6 ≤ 9223372036854775807 then ((spec_FormatMeasure.f k a0_4).bind fun t339 => (if (((((((⟨#[97, 116, 32]⟩ : ByteArray) ++ t336) ++ (⟨#[32, 104, 101, 97, 100, 105, 110, 103, 32]⟩ : ByteArray)) ++ t337) ++ (⟨#[32, 116, 105, 108, 116, 32]⟩ : ByteArray)) ++ t338) ++ (⟨#[32, 108, 105, 102, 116, 32]⟩ : ByteArray)).size + t339.size ≤ 9223372036854775807 then (some ((((((((⟨#[97, 116, 32]⟩ : ByteArray) ++ t336) ++ (⟨#[32, 104, 101, 97, 100, 105, 110, 103, 32]⟩ : ByteArray)) ++ t337) ++ (⟨#[32, 116, 105, 108, 116, 32]⟩ : ByteArray)) ++ t338) ++ (⟨#[32, 108, 105, 102, 116, 32]⟩ : ByteArray)) ++ t339)) else (none))) else (none)) else (none))) else (none)) else (none))) else (none)) else (none))) else (some (⟨#[]⟩ : ByteArray)))) = some r := h
 clear h
 replace H := Option.bind_eq_some_iff.mp H
 obtain ⟨t335, A20, H⟩ := H
 replace H : (if t335 = true then ((spec_FormatPlace.f k a0_0 a0_1).bind fun t336 => (if 3 + t336.size ≤ 9223372036854775807 then (if ((⟨#[97, 116, 32]⟩ : ByteArray) ++ t336).size + 9 ≤ 9223372036854775807 then ((spec_FormatNumber.f k a0_2).bind fun t337 => (if (((⟨#[97, 116, 32]⟩ : ByteArray) ++ t336) ++ (⟨#[32, 104, 101, 97, 100, 105, 110, 103, 32]⟩ : ByteArray)).size + t337.size ≤ 9223372036854775807 then (if ((((⟨#[97, 116, 32]⟩ : ByteArray) ++ t336) ++ (⟨#[32, 104, 101, 97, 100, 105, 110, 103, 32]⟩ : ByteArray)) ++ t337).size + 6 ≤ 9223372036854775807 then ((spec_FormatMeasure.f k a0_3).bind fun t338 => (if (((((⟨#[97, 116, 32]⟩ : ByteArray) ++ t336) ++ (⟨#[32, 104, 101, 97, 100, 105, 110, 103, 32]⟩ : ByteArray)) ++ t337) ++ (⟨#[32, 116, 105, 108, 116, 32]⟩ : ByteArray)).size + t338.size ≤ 9223372036854775807 then (if ((((((⟨#[97, 116, 32]⟩ : ByteArray) ++ t336) ++ (⟨#[32, 104, 101, 97, 100, 105, 110, 103, 32]⟩ : ByteArray)) ++ t337) ++ (⟨#[32, 116, 105, 108, 116, 32]⟩ : ByteArray)) ++ t338).size + 6 ≤ 9223372036854775807 then ((spec_FormatMeasure.f k a0_4).bind fun t339 => (if (((((((⟨#[97, 116, 32]⟩ : ByteArray) ++ t336) ++ (⟨#[32, 104, 101, 97, 100, 105, 110, 103, 32]⟩ : ByteArray)) ++ t337) ++ (⟨#[32, 116, 105, 108, 116, 32]⟩ : ByteArray)) ++ t338) ++ (⟨#[32, 108, 105, 102, 116, 32]⟩ : ByteArray)).size + t339.size ≤ 9223372036854775807 then (some ((((((((⟨#[97, 116, 32]⟩ : ByteArray) ++ t336) ++ (⟨#[32, 104, 101, 97, 100, 105, 110, 103, 32]⟩ : ByteArray)) ++ t337) ++ (⟨#[32, 116, 105, 108, 116, 32]⟩ : ByteArray)) ++ t338) ++ (⟨#[32, 108, 105, 102, 116, 32]⟩ : ByteArray)) ++ t339)) else (none))) else (none)) else (none))) else (none)) else (none))) else (none)) else (none))) else (some (⟨#[]⟩ : ByteArray))) = some r := H
 have A2 := qgh A20
 clear A20
 by_cases c3 : t335 = true
 ·subst c3
  have H1 : ((spec_FormatPlace.f k a0_0 a0_1).bind fun t336 => (if 3 + t336.size ≤ 9223372036854775807 then (if ((⟨#[97, 116, 32]⟩ : ByteArray) ++ t336).size + 9 ≤ 9223372036854775807 then ((spec_FormatNumber.f k a0_2).bind fun t337 => (if (((⟨#[97, 116, 32]⟩ : ByteArray) ++ t336) ++ (⟨#[32, 104, 101, 97, 100, 105, 110, 103, 32]⟩ : ByteArray)).size + t337.size ≤ 9223372036854775807 then (if ((((⟨#[97, 116, 32]⟩ : ByteArray) ++ t336) ++ (⟨#[32, 104, 101, 97, 100, 105, 110, 103, 32]⟩ : ByteArray)) ++ t337).size + 6 ≤ 9223372036854775807 then ((spec_FormatMeasure.f k a0_3).bind fun t338 => (if (((((⟨#[97, 116, 32]⟩ : ByteArray) ++ t336) ++ (⟨#[32, 104, 101, 97, 100, 105, 110, 103, 32]⟩ : ByteArray)) ++ t337) ++ (⟨#[32, 116, 105, 108, 116, 32]⟩ : ByteArray)).size + t338.size ≤ 9223372036854775807 then (if ((((((⟨#[97, 116, 32]⟩ : ByteArray) ++ t336) ++ (⟨#[32, 104, 101, 97, 100, 105, 110, 103, 32]⟩ : ByteArray)) ++ t337) ++ (⟨#[32, 116, 105, 108, 116, 32]⟩ : ByteArray)) ++ t338).size + 6 ≤ 9223372036854775807 then ((spec_FormatMeasure.f k a0_4).bind fun t339 => (if (((((((⟨#[97, 116, 32]⟩ : ByteArray) ++ t336) ++ (⟨#[32, 104, 101, 97, 100, 105, 110, 103, 32]⟩ : ByteArray)) ++ t337) ++ (⟨#[32, 116, 105, 108, 116, 32]⟩ : ByteArray)) ++ t338) ++ (⟨#[32, 108, 105, 102, 116, 32]⟩ : ByteArray)).size + t339.size ≤ 9223372036854775807 then (some ((((((((⟨#[97, 116, 32]⟩ : ByteArray) ++ t336) ++ (⟨#[32, 104, 101, 97, 100, 105, 110, 103, 32]⟩ : ByteArray)) ++ t337) ++ (⟨#[32, 116, 105, 108, 116, 32]⟩ : ByteArray)) ++ t338) ++ (⟨#[32, 108, 105, 102, 116, 32]⟩ : ByteArray)) ++ t339)) else (none))) else (none)) else (none))) else (none)) else (none))) else (none)) else (none))) = some r := by rw [if_pos rfl] at H; exact H
  clear H
  have H := H1
  clear H1
  replace H := Option.bind_eq_some_iff.mp H
  obtain ⟨t336, A40, H⟩ := H
  replace H : (if 3 + t336.size ≤ 9223372036854775807 then (if ((⟨#[97, 116, 32]⟩ : ByteArray) ++ t336).size + 9 ≤ 9223372036854775807 then ((spec_FormatNumber.f k a0_2).bind fun t337 => (if (((⟨#[97, 116, 32]⟩ : ByteArray) ++ t336) ++ (⟨#[32, 104, 101, 97, 100, 105, 110, 103, 32]⟩ : ByteArray)).size + t337.size ≤ 9223372036854775807 then (if ((((⟨#[97, 116, 32]⟩ : ByteArray) ++ t336) ++ (⟨#[32, 104, 101, 97, 100, 105, 110, 103, 32]⟩ : ByteArray)) ++ t337).size + 6 ≤ 9223372036854775807 then ((spec_FormatMeasure.f k a0_3).bind fun t338 => (if (((((⟨#[97, 116, 32]⟩ : ByteArray) ++ t336) ++ (⟨#[32, 104, 101, 97, 100, 105, 110, 103, 32]⟩ : ByteArray)) ++ t337) ++ (⟨#[32, 116, 105, 108, 116, 32]⟩ : ByteArray)).size + t338.size ≤ 9223372036854775807 then (if ((((((⟨#[97, 116, 32]⟩ : ByteArray) ++ t336) ++ (⟨#[32, 104, 101, 97, 100, 105, 110, 103, 32]⟩ : ByteArray)) ++ t337) ++ (⟨#[32, 116, 105, 108, 116, 32]⟩ : ByteArray)) ++ t338).size + 6 ≤ 9223372036854775807 then ((spec_FormatMeasure.f k a0_4).bind fun t339 => (if (((((((⟨#[97, 116, 32]⟩ : ByteArray) ++ t336) ++ (⟨#[32, 104, 101, 97, 100, 105, 110, 103, 32]⟩ : ByteArray)) ++ t337) ++ (⟨#[32, 116, 105, 108, 116, 32]⟩ : ByteArray)) ++ t338) ++ (⟨#[32, 108, 105, 102, 116, 32]⟩ : ByteArray)).size + t339.size ≤ 9223372036854775807 then (some ((((((((⟨#[97, 116, 32]⟩ : ByteArray) ++ t336) ++ (⟨#[32, 104, 101, 97, 100, 105, 110, 103, 32]⟩ : ByteArray)) ++ t337) ++ (⟨#[32, 116, 105, 108, 116, 32]⟩ : ByteArray)) ++ t338) ++ (⟨#[32, 108, 105, 102, 116, 32]⟩ : ByteArray)) ++ t339)) else (none))) else (none)) else (none))) else (none)) else (none))) else (none)) else (none)) = some r := H
  have A4 := qgh A40
  clear A40
  by_cases c5 : 3 + t336.size ≤ 9223372036854775807
  ·rw [if_pos c5] at H
   have c5b0 := eq_true c5
   have c5b1 : decide (3 + t336.size ≤ 9223372036854775807) = true := decide_eq_true c5
   try have c5b2 : (9223372036854775807 < 3 + t336.size) = False := eq_false (Nat.not_lt.2 c5)
   by_cases c6 : ((⟨#[97, 116, 32]⟩ : ByteArray) ++ t336).size + 9 ≤ 9223372036854775807
   ·rw [if_pos c6] at H
    have c6b0 := eq_true c6
    have c6b1 : decide (((⟨#[97, 116, 32]⟩ : ByteArray) ++ t336).size + 9 ≤ 9223372036854775807) = true := decide_eq_true c6
    try have c6b2 : (9223372036854775807 < ((⟨#[97, 116, 32]⟩ : ByteArray) ++ t336).size + 9) = False := eq_false (Nat.not_lt.2 c6)
    have zz_c6 : 3 + t336.size + 9 ≤ 9223372036854775807 := by have h_ := c6; (try simp only [ByteArray.size_append] at h_); first | exact h_ | (have e0_ : (⟨#[]⟩ : ByteArray).size = 0 := rfl; omega)
    have zt_c6 := eq_true zz_c6
    have zf_c6 : (9223372036854775807 < 3 + t336.size + 9) = False := eq_false (Nat.not_lt.2 zz_c6)
    replace H := Option.bind_eq_some_iff.mp H
    obtain ⟨t337, A70, H⟩ := H
    replace H : (if (((⟨#[97, 116, 32]⟩ : ByteArray) ++ t336) ++ (⟨#[32, 104, 101, 97, 100, 105, 110, 103, 32]⟩ : ByteArray)).size + t337.size ≤ 9223372036854775807 then (if ((((⟨#[97, 116, 32]⟩ : ByteArray) ++ t336) ++ (⟨#[32, 104, 101, 97, 100, 105, 110, 103, 32]⟩ : ByteArray)) ++ t337).size + 6 ≤ 9223372036854775807 then ((spec_FormatMeasure.f k a0_3).bind fun t338 => (if (((((⟨#[97, 116, 32]⟩ : ByteArray) ++ t336) ++ (⟨#[32, 104, 101, 97, 100, 105, 110, 103, 32]⟩ : ByteArray)) ++ t337) ++ (⟨#[32, 116, 105, 108, 116, 32]⟩ : ByteArray)).size + t338.size ≤ 9223372036854775807 then (if ((((((⟨#[97, 116, 32]⟩ : ByteArray) ++ t336) ++ (⟨#[32, 104, 101, 97, 100, 105, 110, 103, 32]⟩ : ByteArray)) ++ t337) ++ (⟨#[32, 116, 105, 108, 116, 32]⟩ : ByteArray)) ++ t338).size + 6 ≤ 9223372036854775807 then ((spec_FormatMeasure.f k a0_4).bind fun t339 => (if (((((((⟨#[97, 116, 32]⟩ : ByteArray) ++ t336) ++ (⟨#[32, 104, 101, 97, 100, 105, 110, 103, 32]⟩ : ByteArray)) ++ t337) ++ (⟨#[32, 116, 105, 108, 116, 32]⟩ : ByteArray)) ++ t338) ++ (⟨#[32, 108, 105, 102, 116, 32]⟩ : ByteArray)).size + t339.size ≤ 9223372036854775807 then (some ((((((((⟨#[97, 116, 32]⟩ : ByteArray) ++ t336) ++ (⟨#[32, 104, 101, 97, 100, 105, 110, 103, 32]⟩ : ByteArray)) ++ t337) ++ (⟨#[32, 116, 105, 108, 116, 32]⟩ : ByteArray)) ++ t338) ++ (⟨#[32, 108, 105, 102, 116, 32]⟩ : ByteArray)) ++ t339)) else (none))) else (none)) else (none))) else (none)) else (none)) = some r := H
    have A7 := qgh A70
    clear A70
    by_cases c8 : (((⟨#[97, 116, 32]⟩ : ByteArray) ++ t336) ++ (⟨#[32, 104, 101, 97, 100, 105, 110, 103, 32]⟩ : ByteArray)).size + t337.size ≤ 9223372036854775807
    ·rw [if_pos c8] at H
     have c8b0 := eq_true c8
     have c8b1 : decide ((((⟨#[97, 116, 32]⟩ : ByteArray) ++ t336) ++ (⟨#[32, 104, 101, 97, 100, 105, 110, 103, 32]⟩ : ByteArray)).size + t337.size ≤ 9223372036854775807) = true := decide_eq_true c8
     try have c8b2 : (9223372036854775807 < (((⟨#[97, 116, 32]⟩ : ByteArray) ++ t336) ++ (⟨#[32, 104, 101, 97, 100, 105, 110, 103, 32]⟩ : ByteArray)).size + t337.size) = False := eq_false (Nat.not_lt.2 c8)
     have zz_c8 : 3 + t336.size + 9 + t337.size ≤ 9223372036854775807 := by have h_ := c8; (try simp only [ByteArray.size_append] at h_); first | exact h_ | (have e0_ : (⟨#[]⟩ : ByteArray).size = 0 := rfl; omega)
     have zt_c8 := eq_true zz_c8
     have zf_c8 : (9223372036854775807 < 3 + t336.size + 9 + t337.size) = False := eq_false (Nat.not_lt.2 zz_c8)
     by_cases c9 : ((((⟨#[97, 116, 32]⟩ : ByteArray) ++ t336) ++ (⟨#[32, 104, 101, 97, 100, 105, 110, 103, 32]⟩ : ByteArray)) ++ t337).size + 6 ≤ 9223372036854775807
     ·rw [if_pos c9] at H
      have c9b0 := eq_true c9
      have c9b1 : decide (((((⟨#[97, 116, 32]⟩ : ByteArray) ++ t336) ++ (⟨#[32, 104, 101, 97, 100, 105, 110, 103, 32]⟩ : ByteArray)) ++ t337).size + 6 ≤ 9223372036854775807) = true := decide_eq_true c9
      try have c9b2 : (9223372036854775807 < ((((⟨#[97, 116, 32]⟩ : ByteArray) ++ t336) ++ (⟨#[32, 104, 101, 97, 100, 105, 110, 103, 32]⟩ : ByteArray)) ++ t337).size + 6) = False := eq_false (Nat.not_lt.2 c9)
      have zz_c9 : 3 + t336.size + 9 + t337.size + 6 ≤ 9223372036854775807 := by have h_ := c9; (try simp only [ByteArray.size_append] at h_); first | exact h_ | (have e0_ : (⟨#[]⟩ : ByteArray).size = 0 := rfl; omega)
      have zt_c9 := eq_true zz_c9
      have zf_c9 : (9223372036854775807 < 3 + t336.size + 9 + t337.size + 6) = False := eq_false (Nat.not_lt.2 zz_c9)
      replace H := Option.bind_eq_some_iff.mp H
      obtain ⟨t338, A100, H⟩ := H
      replace H : (if (((((⟨#[97, 116, 32]⟩ : ByteArray) ++ t336) ++ (⟨#[32, 104, 101, 97, 100, 105, 110, 103, 32]⟩ : ByteArray)) ++ t337) ++ (⟨#[32, 116, 105, 108, 116, 32]⟩ : ByteArray)).size + t338.size ≤ 9223372036854775807 then (if ((((((⟨#[97, 116, 32]⟩ : ByteArray) ++ t336) ++ (⟨#[32, 104, 101, 97, 100, 105, 110, 103, 32]⟩ : ByteArray)) ++ t337) ++ (⟨#[32, 116, 105, 108, 116, 32]⟩ : ByteArray)) ++ t338).size + 6 ≤ 9223372036854775807 then ((spec_FormatMeasure.f k a0_4).bind fun t339 => (if (((((((⟨#[97, 116, 32]⟩ : ByteArray) ++ t336) ++ (⟨#[32, 104, 101, 97, 100, 105, 110, 103, 32]⟩ : ByteArray)) ++ t337) ++ (⟨#[32, 116, 105, 108, 116, 32]⟩ : ByteArray)) ++ t338) ++ (⟨#[32, 108, 105, 102, 116, 32]⟩ : ByteArray)).size + t339.size ≤ 9223372036854775807 then (some ((((((((⟨#[97, 116, 32]⟩ : ByteArray) ++ t336) ++ (⟨#[32, 104, 101, 97, 100, 105, 110, 103, 32]⟩ : ByteArray)) ++ t337) ++ (⟨#[32, 116, 105, 108, 116, 32]⟩ : ByteArray)) ++ t338) ++ (⟨#[32, 108, 105, 102, 116, 32]⟩ : ByteArray)) ++ t339)) else (none))) else (none)) else (none)) = some r := H
      have A10 := qgh A100
      clear A100
      by_cases c11 : (((((⟨#[97, 116, 32]⟩ : ByteArray) ++ t336) ++ (⟨#[32, 104, 101, 97, 100, 105, 110, 103, 32]⟩ : ByteArray)) ++ t337) ++ (⟨#[32, 116, 105, 108, 116, 32]⟩ : ByteArray)).size + t338.size ≤ 9223372036854775807
      ·rw [if_pos c11] at H
       have c11b0 := eq_true c11
       have c11b1 : decide ((((((⟨#[97, 116, 32]⟩ : ByteArray) ++ t336) ++ (⟨#[32, 104, 101, 97, 100, 105, 110, 103, 32]⟩ : ByteArray)) ++ t337) ++ (⟨#[32, 116, 105, 108, 116, 32]⟩ : ByteArray)).size + t338.size ≤ 9223372036854775807) = true := decide_eq_true c11
       try have c11b2 : (9223372036854775807 < (((((⟨#[97, 116, 32]⟩ : ByteArray) ++ t336) ++ (⟨#[32, 104, 101, 97, 100, 105, 110, 103, 32]⟩ : ByteArray)) ++ t337) ++ (⟨#[32, 116, 105, 108, 116, 32]⟩ : ByteArray)).size + t338.size) = False := eq_false (Nat.not_lt.2 c11)
       have zz_c11 : 3 + t336.size + 9 + t337.size + 6 + t338.size ≤ 9223372036854775807 := by have h_ := c11; (try simp only [ByteArray.size_append] at h_); first | exact h_ | (have e0_ : (⟨#[]⟩ : ByteArray).size = 0 := rfl; omega)
       have zt_c11 := eq_true zz_c11
       have zf_c11 : (9223372036854775807 < 3 + t336.size + 9 + t337.size + 6 + t338.size) = False := eq_false (Nat.not_lt.2 zz_c11)
       by_cases c12 : ((((((⟨#[97, 116, 32]⟩ : ByteArray) ++ t336) ++ (⟨#[32, 104, 101, 97, 100, 105, 110, 103, 32]⟩ : ByteArray)) ++ t337) ++ (⟨#[32, 116, 105, 108, 116, 32]⟩ : ByteArray)) ++ t338).size + 6 ≤ 9223372036854775807
       ·rw [if_pos c12] at H
        have c12b0 := eq_true c12
        have c12b1 : decide (((((((⟨#[97, 116, 32]⟩ : ByteArray) ++ t336) ++ (⟨#[32, 104, 101, 97, 100, 105, 110, 103, 32]⟩ : ByteArray)) ++ t337) ++ (⟨#[32, 116, 105, 108, 116, 32]⟩ : ByteArray)) ++ t338).size + 6 ≤ 9223372036854775807) = true := decide_eq_true c12
        try have c12b2 : (9223372036854775807 < ((((((⟨#[97, 116, 32]⟩ : ByteArray) ++ t336) ++ (⟨#[32, 104, 101, 97, 100, 105, 110, 103, 32]⟩ : ByteArray)) ++ t337) ++ (⟨#[32, 116, 105, 108, 116, 32]⟩ : ByteArray)) ++ t338).size + 6) = False := eq_false (Nat.not_lt.2 c12)
        have zz_c12 : 3 + t336.size + 9 + t337.size + 6 + t338.size + 6 ≤ 9223372036854775807 := by have h_ := c12; (try simp only [ByteArray.size_append] at h_); first | exact h_ | (have e0_ : (⟨#[]⟩ : ByteArray).size = 0 := rfl; omega)
        have zt_c12 := eq_true zz_c12
        have zf_c12 : (9223372036854775807 < 3 + t336.size + 9 + t337.size + 6 + t338.size + 6) = False := eq_false (Nat.not_lt.2 zz_c12)
        replace H := Option.bind_eq_some_iff.mp H
        obtain ⟨t339, A130, H⟩ := H
        replace H : (if (((((((⟨#[97, 116, 32]⟩ : ByteArray) ++ t336) ++ (⟨#[32, 104, 101, 97, 100, 105, 110, 103, 32]⟩ : ByteArray)) ++ t337) ++ (⟨#[32, 116, 105, 108, 116, 32]⟩ : ByteArray)) ++ t338) ++ (⟨#[32, 108, 105, 102, 116, 32]⟩ : ByteArray)).size + t339.size ≤ 9223372036854775807 then (some ((((((((⟨#[97, 116, 32]⟩ : ByteArray) ++ t336) ++ (⟨#[32, 104, 101, 97, 100, 105, 110, 103, 32]⟩ : ByteArray)) ++ t337) ++ (⟨#[32, 116, 105, 108, 116, 32]⟩ : ByteArray)) ++ t338) ++ (⟨#[32, 108, 105, 102, 116, 32]⟩ : ByteArray)) ++ t339)) else (none)) = some r := H
        have A13 := qgh A130
        clear A130
        by_cases c14 : (((((((⟨#[97, 116, 32]⟩ : ByteArray) ++ t336) ++ (⟨#[32, 104, 101, 97, 100, 105, 110, 103, 32]⟩ : ByteArray)) ++ t337) ++ (⟨#[32, 116, 105, 108, 116, 32]⟩ : ByteArray)) ++ t338) ++ (⟨#[32, 108, 105, 102, 116, 32]⟩ : ByteArray)).size + t339.size ≤ 9223372036854775807
        ·rw [if_pos c14] at H
         have c14b0 := eq_true c14
         have c14b1 : decide ((((((((⟨#[97, 116, 32]⟩ : ByteArray) ++ t336) ++ (⟨#[32, 104, 101, 97, 100, 105, 110, 103, 32]⟩ : ByteArray)) ++ t337) ++ (⟨#[32, 116, 105, 108, 116, 32]⟩ : ByteArray)) ++ t338) ++ (⟨#[32, 108, 105, 102, 116, 32]⟩ : ByteArray)).size + t339.size ≤ 9223372036854775807) = true := decide_eq_true c14
         try have c14b2 : (9223372036854775807 < (((((((⟨#[97, 116, 32]⟩ : ByteArray) ++ t336) ++ (⟨#[32, 104, 101, 97, 100, 105, 110, 103, 32]⟩ : ByteArray)) ++ t337) ++ (⟨#[32, 116, 105, 108, 116, 32]⟩ : ByteArray)) ++ t338) ++ (⟨#[32, 108, 105, 102, 116, 32]⟩ : ByteArray)).size + t339.size) = False := eq_false (Nat.not_lt.2 c14)
         have zz_c14 : 3 + t336.size + 9 + t337.size + 6 + t338.size + 6 + t339.size ≤ 9223372036854775807 := by have h_ := c14; (try simp only [ByteArray.size_append] at h_); first | exact h_ | (have e0_ : (⟨#[]⟩ : ByteArray).size = 0 := rfl; omega)
         have zt_c14 := eq_true zz_c14
         have zf_c14 : (9223372036854775807 < 3 + t336.size + 9 + t337.size + 6 + t338.size + 6 + t339.size) = False := eq_false (Nat.not_lt.2 zz_c14)
         obtain rfl := Option.some.inj H
         go_enter Tryd.func32, Tryd.ntmps32
         try go_wp2_with (first | ((with_reducible refine quh (N := 1) rfl ?_); refine qhh ?hg (N := 1) ?hd (cs := #[.int .i64 a0_0, .int .i64 a0_1, .int .i64 a0_2, .int .i64 a0_3, .int .i64 a0_4]) (t := 45) ?hr ?_; (case hd => rfl); (case hg => rfl); (case hr => first | (go_simp; done) | (go_simp; rfl)); intro gb334 hg w15 hbox hb; have n0_ := qgh (q9h (by repeat (first | (with_reducible first | exact HB.out | apply q1h | apply q2h | apply q3h) | exact HB.out)) hb); have n1_ := qgh (hbox); have n2_ := qgh ((by rw [hg]; exact (qah (by repeat (first | (with_reducible first | exact HB.out | apply q1h | apply q2h | apply q3h) | exact HB.out))) : w.heap.size ≤ gb334)); have n3_ := qgh ((by rw [hg]; exact (qah (by repeat (first | (with_reducible first | exact HB.out | apply q1h | apply q2h | apply q3h) | exact HB.out))) : w.heap.size ≤ gb334)); clear HB; have HB := n0_; have BK334 := n1_; have GW334 := n2_; have GE334 := n3_; clear n0_ n1_ n2_ n3_; clear hb hbox hg; have hcz16_0 : w15.cell? ⟨gb334, 0, none⟩ = some (.int .i64 a0_0) := (qch BK334.out 0).trans rfl; have hcz16_1 : w15.cell? ⟨gb334, 1, none⟩ = some (.int .i64 a0_1) := (qch BK334.out 1).trans rfl; have hcz16_2 : w15.cell? ⟨gb334, 2, none⟩ = some (.int .i64 a0_2) := (qch BK334.out 2).trans rfl; have hcz16_3 : w15.cell? ⟨gb334, 3, none⟩ = some (.int .i64 a0_3) := (qch BK334.out 3).trans rfl; have hcz16_4 : w15.cell? ⟨gb334, 4, none⟩ = some (.int .i64 a0_4) := (qch BK334.out 4).trans rfl; have hfz16_0 := qbh BK334.out 0; have hfz16_1 := qbh BK334.out 1; have hfz16_2 := qbh BK334.out 2; have hfz16_3 := qbh BK334.out 3; have hfz16_4 := qbh BK334.out 4) | ((with_reducible refine qth (f := 54) rfl ?_); refine goesL_ (some 4) rfl rfl Tryd.func54 (by kernel_rfl) rfl #[.agg #[.int .i64 a0_0, .int .i64 a0_1, .int .i64 a0_2, .int .i64 a0_3, .int .i64 a0_4]] rfl (by (try simp only [List.map_toArray, List.map_cons, List.map_nil]); first | done | rfl | (simp only [List.length_drop, List.length_take]; rfl)) ?_; (with_reducible refine (spec_IsJet.calls a0_0 a0_1 a0_2 a0_3 a0_4 true _ A2.out).mono ?_); rintro e w17 ⟨rfl, hb⟩; refine ⟨_, rfl, ?_⟩; have n0_ := qgh (q8h (g := gb334) (o := .cells #[.int .i64 a0_0, .int .i64 a0_1, .int .i64 a0_2, .int .i64 a0_3, .int .i64 a0_4] 45 (0, 0)) (by (with_reducible repeat (first | refine q5h ?_ _ | refine q6h ?_ | refine q7h ?_ _)); exact BK334.out) hb); have n1_ := qgh (q9h (by repeat (first | (with_reducible first | exact HB.out | apply q1h | apply q2h | apply q3h | refine q4h ?_ GE334.out) | exact HB.out)) hb); clear BK334; clear HB; have BK334 := n0_; have HB := n1_; clear n0_ n1_; (try clear hb); (try clear hb2); (try clear hk); (try clear hi)))
         have n0_ := qgh (q6h BK334.out)
         have n1_ := qgh (q3h HB.out)
         clear BK334
         clear HB
         have BK334 := n0_
         have HB := n1_
         clear n0_ n1_
         refine start_ (n := 20) (S := fun w' => w'.cell? ⟨gb334, 0, none⟩ = some (.int .i64 a0_0) ∧ w'.cell? ⟨gb334, 1, none⟩ = some (.int .i64 a0_1) ∧ w'.cell? ⟨gb334, 2, none⟩ = some (.int .i64 a0_2) ∧ w'.cell? ⟨gb334, 3, none⟩ = some (.int .i64 a0_3) ∧ w'.cell? ⟨gb334, 4, none⟩ = some (.int .i64 a0_4)) (ds := []) #[false, false, false, false, false, false, false, false, false, false, false, false, false, false, false, false, false, false, false, false] (by kernel_rfl) rfl rfl ⟨(qch BK334.out 0).trans rfl, (qch BK334.out 1).trans rfl, (qch BK334.out 2).trans rfl, (qch BK334.out 3).trans rfl, (qch BK334.out 4).trans rfl⟩ (fun hHeld => ?_); refine with_tabW spec_FormatJet.tab3 spec_FormatJet.bits3 (fun HT_ HW_ => ?_)
         generalize w17.drew = w18 at BK334 HB hHeld ⊢
         refine pure_ (i := 0) (N := some 6) (v := ?_) (a' := ?_) #[true, false, false, false, false, false, false, false, false, false, false, false, false, false, false, false, false, false, false, false] rfl rfl (any_of HT_.out (by kernel_rfl)) (fun _ _ _ h => h) (Or.inl ⟨by rfl, ?_⟩) ?_ ?_
         rotate_left
         ·intro w'
          go_simp
          with_reducible rfl
         rotate_left
         ·simp only [Act.put, p1h, p2h, p3h, i64_w, i32_w]
          rfl
         refine pure_ (i := 5) (N := some 11) (v := ?_) (a' := ?_) #[true, false, false, false, false, true, false, false, false, false, false, false, false, false, false, false, false, false, false, false] rfl rfl (any_of HT_.out (by kernel_rfl)) (fun _ _ _ h => h) (Or.inl ⟨by rfl, ?_⟩) ?_ ?_
         rotate_left
         ·intro w'
          go_simp
          with_reducible rfl
         rotate_left
         ·simp only [Act.put, p1h, p2h, p3h, i64_w, i32_w]
          rfl
         refine pure_ (i := 10) (N := some 16) (v := ?_) (a' := ?_) #[true, false, false, false, false, true, false, false, false, false, true, false, false, false, false, false, false, false, false, false] rfl rfl (any_of HT_.out (by kernel_rfl)) (fun _ _ _ h => h) (Or.inl ⟨by rfl, ?_⟩) ?_ ?_
         rotate_left
         ·intro w'
          go_simp
          with_reducible rfl
         rotate_left
         ·simp only [Act.put, p1h, p2h, p3h, i64_w, i32_w]
          rfl
         refine pure_ (i := 15) (N := some 21) (v := ?_) (a' := ?_) #[true, false, false, false, false, true, false, false, false, false, true, false, false, false, false, true, false, false, false, false] rfl rfl (any_of HT_.out (by kernel_rfl)) (fun _ _ _ h => h) (Or.inl ⟨by rfl, ?_⟩) ?_ ?_
         rotate_left
         ·intro w'
          go_simp
          with_reducible rfl
         rotate_left
         ·simp only [Act.put, p1h, p2h, p3h, i64_w, i32_w]
          rfl
         refine take_ (i := 1) (N := some 7) (v := ?_) (a' := ?_) #[true, true, false, false, false, true, false, false, false, false, true, false, false, false, false, true, false, false, false, false] rfl rfl (take_ofW HT_.out HW_.out (by kernel_rfl)) (fun _ _ _ h => h) (Or.inl ⟨by rfl, ?_⟩) hHeld ?_ ?_
         rotate_left
         ·rintro w' ⟨s0, s1, s2, s3, s4⟩
          go_simp
          with_reducible rfl
         rotate_left
         ·simp only [Act.put, p1h, p2h, p3h, i64_w, i32_w]
          rfl
         refine take_ (i := 6) (N := some 12) (v := ?_) (a' := ?_) #[true, true, false, false, false, true, true, false, false, false, true, false, false, false, false, true, false, false, false, false] rfl rfl (take_ofW HT_.out HW_.out (by kernel_rfl)) (fun _ _ _ h => h) (Or.inl ⟨by rfl, ?_⟩) hHeld ?_ ?_
         rotate_left
         ·rintro w' ⟨s0, s1, s2, s3, s4⟩
          go_simp
          with_reducible rfl
         rotate_left
         ·simp only [Act.put, p1h, p2h, p3h, i64_w, i32_w]
          rfl
         refine take_ (i := 11) (N := some 17) (v := ?_) (a' := ?_) #[true, true, false, false, false, true, true, false, false, false, true, true, false, false, false, true, false, false, false, false] rfl rfl (take_ofW HT_.out HW_.out (by kernel_rfl)) (fun _ _ _ h => h) (Or.inl ⟨by rfl, ?_⟩) hHeld ?_ ?_
         rotate_left
         ·rintro w' ⟨s0, s1, s2, s3, s4⟩
          go_simp
          with_reducible rfl
         rotate_left
         ·simp only [Act.put, p1h, p2h, p3h, i64_w, i32_w]
          rfl
         refine take_ (i := 16) (N := some 22) (v := ?_) (a' := ?_) #[true, true, false, false, false, true, true, false, false, false, true, true, false, false, false, true, true, false, false, false] rfl rfl (take_ofW HT_.out HW_.out (by kernel_rfl)) (fun _ _ _ h => h) (Or.inl ⟨by rfl, ?_⟩) hHeld ?_ ?_
         rotate_left
         ·rintro w' ⟨s0, s1, s2, s3, s4⟩
          go_simp
          with_reducible rfl
         rotate_left
         ·simp only [Act.put, p1h, p2h, p3h, i64_w, i32_w]
          rfl
         refine one_ (i := 2) (N := some 8) #[true, true, true, false, false, true, true, false, false, false, true, true, false, false, false, true, true, false, false, false] rfl rfl (one_of HT_.out (by kernel_rfl)) (by decide) (fun K hK => ?_)
         refine goes_ Tryd.func26 (by kernel_rfl) rfl #[.agg #[.int .i64 a0_0, .int .i64 a0_1]] (by rfl) rfl rfl (by (try simp only [List.map_toArray, List.map_cons, List.map_nil]); first | done | rfl | (simp only [List.length_drop, List.length_take]; rfl)) ?_
         with_reducible refine (spec_FormatPlace.calls k a0_0 a0_1 t336 _ A4.out).mono ?_
         rintro e w19 ⟨rfl, hb⟩
         refine ⟨_, rfl, ?_⟩
         have n0_ := qgh (q8h (g := gb334) (o := .cells #[.int .i64 a0_0, .int .i64 a0_1, .int .i64 a0_2, .int .i64 a0_3, .int .i64 a0_4] 45 (0, 0)) (by (with_reducible repeat (first | refine q5h ?_ _ | refine q6h ?_ | refine q7h ?_ _)); exact BK334.out) hb)
         have n1_ := qgh (q9h (by repeat (first | (with_reducible first | exact HB.out | apply q1h | apply q2h | apply q3h | refine q4h ?_ GE334.out) | exact HB.out)) hb)
         clear BK334
         clear HB
         have BK334 := n0_
         have HB := n1_
         clear n0_ n1_
         (try clear hb)
         (try clear hb2)
         (try clear hk)
         (try clear hi)
         refine hK.out _ _ ⟨(qch BK334.out 0).trans rfl, (qch BK334.out 1).trans rfl, (qch BK334.out 2).trans rfl, (qch BK334.out 3).trans rfl, (qch BK334.out 4).trans rfl⟩ (fun hHeld => ?_)
         clear hK K
         refine norm_ (a' := ?_) ?_ ?_
         rotate_left
         ·show Act.put _ (some 8) _ = _
          simp only [Act.put, p1h, p2h, p3h, i64_w, i32_w]
          rfl
         refine pure_ (i := 3) (N := some 9) (v := ?_) (a' := ?_) #[true, true, true, true, false, true, true, false, false, false, true, true, false, false, false, true, true, false, false, false] rfl rfl (any_of HT_.out (by kernel_rfl)) (fun _ _ _ h => h) (Or.inl ⟨by rfl, ?_⟩) ?_ ?_
         rotate_left
         ·intro w'
          go_simp
          with_reducible rfl
         rotate_left
         ·simp only [Act.put, p1h, p2h, p3h, i64_w, i32_w]
          rfl
         refine pure_ (i := 4) (N := some 10) (v := ?_) (a' := ?_) #[true, true, true, true, true, true, true, false, false, false, true, true, false, false, false, true, true, false, false, false] rfl rfl (any_of HT_.out (by kernel_rfl)) (fun _ _ _ h => h) (Or.inl ⟨by rfl, ?_⟩) ?_ ?_
         rotate_left
         ·intro w'
          go_simp
          with_reducible rfl
         rotate_left
         ·simp only [Act.put, p1h, p2h, p3h, i64_w, i32_w]
          rfl
         refine one_ (i := 7) (N := some 13) #[true, true, true, true, true, true, true, true, false, false, true, true, false, false, false, true, true, false, false, false] rfl rfl (one_of HT_.out (by kernel_rfl)) (by decide) (fun K hK => ?_)
         refine goes_ Tryd.func15 (by kernel_rfl) rfl #[.int .i64 a0_2] (by rfl) rfl rfl (by (try simp only [List.map_toArray, List.map_cons, List.map_nil]); first | done | rfl | (simp only [List.length_drop, List.length_take]; rfl)) ?_
         with_reducible refine (spec_FormatNumber.calls k a0_2 t337 _ A7.out).mono ?_
         rintro e w20 ⟨rfl, hb⟩
         refine ⟨_, rfl, ?_⟩
         have n0_ := qgh (q8h (g := gb334) (o := .cells #[.int .i64 a0_0, .int .i64 a0_1, .int .i64 a0_2, .int .i64 a0_3, .int .i64 a0_4] 45 (0, 0)) (by (with_reducible repeat (first | refine q5h ?_ _ | refine q6h ?_ | refine q7h ?_ _)); exact BK334.out) hb)
         have n1_ := qgh (q9h (by repeat (first | (with_reducible first | exact HB.out | apply q1h | apply q2h | apply q3h | refine q4h ?_ GE334.out) | exact HB.out)) hb)
         clear BK334
         clear HB
         have BK334 := n0_
         have HB := n1_
         clear n0_ n1_
         (try clear hb)
         (try clear hb2)
         (try clear hk)
         (try clear hi)
         refine hK.out _ _ ⟨(qch BK334.out 0).trans rfl, (qch BK334.out 1).trans rfl, (qch BK334.out 2).trans rfl, (qch BK334.out 3).trans rfl, (qch BK334.out 4).trans rfl⟩ (fun hHeld => ?_)
         clear hK K
         refine norm_ (a' := ?_) ?_ ?_
         rotate_left
         ·show Act.put _ (some 13) _ = _
          simp only [Act.put, p1h, p2h, p3h, i64_w, i32_w]
          rfl
         refine pure_ (i := 8) (N := some 14) (v := ?_) (a' := ?_) #[true, true, true, true, true, true, true, true, true, false, true, true, false, false, false, true, true, false, false, false] rfl rfl (any_of HT_.out (by kernel_rfl)) (fun _ _ _ h => h) (Or.inl ⟨by rfl, ?_⟩) ?_ ?_
         rotate_left
         ·intro w'
          go_simp
          with_reducible rfl
         rotate_left
         ·simp only [Act.put, p1h, p2h, p3h, i64_w, i32_w]
          rfl
         refine pure_ (i := 9) (N := some 15) (v := ?_) (a' := ?_) #[true, true, true, true, true, true, true, true, true, true, true, true, false, false, false, true, true, false, false, false] rfl rfl (any_of HT_.out (by kernel_rfl)) (fun _ _ _ h => h) (Or.inl ⟨by rfl, ?_⟩) ?_ ?_
         rotate_left
         ·intro w'
          go_simp
          with_reducible rfl
         rotate_left
         ·simp only [Act.put, p1h, p2h, p3h, i64_w, i32_w]
          rfl
         refine one_ (i := 12) (N := some 18) #[true, true, true, true, true, true, true, true, true, true, true, true, true, false, false, true, true, false, false, false] rfl rfl (one_of HT_.out (by kernel_rfl)) (by decide) (fun K hK => ?_)
         refine goes_ Tryd.func22 (by kernel_rfl) rfl #[.int .i64 a0_3] (by rfl) rfl rfl (by (try simp only [List.map_toArray, List.map_cons, List.map_nil]); first | done | rfl | (simp only [List.length_drop, List.length_take]; rfl)) ?_
         with_reducible refine (spec_FormatMeasure.calls k a0_3 t338 _ A10.out).mono ?_
         rintro e w21 ⟨rfl, hb⟩
         refine ⟨_, rfl, ?_⟩
         have n0_ := qgh (q8h (g := gb334) (o := .cells #[.int .i64 a0_0, .int .i64 a0_1, .int .i64 a0_2, .int .i64 a0_3, .int .i64 a0_4] 45 (0, 0)) (by (with_reducible repeat (first | refine q5h ?_ _ | refine q6h ?_ | refine q7h ?_ _)); exact BK334.out) hb)
         have n1_ := qgh (q9h (by repeat (first | (with_reducible first | exact HB.out | apply q1h | apply q2h | apply q3h | refine q4h ?_ GE334.out) | exact HB.out)) hb)
         clear BK334
         clear HB
         have BK334 := n0_
         have HB := n1_
         clear n0_ n1_
         (try clear hb)
         (try clear hb2)
         (try clear hk)
         (try clear hi)
         refine hK.out _ _ ⟨(qch BK334.out 0).trans rfl, (qch BK334.out 1).trans rfl, (qch BK334.out 2).trans rfl, (qch BK334.out 3).trans rfl, (qch BK334.out 4).trans rfl⟩ (fun hHeld => ?_)
         clear hK K
         refine norm_ (a' := ?_) ?_ ?_
         rotate_left
         ·show Act.put _ (some 18) _ = _
          simp only [Act.put, p1h, p2h, p3h, i64_w, i32_w]
          rfl
         refine pure_ (i := 13) (N := some 19) (v := ?_) (a' := ?_) #[true, true, true, true, true, true, true, true, true, true, true, true, true, true, false, true, true, false, false, false] rfl rfl (any_of HT_.out (by kernel_rfl)) (fun _ _ _ h => h) (Or.inl ⟨by rfl, ?_⟩) ?_ ?_
         rotate_left
         ·intro w'
          go_simp
          with_reducible rfl
         rotate_left
         ·simp only [Act.put, p1h, p2h, p3h, i64_w, i32_w]
          rfl
         refine pure_ (i := 14) (N := some 20) (v := ?_) (a' := ?_) #[true, true, true, true, true, true, true, true, true, true, true, true, true, true, true, true, true, false, false, false] rfl rfl (any_of HT_.out (by kernel_rfl)) (fun _ _ _ h => h) (Or.inl ⟨by rfl, ?_⟩) ?_ ?_
         rotate_left
         ·intro w'
          go_simp
          with_reducible rfl
         rotate_left
         ·simp only [Act.put, p1h, p2h, p3h, i64_w, i32_w]
          rfl
         refine one_ (i := 17) (N := some 23) #[true, true, true, true, true, true, true, true, true, true, true, true, true, true, true, true, true, true, false, false] rfl rfl (one_of HT_.out (by kernel_rfl)) (by decide) (fun K hK => ?_)
         refine goes_ Tryd.func22 (by kernel_rfl) rfl #[.int .i64 a0_4] (by rfl) rfl rfl (by (try simp only [List.map_toArray, List.map_cons, List.map_nil]); first | done | rfl | (simp only [List.length_drop, List.length_take]; rfl)) ?_
         with_reducible refine (spec_FormatMeasure.calls k a0_4 t339 _ A13.out).mono ?_
         rintro e w22 ⟨rfl, hb⟩
         refine ⟨_, rfl, ?_⟩
         have n0_ := qgh (q8h (g := gb334) (o := .cells #[.int .i64 a0_0, .int .i64 a0_1, .int .i64 a0_2, .int .i64 a0_3, .int .i64 a0_4] 45 (0, 0)) (by (with_reducible repeat (first | refine q5h ?_ _ | refine q6h ?_ | refine q7h ?_ _)); exact BK334.out) hb)
         have n1_ := qgh (q9h (by repeat (first | (with_reducible first | exact HB.out | apply q1h | apply q2h | apply q3h | refine q4h ?_ GE334.out) | exact HB.out)) hb)
         clear BK334
         clear HB
         have BK334 := n0_
         have HB := n1_
         clear n0_ n1_
         (try clear hb)
         (try clear hb2)
         (try clear hk)
         (try clear hi)
         refine hK.out _ _ ⟨(qch BK334.out 0).trans rfl, (qch BK334.out 1).trans rfl, (qch BK334.out 2).trans rfl, (qch BK334.out 3).trans rfl, (qch BK334.out 4).trans rfl⟩ (fun hHeld => ?_)
         clear hK K
         refine norm_ (a' := ?_) ?_ ?_
         rotate_left
         ·show Act.put _ (some 23) _ = _
          simp only [Act.put, p1h, p2h, p3h, i64_w, i32_w]
          rfl
         refine pure_ (i := 18) (N := some 24) (v := ?_) (a' := ?_) #[true, true, true, true, true, true, true, true, true, true, true, true, true, true, true, true, true, true, true, false] rfl rfl (any_of HT_.out (by kernel_rfl)) (fun _ _ _ h => h) (Or.inl ⟨by rfl, ?_⟩) ?_ ?_
         rotate_left
         ·intro w'
          go_simp
          with_reducible rfl
         rotate_left
         ·simp only [Act.put, p1h, p2h, p3h, i64_w, i32_w]
          rfl
         refine pure_ (i := 19) (N := some 2) (v := ?_) (a' := ?_) #[true, true, true, true, true, true, true, true, true, true, true, true, true, true, true, true, true, true, true, true] rfl rfl (any_of HT_.out (by kernel_rfl)) (fun _ _ _ h => h) (Or.inl ⟨by rfl, ?_⟩) ?_ ?_
         rotate_left
         ·intro w'
          go_simp
          with_reducible rfl
         rotate_left
         ·simp only [Act.put, p1h, p2h, p3h, i64_w, i32_w]
          rfl
         refine done_ (done_of HT_.out (by kernel_rfl)) ?_
         try go_wp2
         go_ret
         exact ⟨by first | rfl | (simp [errW_none, errW_some] <;> rfl) | (simp [*, errW_none, errW_some] <;> rfl), by repeat (first | (with_reducible first | exact HB.out | apply q1h | apply q2h | apply q3h | refine q4h ?_ GE334.out) | exact HB.out)⟩
        ·rw [if_neg c14] at H
         exact absurd H (by simp)
       ·rw [if_neg c12] at H
        exact absurd H (by simp)
      ·rw [if_neg c11] at H
       exact absurd H (by simp)
     ·rw [if_neg c9] at H
      exact absurd H (by simp)
    ·rw [if_neg c8] at H
     exact absurd H (by simp)
   ·rw [if_neg c6] at H
    exact absurd H (by simp)
  ·rw [if_neg c5] at H
   exact absurd H (by simp)
 ·replace c3 := Bool.eq_false_iff.mpr c3
  subst c3
  have H1 : (some (⟨#[]⟩ : ByteArray)) = some r := by rw [if_neg (show ¬ (false = true) by decide)] at H; exact H
  clear H
  have H := H1
  clear H1
  obtain rfl := Option.some.inj H
  go_enter Tryd.func32, Tryd.ntmps32
  go_wp2_with (first | ((with_reducible refine quh (N := 1) rfl ?_); refine qhh ?hg (N := 1) ?hd (cs := #[.int .i64 a0_0, .int .i64 a0_1, .int .i64 a0_2, .int .i64 a0_3, .int .i64 a0_4]) (t := 45) ?hr ?_; (case hd => rfl); (case hg => rfl); (case hr => first | (go_simp; done) | (go_simp; rfl)); intro gb334 hg w23 hbox hb; have n0_ := qgh (q9h (by repeat (first | (with_reducible first | exact HB.out | apply q1h | apply q2h | apply q3h) | exact HB.out)) hb); have n1_ := qgh (hbox); have n2_ := qgh ((by rw [hg]; exact (qah (by repeat (first | (with_reducible first | exact HB.out | apply q1h | apply q2h | apply q3h) | exact HB.out))) : w.heap.size ≤ gb334)); have n3_ := qgh ((by rw [hg]; exact (qah (by repeat (first | (with_reducible first | exact HB.out | apply q1h | apply q2h | apply q3h) | exact HB.out))) : w.heap.size ≤ gb334)); clear HB; have HB := n0_; have BK334 := n1_; have GW334 := n2_; have GE334 := n3_; clear n0_ n1_ n2_ n3_; clear hb hbox hg; have hcz24_0 : w23.cell? ⟨gb334, 0, none⟩ = some (.int .i64 a0_0) := (qch BK334.out 0).trans rfl; have hcz24_1 : w23.cell? ⟨gb334, 1, none⟩ = some (.int .i64 a0_1) := (qch BK334.out 1).trans rfl; have hcz24_2 : w23.cell? ⟨gb334, 2, none⟩ = some (.int .i64 a0_2) := (qch BK334.out 2).trans rfl; have hcz24_3 : w23.cell? ⟨gb334, 3, none⟩ = some (.int .i64 a0_3) := (qch BK334.out 3).trans rfl; have hcz24_4 : w23.cell? ⟨gb334, 4, none⟩ = some (.int .i64 a0_4) := (qch BK334.out 4).trans rfl; have hfz24_0 := qbh BK334.out 0; have hfz24_1 := qbh BK334.out 1; have hfz24_2 := qbh BK334.out 2; have hfz24_3 := qbh BK334.out 3; have hfz24_4 := qbh BK334.out 4) | ((with_reducible refine qth (f := 54) rfl ?_); refine goesL_ (some 4) rfl rfl Tryd.func54 (by kernel_rfl) rfl #[.agg #[.int .i64 a0_0, .int .i64 a0_1, .int .i64 a0_2, .int .i64 a0_3, .int .i64 a0_4]] rfl (by (try simp only [List.map_toArray, List.map_cons, List.map_nil]); first | done | rfl | (simp only [List.length_drop, List.length_take]; rfl)) ?_; (with_reducible refine (spec_IsJet.calls a0_0 a0_1 a0_2 a0_3 a0_4 false _ A2.out).mono ?_); rintro e w25 ⟨rfl, hb⟩; refine ⟨_, rfl, ?_⟩; have n0_ := qgh (q8h (g := gb334) (o := .cells #[.int .i64 a0_0, .int .i64 a0_1, .int .i64 a0_2, .int .i64 a0_3, .int .i64 a0_4] 45 (0, 0)) (by (with_reducible repeat (first | refine q5h ?_ _ | refine q6h ?_ | refine q7h ?_ _)); exact BK334.out) hb); have n1_ := qgh (q9h (by repeat (first | (with_reducible first | exact HB.out | apply q1h | apply q2h | apply q3h | refine q4h ?_ GE334.out) | exact HB.out)) hb); clear BK334; clear HB; have BK334 := n0_; have HB := n1_; clear n0_ n1_; (try clear hb); (try clear hb2); (try clear hk); (try clear hi)))
  go_ret
  exact ⟨by first | rfl | (simp [errW_none, errW_some] <;> rfl) | (simp [*, errW_none, errW_some] <;> rfl), by repeat (first | (with_reducible first | exact HB.out | apply q1h | apply q2h | apply q3h | refine q4h ?_ GE334.out) | exact HB.out)⟩
/-! ### spec_l1Str: function 68 -/
def spec_l1Str.f (s0_0 : List Int) (s0_1 : Int) (s0_2 : Int) (l1 : List ByteArray) : Option (ByteArray × Int × Int) := (spec_l1Below.f s0_0 s0_1 s0_2 (l1.length : Int)).bind fun bt340 => (if 0 ≤ bt340.1 then (if bt340.1 < (l1.length : Int) then (some (rdOf ByteArray.empty l1 bt340.1, bt340.2.1, bt340.2.2)) else (none)) else (none))
set_option maxHeartbeats 8000000 in
set_option maxRecDepth 100000 in
theorem spec_l1Str.calls (g : Nat) (s0_0 : List Int) (s0_1 : Int) (s0_2 : Int) (A1 : Option Addr) (c1 : Nat) (l1 : List ByteArray) (r1 : ByteArray) (r2 : Int) (r3 : Int) (w0 w : World) (hI : IsS90 w0 w g s0_0 s0_1 s0_2) (hB : Below w0.heap.size w0 w) (hr1 : Kd.C Kd.string w A1 l1.length l1) (hc1 : l1.length ≤ c1) (hf1 : ∀ ad, A1 = some ad → 0 < l1.length → ad.block ≠ g) (h : spec_l1Str.f s0_0 s0_1 s0_2 l1 = some (r1, r2, r3)) :
 Calls Tryd.prog 68 #[.pointer (some ⟨g, 0, none⟩), .slice A1 l1.length c1] w fun e w' => e = .returned (.string r1) ∧ IsS90 w0 w' g s0_0 r2 r3 ∧ Below w0.heap.size w0 w' ∧ KeepBut w w' g none := by
 have HR1 := qgh hr1
 have HC1 := qgh hc1
 clear hr1 hc1
 have HI0 := qgh hI
 have HK := qgh (KeepBut.refl w g none)
 have HL := qgh hB.size
 clear hI
 have HW0 := qgh hB.size
 have HB := qgh hB
 clear hB
 have H : ((spec_l1Below.f s0_0 s0_1 s0_2 (l1.length : Int)).bind fun bt340 => (if 0 ≤ bt340.1 then (if bt340.1 < (l1.length : Int) then (some (rdOf ByteArray.empty l1 bt340.1, bt340.2.1, bt340.2.2)) else (none)) else (none))) = some (r1, r2, r3) := h
 clear h
 replace H := Option.bind_eq_some_iff.mp H
 obtain ⟨⟨t340, t341, t342⟩, A30, H⟩ := H
 replace H : (if 0 ≤ t340 then (if t340 < (l1.length : Int) then (some (rdOf ByteArray.empty l1 t340, t341, t342)) else (none)) else (none)) = some (r1, r2, r3) := H
 have A3 := qgh A30
 clear A30
 by_cases c4 : 0 ≤ t340
 ·rw [if_pos c4] at H
  have c4b0 : decide (0 ≤ t340) = true := decide_eq_true c4
  clear c4
  by_cases c5 : t340 < (l1.length : Int)
  ·rw [if_pos c5] at H
   have c5b0 : decide (t340 < (l1.length : Int)) = true := decide_eq_true c5
   clear c5
   simp only [Option.some.injEq, Prod.mk.injEq] at H
   obtain ⟨rfl, rfl, rfl⟩ := H
   go_enter Tryd.func68, Tryd.ntmps68
   go_wp2_with (first | ((with_reducible refine qth (f := 67) rfl ?_); refine goesL_ (some 9) rfl rfl Tryd.func67 (by kernel_rfl) rfl #[.pointer (some ⟨g, 0, none⟩), .int .i64 (l1.length : Int)] rfl (by (try simp only [List.map_toArray, List.map_cons, List.map_nil]); first | done | rfl | (simp only [List.length_drop, List.length_take]; rfl)) ?_; (with_reducible refine (spec_l1Below.calls g s0_0 s0_1 s0_2 (l1.length : Int) t340 t341 t342 w0 _ ?side1 ?side2 A3.out).mono ?_); (case side1 => repeat (first | (with_reducible first | exact HI0.out | apply IsS90.alloc | apply IsS90.drewN | apply IsS90.drew | apply IsS90.set_1 | apply IsS90.set_2) | exact HI0.out)); (case side2 => repeat (first | (with_reducible first | exact HB.out | apply q1h | apply q2h | apply q3h | refine q4h ?_ (IsS90.ge HI0.out)) | exact HB.out)); rintro e w6 ⟨rfl, hi, hb, hk⟩; refine ⟨_, rfl, ?_⟩; have n0_ := qgh (KeepBut.trans (by repeat (first | (with_reducible first | exact HK.out | apply KeepBut.set_ | apply keep_drewN | apply keep_drew | apply keep_alloc) | exact HK.out)) hk (.inl rfl)); have n1_ := qgh (hb); have n2_ := qgh (hi); clear HK; clear HB; clear HI0; have HK := n0_; have HB := n1_; have HI0 := n2_; clear n0_ n1_ n2_; (try clear hb); (try clear hb2); (try clear hk); (try clear hi); have p343 : 0 ≤ (t340 : Int) := of_decide_eq_true (by first | (with_reducible assumption) | assumption); have q343 : t340 < (l1.length : Int) := of_decide_eq_true (by first | (with_reducible assumption) | assumption); obtain ⟨ad343, e343, hx343_0⟩ := Kd.at_string HR1.out t340 p343 q343; cases e343; replace hx343_0 := keep_cell HK.out hx343_0 (by first | (rw [add_block]; exact hf1 _ rfl (by omega)) | exact hf1 _ rfl (by omega) | exact hf1 ad343 rfl (by omega)); replace p343 := eq_true p343; replace q343 := eq_true q343))
   go_ret
   exact ⟨by first | rfl | (simp [errW_none, errW_some] <;> rfl) | (simp [*, errW_none, errW_some] <;> rfl), by repeat (first | (with_reducible first | exact HI0.out | apply IsS90.alloc | apply IsS90.drewN | apply IsS90.drew | apply IsS90.set_1 | apply IsS90.set_2) | exact HI0.out), by repeat (first | (with_reducible first | exact HB.out | apply q1h | apply q2h | apply q3h | refine q4h ?_ (IsS90.ge HI0.out)) | exact HB.out), by repeat (first | (with_reducible first | exact HK.out | apply KeepBut.set_ | apply keep_drewN | apply keep_drew | apply keep_alloc) | exact HK.out)⟩
  ·rw [if_neg c5] at H
   exact absurd H (by simp)
 ·rw [if_neg c4] at H
  exact absurd H (by simp)
/-! ### spec_DrawParseJet: function 55 -/
def spec_DrawParseJet.f (k : Nat) (l0 : List Int) : Option (ByteArray) := (spec_l1New.f k l0).bind fun bt344 => ((spec_l3Draw.f bt344.1 bt344.2.1 bt344.2.2).bind fun bt348 => ((spec_FormatJet.f k bt348.1 bt348.2.1 bt348.2.2.1 bt348.2.2.2.1 bt348.2.2.2.2.1).bind fun t355 => ((spec_l1Below.f bt344.1 bt348.2.2.2.2.2.1 bt348.2.2.2.2.2.2 6).bind fun bt356 => (if bt356.1 = 0 then ((spec_l1Str.f bt344.1 bt356.2.1 bt356.2.2 (([(⟨#[32]⟩ : ByteArray), (⟨#[48]⟩ : ByteArray), (⟨#[46, 53]⟩ : ByteArray), (⟨#[32, 117, 112]⟩ : ByteArray)] : List ByteArray))).bind fun bt362 => (if t355.size + bt362.1.size ≤ 9223372036854775807 then (some (t355 ++ bt362.1)) else (none))) else (if bt356.1 = 1 then ((spec_l1Str.f bt344.1 bt356.2.1 bt356.2.2 (([(⟨#[]⟩ : ByteArray), (⟨#[97, 116]⟩ : ByteArray), (⟨#[97, 116, 32, 48, 43, 48, 105, 32, 104, 101, 97, 100, 105, 110, 103, 32, 52, 32, 116, 105, 108, 116, 32, 49, 32, 108, 105, 102, 116, 32, 49]⟩ : ByteArray), (⟨#[97, 116, 32, 48, 43, 48, 105, 32, 104, 101, 97, 100, 105, 110, 103, 32, 48, 32, 116, 105, 108, 116, 32, 48, 32, 108, 105, 102, 116, 32, 48]⟩ : ByteArray), (⟨#[97, 116, 32, 48, 43, 48, 105, 32, 104, 101, 97, 100, 105, 110, 103, 32, 51, 32, 116, 105, 108, 116, 32, 48, 32, 108, 105, 102, 116, 32, 52]⟩ : ByteArray), (⟨#[97, 116, 32, 48, 43, 48, 105, 32, 104, 101, 97, 100, 105, 110, 103, 32, 51, 32, 116, 105, 108, 116, 32, 50, 46, 49, 50, 53, 32, 108, 105, 102, 116, 32, 52]⟩ : ByteArray), (⟨#[97, 116, 32, 48, 43, 48, 105, 32, 32, 104, 101, 97, 100, 105, 110, 103, 32, 51, 32, 116, 105, 108, 116, 32, 50, 32, 108, 105, 102, 116]⟩ : ByteArray), (⟨#[105, 110, 32, 48, 43, 48, 105, 32, 104, 101, 97, 100, 105, 110, 103, 32, 51, 32, 116, 105, 108, 116, 32, 50, 32, 108, 105, 102, 116, 32, 52]⟩ : ByteArray)] : List ByteArray))).bind fun bt368 => (some bt368.1)) else (some t355))))))
theorem spec_DrawParseJet.mono : ∀ a0 k, LeO (spec_DrawParseJet.f k a0) (spec_DrawParseJet.f (k + 1) a0) := by
  intro a0 k
  unfold spec_DrawParseJet.f
  repeat' first
      | (with_reducible exact spec_FormatJet.mono _ _ _ _ _ _)
      | (with_reducible exact spec_l1New.mono _ _)
      | (with_reducible exact LeO.refl _)
      | (with_reducible exact LeO.none _)
      | (with_reducible refine LeO.ite ?_ ?_)
      | (with_reducible refine LeO.bind ?_ (fun _ => ?_))
      | exact spec_FormatJet.mono _ _ _ _ _ _
      | exact spec_l1New.mono _ _
      | exact LeO.none _
      | refine LeO.ite ?_ ?_
      | refine LeO.bind ?_ (fun _ => ?_)
set_option maxHeartbeats 8000000 in
set_option maxRecDepth 100000 in
theorem spec_DrawParseJet.calls (k : Nat) (A0 : Option Addr) (c0 : Nat) (l0 : List Int) (r : ByteArray) (w : World) (hr0 : Kd.C (Kd.int .u8) w A0 l0.length l0) (hc0 : l0.length ≤ c0) (h : spec_DrawParseJet.f k l0 = some r) :
 Calls Tryd.prog 55 #[.slice A0 l0.length c0] w fun e w' => e = .returned (.string r) ∧ Below w.heap.size w w' := by
 have HR0 := qgh hr0
 have HC0 := qgh hc0
 clear hr0 hc0
 have HB := qgh (Below.refl w.heap.size w)
 have H : ((spec_l1New.f k l0).bind fun bt344 => ((spec_l3Draw.f bt344.1 bt344.2.1 bt344.2.2).bind fun bt348 => ((spec_FormatJet.f k bt348.1 bt348.2.1 bt348.2.2.1 bt348.2.2.2.1 bt348.2.2.2.2.1).bind fun t355 => ((spec_l1Below.f bt344.1 bt348.2.2.2.2.2.1 bt348.2.2.2.2.2.2 6).bind fun bt356 => (if bt356.1 = 0 then ((spec_l1Str.f bt344.1 bt356.2.1 bt356.2.2 (([(⟨#[32]⟩ : ByteArray), (⟨#[48]⟩ : ByteArray), (⟨#[46, 53]⟩ : ByteArray), (⟨#[32, 117, 112]⟩ : ByteArray)] : List ByteArray))).bind fun bt362 => (if t355.size + bt362.1.size ≤ 9223372036854775807 then (some (t355 ++ bt362.1)) else (none))) else (if bt356.1 = 1 then ((spec_l1Str.f bt344.1 bt356.2.1 bt356.2.2 (([(⟨#[]⟩ : ByteArray), (⟨#[97, 116]⟩ : ByteArray), (⟨#[97, 116, 32, 48, 43, 48, 105, 32, 104, 101, 97, 100, 105, 110, 103, 32, 52, 32, 116, 105, 108, 116, 32, 49, 32, 108, 105, 102, 116, 32, 49]⟩ : ByteArray), (⟨#[97, 116, 32, 48, 43, 48, 105, 32, 104, 101, 97, 100, 105, 110, 103, 32, 48, 32, 116, 105, 108, 116, 32, 48, 32, 108, 105, 102, 116, 32, 48]⟩ : ByteArray), (⟨#[97, 116, 32, 48, 43, 48, 105, 32, 104, 101, 97, 100, 105, 110, 103, 32, 51, 32, 116, 105, 108, 116, 32, 48, 32, 108, 105, 102, 116, 32, 52]⟩ : ByteArray), (⟨#[97, 116, 32, 48, 43, 48, 105, 32, 104, 101, 97, 100, 105, 110, 103, 32, 51, 32, 116, 105, 108, 116, 32, 50, 46, 49, 50, 53, 32, 108, 105, 102, 116, 32, 52]⟩ : ByteArray), (⟨#[97, 116, 32, 48, 43, 48, 105, 32, 32, 104, 101, 97, 100, 105, 110, 103, 32, 51, 32, 116, 105, 108, 116, 32, 50, 32, 108, 105, 102, 116]⟩ : ByteArray), (⟨#[105, 110, 32, 48, 43, 48, 105, 32, 104, 101, 97, 100, 105, 110, 103, 32, 51, 32, 116, 105, 108, 116, 32, 50, 32, 108, 105, 102, 116, 32, 52]⟩ : ByteArray)] : List ByteArray))).bind fun bt368 => (some bt368.1)) else (some t355))))))) = some r := h
 clear h
 replace H := Option.bind_eq_some_iff.mp H
 obtain ⟨⟨t344, t345, t346⟩, A20, H⟩ := H
 replace H : ((spec_l3Draw.f t344 t345 t346).bind fun bt348 => ((spec_FormatJet.f k bt348.1 bt348.2.1 bt348.2.2.1 bt348.2.2.2.1 bt348.2.2.2.2.1).bind fun t355 => ((spec_l1Below.f t344 bt348.2.2.2.2.2.1 bt348.2.2.2.2.2.2 6).bind fun bt356 => (if bt356.1 = 0 then ((spec_l1Str.f t344 bt356.2.1 bt356.2.2 (([(⟨#[32]⟩ : ByteArray), (⟨#[48]⟩ : ByteArray), (⟨#[46, 53]⟩ : ByteArray), (⟨#[32, 117, 112]⟩ : ByteArray)] : List ByteArray))).bind fun bt362 => (if t355.size + bt362.1.size ≤ 9223372036854775807 then (some (t355 ++ bt362.1)) else (none))) else (if bt356.1 = 1 then ((spec_l1Str.f t344 bt356.2.1 bt356.2.2 (([(⟨#[]⟩ : ByteArray), (⟨#[97, 116]⟩ : ByteArray), (⟨#[97, 116, 32, 48, 43, 48, 105, 32, 104, 101, 97, 100, 105, 110, 103, 32, 52, 32, 116, 105, 108, 116, 32, 49, 32, 108, 105, 102, 116, 32, 49]⟩ : ByteArray), (⟨#[97, 116, 32, 48, 43, 48, 105, 32, 104, 101, 97, 100, 105, 110, 103, 32, 48, 32, 116, 105, 108, 116, 32, 48, 32, 108, 105, 102, 116, 32, 48]⟩ : ByteArray), (⟨#[97, 116, 32, 48, 43, 48, 105, 32, 104, 101, 97, 100, 105, 110, 103, 32, 51, 32, 116, 105, 108, 116, 32, 48, 32, 108, 105, 102, 116, 32, 52]⟩ : ByteArray), (⟨#[97, 116, 32, 48, 43, 48, 105, 32, 104, 101, 97, 100, 105, 110, 103, 32, 51, 32, 116, 105, 108, 116, 32, 50, 46, 49, 50, 53, 32, 108, 105, 102, 116, 32, 52]⟩ : ByteArray), (⟨#[97, 116, 32, 48, 43, 48, 105, 32, 32, 104, 101, 97, 100, 105, 110, 103, 32, 51, 32, 116, 105, 108, 116, 32, 50, 32, 108, 105, 102, 116]⟩ : ByteArray), (⟨#[105, 110, 32, 48, 43, 48, 105, 32, 104, 101, 97, 100, 105, 110, 103, 32, 51, 32, 116, 105, 108, 116, 32, 50, 32, 108, 105, 102, 116, 32, 52]⟩ : ByteArray)] : List ByteArray))).bind fun bt368 => (some bt368.1)) else (some t355)))))) = some r := H
 have A2 := qgh A20
 clear A20
 replace H := Option.bind_eq_some_iff.mp H
 obtain ⟨⟨t348, t349, t350, t351, t352, t353, t354⟩, A30, H⟩ := H
 replace H : ((spec_FormatJet.f k t348 t349 t350 t351 t352).bind fun t355 => ((spec_l1Below.f t344 t353 t354 6).bind fun bt356 => (if bt356.1 = 0 then ((spec_l1Str.f t344 bt356.2.1 bt356.2.2 (([(⟨#[32]⟩ : ByteArray), (⟨#[48]⟩ : ByteArray), (⟨#[46, 53]⟩ : ByteArray), (⟨#[32, 117, 112]⟩ : ByteArray)] : List ByteArray))).bind fun bt362 => (if t355.size + bt362.1.size ≤ 9223372036854775807 then (some (t355 ++ bt362.1)) else (none))) else (if bt356.1 = 1 then ((spec_l1Str.f t344 bt356.2.1 bt356.2.2 (([(⟨#[]⟩ : ByteArray), (⟨#[97, 116]⟩ : ByteArray), (⟨#[97, 116, 32, 48, 43, 48, 105, 32, 104, 101, 97, 100, 105, 110, 103, 32, 52, 32, 116, 105, 108, 116, 32, 49, 32, 108, 105, 102, 116, 32, 49]⟩ : ByteArray), (⟨#[97, 116, 32, 48, 43, 48, 105, 32, 104, 101, 97, 100, 105, 110, 103, 32, 48, 32, 116, 105, 108, 116, 32, 48, 32, 108, 105, 102, 116, 32, 48]⟩ : ByteArray), (⟨#[97, 116, 32, 48, 43, 48, 105, 32, 104, 101, 97, 100, 105, 110, 103, 32, 51, 32, 116, 105, 108, 116, 32, 48, 32, 108, 105, 102, 116, 32, 52]⟩ : ByteArray), (⟨#[97, 116, 32, 48, 43, 48, 105, 32, 104, 101, 97, 100, 105, 110, 103, 32, 51, 32, 116, 105, 108, 116, 32, 50, 46, 49, 50, 53, 32, 108, 105, 102, 116, 32, 52]⟩ : ByteArray), (⟨#[97, 116, 32, 48, 43, 48, 105, 32, 32, 104, 101, 97, 100, 105, 110, 103, 32, 51, 32, 116, 105, 108, 116, 32, 50, 32, 108, 105, 102, 116]⟩ : ByteArray), (⟨#[105, 110, 32, 48, 43, 48, 105, 32, 104, 101, 97, 100, 105, 110, 103, 32, 51, 32, 116, 105, 108, 116, 32, 50, 32, 108, 105, 102, 116, 32, 52]⟩ : ByteArray)] : List ByteArray))).bind fun bt368 => (some bt368.1)) else (some t355))))) = some r := H
 have A3 := qgh A30
 clear A30
 replace H := Option.bind_eq_some_iff.mp H
 obtain ⟨t355, A40, H⟩ := H
 replace H : ((spec_l1Below.f t344 t353 t354 6).bind fun bt356 => (if bt356.1 = 0 then ((spec_l1Str.f t344 bt356.2.1 bt356.2.2 (([(⟨#[32]⟩ : ByteArray), (⟨#[48]⟩ : ByteArray), (⟨#[46, 53]⟩ : ByteArray), (⟨#[32, 117, 112]⟩ : ByteArray)] : List ByteArray))).bind fun bt362 => (if t355.size + bt362.1.size ≤ 9223372036854775807 then (some (t355 ++ bt362.1)) else (none))) else (if bt356.1 = 1 then ((spec_l1Str.f t344 bt356.2.1 bt356.2.2 (([(⟨#[]⟩ : ByteArray), (⟨#[97, 116]⟩ : ByteArray), (⟨#[97, 116, 32, 48, 43, 48, 105, 32, 104, 101, 97, 100, 105, 110, 103, 32, 52, 32, 116, 105, 108, 116, 32, 49, 32, 108, 105, 102, 116, 32, 49]⟩ : ByteArray), (⟨#[97, 116, 32, 48, 43, 48, 105, 32, 104, 101, 97, 100, 105, 110, 103, 32, 48, 32, 116, 105, 108, 116, 32, 48, 32, 108, 105, 102, 116, 32, 48]⟩ : ByteArray), (⟨#[97, 116, 32, 48, 43, 48, 105, 32, 104, 101, 97, 100, 105, 110, 103, 32, 51, 32, 116, 105, 108, 116, 32, 48, 32, 108, 105, 102, 116, 32, 52]⟩ : ByteArray), (⟨#[97, 116, 32, 48, 43, 48, 105, 32, 104, 101, 97, 100, 105, 110, 103, 32, 51, 32, 116, 105, 108, 116, 32, 50, 46, 49, 50, 53, 32, 108, 105, 102, 116, 32, 52]⟩ : ByteArray), (⟨#[97, 116, 32, 48, 43, 48, 105, 32, 32, 104, 101, 97, 100, 105, 110, 103, 32, 51, 32, 116, 105, 108, 116, 32, 50, 32, 108, 105, 102, 116]⟩ : ByteArray), (⟨#[105, 110, 32, 48, 43, 48, 105, 32, 104, 101, 97, 100, 105, 110, 103, 32, 51, 32, 116, 105, 108, 116, 32, 50, 32, 108, 105, 102, 116, 32, 52]⟩ : ByteArray)] : List ByteArray))).bind fun bt368 => (some bt368.1)) else (some t355)))) = some r := H
 have A4 := qgh A40
 clear A40
 replace H := Option.bind_eq_some_iff.mp H
 obtain ⟨⟨t356, t357, t358⟩, A50, H⟩ := H
 replace H : (if t356 = 0 then ((spec_l1Str.f t344 t357 t358 (([(⟨#[32]⟩ : ByteArray), (⟨#[48]⟩ : ByteArray), (⟨#[46, 53]⟩ : ByteArray), (⟨#[32, 117, 112]⟩ : ByteArray)] : List ByteArray))).bind fun bt362 => (if t355.size + bt362.1.size ≤ 9223372036854775807 then (some (t355 ++ bt362.1)) else (none))) else (if t356 = 1 then ((spec_l1Str.f t344 t357 t358 (([(⟨#[]⟩ : ByteArray), (⟨#[97, 116]⟩ : ByteArray), (⟨#[97, 116, 32, 48, 43, 48, 105, 32, 104, 101, 97, 100, 105, 110, 103, 32, 52, 32, 116, 105, 108, 116, 32, 49, 32, 108, 105, 102, 116, 32, 49]⟩ : ByteArray), (⟨#[97, 116, 32, 48, 43, 48, 105, 32, 104, 101, 97, 100, 105, 110, 103, 32, 48, 32, 116, 105, 108, 116, 32, 48, 32, 108, 105, 102, 116, 32, 48]⟩ : ByteArray), (⟨#[97, 116, 32, 48, 43, 48, 105, 32, 104, 101, 97, 100, 105, 110, 103, 32, 51, 32, 116, 105, 108, 116, 32, 48, 32, 108, 105, 102, 116, 32, 52]⟩ : ByteArray), (⟨#[97, 116, 32, 48, 43, 48, 105, 32, 104, 101, 97, 100, 105, 110, 103, 32, 51, 32, 116, 105, 108, 116, 32, 50, 46, 49, 50, 53, 32, 108, 105, 102, 116, 32, 52]⟩ : ByteArray), (⟨#[97, 116, 32, 48, 43, 48, 105, 32, 32, 104, 101, 97, 100, 105, 110, 103, 32, 51, 32, 116, 105, 108, 116, 32, 50, 32, 108, 105, 102, 116]⟩ : ByteArray), (⟨#[105, 110, 32, 48, 43, 48, 105, 32, 104, 101, 97, 100, 105, 110, 103, 32, 51, 32, 116, 105, 108, 116, 32, 50, 32, 108, 105, 102, 116, 32, 52]⟩ : ByteArray)] : List ByteArray))).bind fun bt368 => (some bt368.1)) else (some t355))) = some r := H
 have A5 := qgh A50
 clear A50
 by_cases c6 : t356 = 0
 ·rw [if_pos c6] at H
  have c6b0 : (t356 == 0) = true := beq_iff_eq.mpr c6
  have c6b1 : (t356 != 0) = false := bne_eq_false_iff_eq.mpr c6
  clear c6
  obtain ⟨y359, hy359⟩ : ∃ y_ : List ByteArray, y_ = (([(⟨#[32]⟩ : ByteArray), (⟨#[48]⟩ : ByteArray), (⟨#[46, 53]⟩ : ByteArray), (⟨#[32, 117, 112]⟩ : ByteArray)] : List ByteArray)) := ⟨_, rfl⟩
  replace H : ((spec_l1Str.f t344 t357 t358 y359).bind fun bt362 => (if t355.size + bt362.1.size ≤ 9223372036854775807 then (some (t355 ++ bt362.1)) else (none))) = some r := by first | (rw [hy359]; with_reducible exact H) | (have H2_ := (Option.bind_some _ _).symm.trans H; rw [hy359]; with_reducible exact H2_) | (have H2_ := (Option.bind_some _ _).symm.trans H; with_reducible exact H2_) | with_reducible exact H | (rw [hy359]; exact H) | exact H
  have Ny359 := qgh hy359
  clear hy359
  replace H := Option.bind_eq_some_iff.mp H
  obtain ⟨⟨t362, t363, t364⟩, A70, H⟩ := H
  replace H : (if t355.size + t362.size ≤ 9223372036854775807 then (some (t355 ++ t362)) else (none)) = some r := H
  have A7 := qgh A70
  clear A70
  by_cases c8 : t355.size + t362.size ≤ 9223372036854775807
  ·rw [if_pos c8] at H
   have c8b0 := eq_true c8
   have c8b1 : decide (t355.size + t362.size ≤ 9223372036854775807) = true := decide_eq_true c8
   try have c8b2 : (9223372036854775807 < t355.size + t362.size) = False := eq_false (Nat.not_lt.2 c8)
   obtain rfl := Option.some.inj H
   go_enter Tryd.func55, Tryd.ntmps55
   go_wp2_with (first | ((with_reducible refine qth (f := 64) rfl ?_); refine goesL_ (some 6) rfl rfl Tryd.func64 (by kernel_rfl) rfl #[.slice A0 l0.length c0] rfl (by (try simp only [List.map_toArray, List.map_cons, List.map_nil]); first | done | rfl | (simp only [List.length_drop, List.length_take]; rfl)) ?_; (with_reducible refine (spec_l1New.calls k _ _ l0 t344 t345 t346 w _ ?side1 ?side2 ?side3 A2.out).mono ?_); (case side1 => repeat (first | (with_reducible first | exact HB.out | apply q1h | apply q2h | apply q3h) | exact HB.out)); (case side2 => exact HR0.out); (case side3 => exact HC0.out); rintro e w9 ⟨g347, rfl, hi, hb, hb2⟩; refine ⟨_, rfl, ?_⟩; have n0_ := qgh (hb); have n1_ := qgh (hi); clear HB; have HB := n0_; have HI347 := n1_; clear n0_ n1_; (try clear hb); (try clear hb2); (try clear hk); (try clear hi)) | ((with_reducible refine qth (f := 79) rfl ?_); refine goesL_ (some 8) rfl rfl Tryd.func79 (by kernel_rfl) rfl #[.pointer (some ⟨g347, 0, none⟩)] rfl (by (try simp only [List.map_toArray, List.map_cons, List.map_nil]); first | done | rfl | (simp only [List.length_drop, List.length_take]; rfl)) ?_; (with_reducible refine (spec_l3Draw.calls g347 t344 t345 t346 t348 t349 t350 t351 t352 t353 t354 w _ ?side1 ?side2 A3.out).mono ?_); (case side1 => repeat (first | (with_reducible first | exact HI347.out | apply IsS90.alloc | apply IsS90.drewN | apply IsS90.drew | apply IsS90.set_1 | apply IsS90.set_2) | exact HI347.out)); (case side2 => repeat (first | (with_reducible first | exact HB.out | apply q1h | apply q2h | apply q3h | refine q4h ?_ (IsS90.ge HI347.out)) | exact HB.out)); rintro e w10 ⟨rfl, hi, hb, hk⟩; refine ⟨_, rfl, ?_⟩; have n0_ := qgh (hb); have n1_ := qgh (hi); clear HB; clear HI347; have HB := n0_; have HI347 := n1_; clear n0_ n1_; (try clear hb); (try clear hb2); (try clear hk); (try clear hi)) | ((with_reducible refine qth (f := 32) rfl ?_); refine goesL_ (some 9) rfl rfl Tryd.func32 (by kernel_rfl) rfl #[.agg #[.int .i64 t348, .int .i64 t349, .int .i64 t350, .int .i64 t351, .int .i64 t352]] rfl (by (try simp only [List.map_toArray, List.map_cons, List.map_nil]); first | done | rfl | (simp only [List.length_drop, List.length_take]; rfl)) ?_; (with_reducible refine (spec_FormatJet.calls k t348 t349 t350 t351 t352 t355 _ A4.out).mono ?_); rintro e w11 ⟨rfl, hb⟩; refine ⟨_, rfl, ?_⟩; have n0_ := qgh (IsS90.below (by repeat (first | (with_reducible first | exact HI347.out | apply IsS90.alloc | apply IsS90.drewN | apply IsS90.drew | apply IsS90.set_1 | apply IsS90.set_2) | exact HI347.out)) hb); have n1_ := qgh (q9h (by repeat (first | (with_reducible first | exact HB.out | apply q1h | apply q2h | apply q3h | refine q4h ?_ (IsS90.ge HI347.out)) | exact HB.out)) hb); clear HI347; clear HB; have HI347 := n0_; have HB := n1_; clear n0_ n1_; (try clear hb); (try clear hb2); (try clear hk); (try clear hi)) | ((with_reducible refine qth (f := 67) rfl ?_); refine goesL_ (some 11) rfl rfl Tryd.func67 (by kernel_rfl) rfl #[.pointer (some ⟨g347, 0, none⟩), .int .i64 6] rfl (by (try simp only [List.map_toArray, List.map_cons, List.map_nil]); first | done | rfl | (simp only [List.length_drop, List.length_take]; rfl)) ?_; (with_reducible refine (spec_l1Below.calls g347 t344 t353 t354 6 t356 t357 t358 w _ ?side1 ?side2 A5.out).mono ?_); (case side1 => repeat (first | (with_reducible first | exact HI347.out | apply IsS90.alloc | apply IsS90.drewN | apply IsS90.drew | apply IsS90.set_1 | apply IsS90.set_2) | exact HI347.out)); (case side2 => repeat (first | (with_reducible first | exact HB.out | apply q1h | apply q2h | apply q3h | refine q4h ?_ (IsS90.ge HI347.out)) | exact HB.out)); rintro e w12 ⟨rfl, hi, hb, hk⟩; refine ⟨_, rfl, ?_⟩; have n0_ := qgh (hb); have n1_ := qgh (hi); clear HB; clear HI347; have HB := n0_; have HI347 := n1_; clear n0_ n1_; (try clear hb); (try clear hb2); (try clear hk); (try clear hi)) | ((with_reducible refine quh (N := 16) rfl ?_); refine Kd.R_lit Kd.string _ 9 ?hg (N := 16) ?hd (xs := ([(⟨#[32]⟩ : ByteArray), (⟨#[48]⟩ : ByteArray), (⟨#[46, 53]⟩ : ByteArray), (⟨#[32, 117, 112]⟩ : ByteArray)] : List ByteArray)) (inner := [.string (⟨#[32]⟩ : ByteArray), .string (⟨#[48]⟩ : ByteArray), .string (⟨#[46, 53]⟩ : ByteArray), .string (⟨#[32, 117, 112]⟩ : ByteArray)]) (ok := fun _ => True) (okp := fun _ => True) ?hr ?hp (fun _ hk => hk) trivial (Below.refl _ _) (Nat.le_refl _) (by simp) ?_; (case hd => rfl); (case hg => rfl); (case hr => first | (go_simp; done) | (go_simp; rfl)); (case hp => exact (Reps.one (show Kd.M Kd.string _ _ _ (⟨#[32]⟩ : ByteArray) [.string (⟨#[32]⟩ : ByteArray)] from rfl) (Reps.one (show Kd.M Kd.string _ _ _ (⟨#[48]⟩ : ByteArray) [.string (⟨#[48]⟩ : ByteArray)] from rfl) (Reps.one (show Kd.M Kd.string _ _ _ (⟨#[46, 53]⟩ : ByteArray) [.string (⟨#[46, 53]⟩ : ByteArray)] from rfl) (Reps.one (show Kd.M Kd.string _ _ _ (⟨#[32, 117, 112]⟩ : ByteArray) [.string (⟨#[32, 117, 112]⟩ : ByteArray)] from rfl) (Reps.none _ _)))))); intro v360 w13 ho14 hb hg_ hnew_; clear hg_ hnew_; (first | rw [← Ny359.out] at ho14 | (simp only [Int.reduceToNat] at ho14; rw [← Ny359.out] at ho14)); have n0_ := qgh (Kd.R_lower ho14 (qah (by repeat (first | (with_reducible first | exact HB.out | apply q1h | apply q2h | apply q3h | refine q4h ?_ (IsS90.ge HI347.out)) | exact HB.out)))); have n1_ := qgh (IsS90.below (by repeat (first | (with_reducible first | exact HI347.out | apply IsS90.alloc | apply IsS90.drewN | apply IsS90.drew | apply IsS90.set_1 | apply IsS90.set_2) | exact HI347.out)) hb); have n2_ := qgh (q9h (by repeat (first | (with_reducible first | exact HB.out | apply q1h | apply q2h | apply q3h | refine q4h ?_ (IsS90.ge HI347.out)) | exact HB.out)) hb); clear HI347; clear HB; have HO361 := n0_; have HI347 := n1_; have HB := n2_; clear n0_ n1_ n2_; clear hb ho14; obtain ⟨Ao15, co15, eo15⟩ := Kd.R_slice HO361.out; subst eo15) | ((with_reducible refine qth (f := 68) rfl ?_); refine goesL_ (some 17) rfl rfl Tryd.func68 (by kernel_rfl) rfl #[.pointer (some ⟨g347, 0, none⟩), .slice Ao15 y359.length co15] rfl (by (try simp only [List.map_toArray, List.map_cons, List.map_nil]); first | done | rfl | (simp only [List.length_drop, List.length_take]; rfl)) ?_; (with_reducible refine (spec_l1Str.calls g347 t344 t357 t358 _ _ y359 t362 t363 t364 w _ ?side1 ?side2 ?side3 ?side4 ?side5 A7.out).mono ?_); (case side1 => repeat (first | (with_reducible first | exact HI347.out | apply IsS90.alloc | apply IsS90.drewN | apply IsS90.drew | apply IsS90.set_1 | apply IsS90.set_2) | exact HI347.out)); (case side2 => repeat (first | (with_reducible first | exact HB.out | apply q1h | apply q2h | apply q3h | refine q4h ?_ (IsS90.ge HI347.out)) | exact HB.out)); (case side3 => repeat (first | exact (Kd.R_reads' HO361.out).2.2 | (with_reducible refine qoh ?_ _) | (with_reducible refine qrh ?_ _) | (with_reducible refine qsh ?_))); (case side4 => exact (Kd.R_reads' HO361.out).2.1); (case side5 => exact far_slice (IsS90.own_ne HI347.out HO361.out (by decide))); rintro e w16 ⟨rfl, hi, hb, hk⟩; refine ⟨_, rfl, ?_⟩; have n0_ := qgh (Kd.R_mono (Kd.R_keep (IsS90.apart (show IsS90 w _ g347 t344 t357 t358 from by repeat (first | (with_reducible first | exact HI347.out | apply IsS90.alloc | apply IsS90.drewN | apply IsS90.drew | apply IsS90.set_1 | apply IsS90.set_2) | exact HI347.out)) (by (with_reducible repeat (first | apply qkh | apply qlh | apply qmh)); exact HO361.out) (by decide)) hk (fun _ h => h.2)) (fun _ h => h.1)); have n1_ := qgh (hb); have n2_ := qgh (hi); clear HO361; clear HB; clear HI347; have HO361 := n0_; have HB := n1_; have HI347 := n2_; clear n0_ n1_ n2_; (try clear hb); (try clear hb2); (try clear hk); (try clear hi)))
   go_ret
   exact ⟨by first | rfl | (simp [errW_none, errW_some] <;> rfl) | (simp [*, errW_none, errW_some] <;> rfl), by repeat (first | (with_reducible first | exact HB.out | apply q1h | apply q2h | apply q3h | refine q4h ?_ (IsS90.ge HI347.out)) | exact HB.out)⟩
  ·rw [if_neg c8] at H
   exact absurd H (by simp)
 ·rw [if_neg c6] at H
  have c6b0 : (t356 == 0) = false := beq_eq_false_iff_ne.mpr c6
  have c6b1 : (t356 != 0) = true := bne_iff_ne.mpr c6
  by_cases c17 : t356 = 1
  ·rw [if_pos c17] at H
   have c17b0 : (t356 == 1) = true := beq_iff_eq.mpr c17
   have c17b1 : (t356 != 1) = false := bne_eq_false_iff_eq.mpr c17
   clear c17
   obtain ⟨y365, hy365⟩ : ∃ y_ : List ByteArray, y_ = (([(⟨#[]⟩ : ByteArray), (⟨#[97, 116]⟩ : ByteArray), (⟨#[97, 116, 32, 48, 43, 48, 105, 32, 104, 101, 97, 100, 105, 110, 103, 32, 52, 32, 116, 105, 108, 116, 32, 49, 32, 108, 105, 102, 116, 32, 49]⟩ : ByteArray), (⟨#[97, 116, 32, 48, 43, 48, 105, 32, 104, 101, 97, 100, 105, 110, 103, 32, 48, 32, 116, 105, 108, 116, 32, 48, 32, 108, 105, 102, 116, 32, 48]⟩ : ByteArray), (⟨#[97, 116, 32, 48, 43, 48, 105, 32, 104, 101, 97, 100, 105, 110, 103, 32, 51, 32, 116, 105, 108, 116, 32, 48, 32, 108, 105, 102, 116, 32, 52]⟩ : ByteArray), (⟨#[97, 116, 32, 48, 43, 48, 105, 32, 104, 101, 97, 100, 105, 110, 103, 32, 51, 32, 116, 105, 108, 116, 32, 50, 46, 49, 50, 53, 32, 108, 105, 102, 116, 32, 52]⟩ : ByteArray), (⟨#[97, 116, 32, 48, 43, 48, 105, 32, 32, 104, 101, 97, 100, 105, 110, 103, 32, 51, 32, 116, 105, 108, 116, 32, 50, 32, 108, 105, 102, 116]⟩ : ByteArray), (⟨#[105, 110, 32, 48, 43, 48, 105, 32, 104, 101, 97, 100, 105, 110, 103, 32, 51, 32, 116, 105, 108, 116, 32, 50, 32, 108, 105, 102, 116, 32, 52]⟩ : ByteArray)] : List ByteArray)) := ⟨_, rfl⟩
   replace H : ((spec_l1Str.f t344 t357 t358 y365).bind fun bt368 => (some bt368.1)) = some r := by first | (rw [hy365]; with_reducible exact H) | (have H2_ := (Option.bind_some _ _).symm.trans H; rw [hy365]; with_reducible exact H2_) | (have H2_ := (Option.bind_some _ _).symm.trans H; with_reducible exact H2_) | with_reducible exact H | (rw [hy365]; exact H) | exact H
   have Ny365 := qgh hy365
   clear hy365
   replace H := Option.bind_eq_some_iff.mp H
   obtain ⟨⟨t368, t369, t370⟩, A180, H⟩ := H
   replace H : (some t368) = some r := H
   have A18 := qgh A180
   clear A180
   obtain rfl := Option.some.inj H
   go_enter Tryd.func55, Tryd.ntmps55
   go_wp2_with (first | ((with_reducible refine qth (f := 64) rfl ?_); refine goesL_ (some 6) rfl rfl Tryd.func64 (by kernel_rfl) rfl #[.slice A0 l0.length c0] rfl (by (try simp only [List.map_toArray, List.map_cons, List.map_nil]); first | done | rfl | (simp only [List.length_drop, List.length_take]; rfl)) ?_; (with_reducible refine (spec_l1New.calls k _ _ l0 t344 t345 t346 w _ ?side1 ?side2 ?side3 A2.out).mono ?_); (case side1 => repeat (first | (with_reducible first | exact HB.out | apply q1h | apply q2h | apply q3h) | exact HB.out)); (case side2 => exact HR0.out); (case side3 => exact HC0.out); rintro e w19 ⟨g347, rfl, hi, hb, hb2⟩; refine ⟨_, rfl, ?_⟩; have n0_ := qgh (hb); have n1_ := qgh (hi); clear HB; have HB := n0_; have HI347 := n1_; clear n0_ n1_; (try clear hb); (try clear hb2); (try clear hk); (try clear hi)) | ((with_reducible refine qth (f := 79) rfl ?_); refine goesL_ (some 8) rfl rfl Tryd.func79 (by kernel_rfl) rfl #[.pointer (some ⟨g347, 0, none⟩)] rfl (by (try simp only [List.map_toArray, List.map_cons, List.map_nil]); first | done | rfl | (simp only [List.length_drop, List.length_take]; rfl)) ?_; (with_reducible refine (spec_l3Draw.calls g347 t344 t345 t346 t348 t349 t350 t351 t352 t353 t354 w _ ?side1 ?side2 A3.out).mono ?_); (case side1 => repeat (first | (with_reducible first | exact HI347.out | apply IsS90.alloc | apply IsS90.drewN | apply IsS90.drew | apply IsS90.set_1 | apply IsS90.set_2) | exact HI347.out)); (case side2 => repeat (first | (with_reducible first | exact HB.out | apply q1h | apply q2h | apply q3h | refine q4h ?_ (IsS90.ge HI347.out)) | exact HB.out)); rintro e w20 ⟨rfl, hi, hb, hk⟩; refine ⟨_, rfl, ?_⟩; have n0_ := qgh (hb); have n1_ := qgh (hi); clear HB; clear HI347; have HB := n0_; have HI347 := n1_; clear n0_ n1_; (try clear hb); (try clear hb2); (try clear hk); (try clear hi)) | ((with_reducible refine qth (f := 32) rfl ?_); refine goesL_ (some 9) rfl rfl Tryd.func32 (by kernel_rfl) rfl #[.agg #[.int .i64 t348, .int .i64 t349, .int .i64 t350, .int .i64 t351, .int .i64 t352]] rfl (by (try simp only [List.map_toArray, List.map_cons, List.map_nil]); first | done | rfl | (simp only [List.length_drop, List.length_take]; rfl)) ?_; (with_reducible refine (spec_FormatJet.calls k t348 t349 t350 t351 t352 t355 _ A4.out).mono ?_); rintro e w21 ⟨rfl, hb⟩; refine ⟨_, rfl, ?_⟩; have n0_ := qgh (IsS90.below (by repeat (first | (with_reducible first | exact HI347.out | apply IsS90.alloc | apply IsS90.drewN | apply IsS90.drew | apply IsS90.set_1 | apply IsS90.set_2) | exact HI347.out)) hb); have n1_ := qgh (q9h (by repeat (first | (with_reducible first | exact HB.out | apply q1h | apply q2h | apply q3h | refine q4h ?_ (IsS90.ge HI347.out)) | exact HB.out)) hb); clear HI347; clear HB; have HI347 := n0_; have HB := n1_; clear n0_ n1_; (try clear hb); (try clear hb2); (try clear hk); (try clear hi)) | ((with_reducible refine qth (f := 67) rfl ?_); refine goesL_ (some 11) rfl rfl Tryd.func67 (by kernel_rfl) rfl #[.pointer (some ⟨g347, 0, none⟩), .int .i64 6] rfl (by (try simp only [List.map_toArray, List.map_cons, List.map_nil]); first | done | rfl | (simp only [List.length_drop, List.length_take]; rfl)) ?_; (with_reducible refine (spec_l1Below.calls g347 t344 t353 t354 6 t356 t357 t358 w _ ?side1 ?side2 A5.out).mono ?_); (case side1 => repeat (first | (with_reducible first | exact HI347.out | apply IsS90.alloc | apply IsS90.drewN | apply IsS90.drew | apply IsS90.set_1 | apply IsS90.set_2) | exact HI347.out)); (case side2 => repeat (first | (with_reducible first | exact HB.out | apply q1h | apply q2h | apply q3h | refine q4h ?_ (IsS90.ge HI347.out)) | exact HB.out)); rintro e w22 ⟨rfl, hi, hb, hk⟩; refine ⟨_, rfl, ?_⟩; have n0_ := qgh (hb); have n1_ := qgh (hi); clear HB; clear HI347; have HB := n0_; have HI347 := n1_; clear n0_ n1_; (try clear hb); (try clear hb2); (try clear hk); (try clear hi)) | ((with_reducible refine quh (N := 22) rfl ?_); refine Kd.R_lit Kd.string _ 9 ?hg (N := 22) ?hd (xs := ([(⟨#[]⟩ : ByteArray), (⟨#[97, 116]⟩ : ByteArray), (⟨#[97, 116, 32, 48, 43, 48, 105, 32, 104, 101, 97, 100, 105, 110, 103, 32, 52, 32, 116, 105, 108, 116, 32, 49, 32, 108, 105, 102, 116, 32, 49]⟩ : ByteArray), (⟨#[97, 116, 32, 48, 43, 48, 105, 32, 104, 101, 97, 100, 105, 110, 103, 32, 48, 32, 116, 105, 108, 116, 32, 48, 32, 108, 105, 102, 116, 32, 48]⟩ : ByteArray), (⟨#[97, 116, 32, 48, 43, 48, 105, 32, 104, 101, 97, 100, 105, 110, 103, 32, 51, 32, 116, 105, 108, 116, 32, 48, 32, 108, 105, 102, 116, 32, 52]⟩ : ByteArray), (⟨#[97, 116, 32, 48, 43, 48, 105, 32, 104, 101, 97, 100, 105, 110, 103, 32, 51, 32, 116, 105, 108, 116, 32, 50, 46, 49, 50, 53, 32, 108, 105, 102, 116, 32, 52]⟩ : ByteArray), (⟨#[97, 116, 32, 48, 43, 48, 105, 32, 32, 104, 101, 97, 100, 105, 110, 103, 32, 51, 32, 116, 105, 108, 116, 32, 50, 32, 108, 105, 102, 116]⟩ : ByteArray), (⟨#[105, 110, 32, 48, 43, 48, 105, 32, 104, 101, 97, 100, 105, 110, 103, 32, 51, 32, 116, 105, 108, 116, 32, 50, 32, 108, 105, 102, 116, 32, 52]⟩ : ByteArray)] : List ByteArray)) (inner := [.string (⟨#[]⟩ : ByteArray), .string (⟨#[97, 116]⟩ : ByteArray), .string (⟨#[97, 116, 32, 48, 43, 48, 105, 32, 104, 101, 97, 100, 105, 110, 103, 32, 52, 32, 116, 105, 108, 116, 32, 49, 32, 108, 105, 102, 116, 32, 49]⟩ : ByteArray), .string (⟨#[97, 116, 32, 48, 43, 48, 105, 32, 104, 101, 97, 100, 105, 110, 103, 32, 48, 32, 116, 105, 108, 116, 32, 48, 32, 108, 105, 102, 116, 32, 48]⟩ : ByteArray), .string (⟨#[97, 116, 32, 48, 43, 48, 105, 32, 104, 101, 97, 100, 105, 110, 103, 32, 51, 32, 116, 105, 108, 116, 32, 48, 32, 108, 105, 102, 116, 32, 52]⟩ : ByteArray), .string (⟨#[97, 116, 32, 48, 43, 48, 105, 32, 104, 101, 97, 100, 105, 110, 103, 32, 51, 32, 116, 105, 108, 116, 32, 50, 46, 49, 50, 53, 32, 108, 105, 102, 116, 32, 52]⟩ : ByteArray), .string (⟨#[97, 116, 32, 48, 43, 48, 105, 32, 32, 104, 101, 97, 100, 105, 110, 103, 32, 51, 32, 116, 105, 108, 116, 32, 50, 32, 108, 105, 102, 116]⟩ : ByteArray), .string (⟨#[105, 110, 32, 48, 43, 48, 105, 32, 104, 101, 97, 100, 105, 110, 103, 32, 51, 32, 116, 105, 108, 116, 32, 50, 32, 108, 105, 102, 116, 32, 52]⟩ : ByteArray)]) (ok := fun _ => True) (okp := fun _ => True) ?hr ?hp (fun _ hk => hk) trivial (Below.refl _ _) (Nat.le_refl _) (by simp) ?_; (case hd => rfl); (case hg => rfl); (case hr => first | (go_simp; done) | (go_simp; rfl)); (case hp => exact (Reps.one (show Kd.M Kd.string _ _ _ (⟨#[]⟩ : ByteArray) [.string (⟨#[]⟩ : ByteArray)] from rfl) (Reps.one (show Kd.M Kd.string _ _ _ (⟨#[97, 116]⟩ : ByteArray) [.string (⟨#[97, 116]⟩ : ByteArray)] from rfl) (Reps.one (show Kd.M Kd.string _ _ _ (⟨#[97, 116, 32, 48, 43, 48, 105, 32, 104, 101, 97, 100, 105, 110, 103, 32, 52, 32, 116, 105, 108, 116, 32, 49, 32, 108, 105, 102, 116, 32, 49]⟩ : ByteArray) [.string (⟨#[97, 116, 32, 48, 43, 48, 105, 32, 104, 101, 97, 100, 105, 110, 103, 32, 52, 32, 116, 105, 108, 116, 32, 49, 32, 108, 105, 102, 116, 32, 49]⟩ : ByteArray)] from rfl) (Reps.one (show Kd.M Kd.string _ _ _ (⟨#[97, 116, 32, 48, 43, 48, 105, 32, 104, 101, 97, 100, 105, 110, 103, 32, 48, 32, 116, 105, 108, 116, 32, 48, 32, 108, 105, 102, 116, 32, 48]⟩ : ByteArray) [.string (⟨#[97, 116, 32, 48, 43, 48, 105, 32, 104, 101, 97, 100, 105, 110, 103, 32, 48, 32, 116, 105, 108, 116, 32, 48, 32, 108, 105, 102, 116, 32, 48]⟩ : ByteArray)] from rfl) (Reps.one (show Kd.M Kd.string _ _ _ (⟨#[97, 116, 32, 48, 43, 48, 105, 32, 104, 101, 97, 100, 105, 110, 103, 32, 51, 32, 116, 105, 108, 116, 32, 48, 32, 108, 105, 102, 116, 32, 52]⟩ : ByteArray) [.string (⟨#[97, 116, 32, 48, 43, 48, 105, 32, 104, 101, 97, 100, 105, 110, 103, 32, 51, 32, 116, 105, 108, 116, 32, 48, 32, 108, 105, 102, 116, 32, 52]⟩ : ByteArray)] from rfl) (Reps.one (show Kd.M Kd.string _ _ _ (⟨#[97, 116, 32, 48, 43, 48, 105, 32, 104, 101, 97, 100, 105, 110, 103, 32, 51, 32, 116, 105, 108, 116, 32, 50, 46, 49, 50, 53, 32, 108, 105, 102, 116, 32, 52]⟩ : ByteArray) [.string (⟨#[97, 116, 32, 48, 43, 48, 105, 32, 104, 101, 97, 100, 105, 110, 103, 32, 51, 32, 116, 105, 108, 116, 32, 50, 46, 49, 50, 53, 32, 108, 105, 102, 116, 32, 52]⟩ : ByteArray)] from rfl) (Reps.one (show Kd.M Kd.string _ _ _ (⟨#[97, 116, 32, 48, 43, 48, 105, 32, 32, 104, 101, 97, 100, 105, 110, 103, 32, 51, 32, 116, 105, 108, 116, 32, 50, 32, 108, 105, 102, 116]⟩ : ByteArray) [.string (⟨#[97, 116, 32, 48, 43, 48, 105, 32, 32, 104, 101, 97, 100, 105, 110, 103, 32, 51, 32, 116, 105, 108, 116, 32, 50, 32, 108, 105, 102, 116]⟩ : ByteArray)] from rfl) (Reps.one (show Kd.M Kd.string _ _ _ (⟨#[105, 110, 32, 48, 43, 48, 105, 32, 104, 101, 97, 100, 105, 110, 103, 32, 51, 32, 116, 105, 108, 116, 32, 50, 32, 108, 105, 102, 116, 32, 52]⟩ : ByteArray) [.string (⟨#[105, 110, 32, 48, 43, 48, 105, 32, 104, 101, 97, 100, 105, 110, 103, 32, 51, 32, 116, 105, 108, 116, 32, 50, 32, 108, 105, 102, 116, 32, 52]⟩ : ByteArray)] from rfl) (Reps.none _ _)))))))))); intro v366 w23 ho24 hb hg_ hnew_; clear hg_ hnew_; (first | rw [← Ny365.out] at ho24 | (simp only [Int.reduceToNat] at ho24; rw [← Ny365.out] at ho24)); have n0_ := qgh (Kd.R_lower ho24 (qah (by repeat (first | (with_reducible first | exact HB.out | apply q1h | apply q2h | apply q3h | refine q4h ?_ (IsS90.ge HI347.out)) | exact HB.out)))); have n1_ := qgh (IsS90.below (by repeat (first | (with_reducible first | exact HI347.out | apply IsS90.alloc | apply IsS90.drewN | apply IsS90.drew | apply IsS90.set_1 | apply IsS90.set_2) | exact HI347.out)) hb); have n2_ := qgh (q9h (by repeat (first | (with_reducible first | exact HB.out | apply q1h | apply q2h | apply q3h | refine q4h ?_ (IsS90.ge HI347.out)) | exact HB.out)) hb); clear HI347; clear HB; have HO367 := n0_; have HI347 := n1_; have HB := n2_; clear n0_ n1_ n2_; clear hb ho24; obtain ⟨Ao25, co25, eo25⟩ := Kd.R_slice HO367.out; subst eo25) | ((with_reducible refine qth (f := 68) rfl ?_); refine goesL_ (some 23) rfl rfl Tryd.func68 (by kernel_rfl) rfl #[.pointer (some ⟨g347, 0, none⟩), .slice Ao25 y365.length co25] rfl (by (try simp only [List.map_toArray, List.map_cons, List.map_nil]); first | done | rfl | (simp only [List.length_drop, List.length_take]; rfl)) ?_; (with_reducible refine (spec_l1Str.calls g347 t344 t357 t358 _ _ y365 t368 t369 t370 w _ ?side1 ?side2 ?side3 ?side4 ?side5 A18.out).mono ?_); (case side1 => repeat (first | (with_reducible first | exact HI347.out | apply IsS90.alloc | apply IsS90.drewN | apply IsS90.drew | apply IsS90.set_1 | apply IsS90.set_2) | exact HI347.out)); (case side2 => repeat (first | (with_reducible first | exact HB.out | apply q1h | apply q2h | apply q3h | refine q4h ?_ (IsS90.ge HI347.out)) | exact HB.out)); (case side3 => repeat (first | exact (Kd.R_reads' HO367.out).2.2 | (with_reducible refine qoh ?_ _) | (with_reducible refine qrh ?_ _) | (with_reducible refine qsh ?_))); (case side4 => exact (Kd.R_reads' HO367.out).2.1); (case side5 => exact far_slice (IsS90.own_ne HI347.out HO367.out (by decide))); rintro e w26 ⟨rfl, hi, hb, hk⟩; refine ⟨_, rfl, ?_⟩; have n0_ := qgh (Kd.R_mono (Kd.R_keep (IsS90.apart (show IsS90 w _ g347 t344 t357 t358 from by repeat (first | (with_reducible first | exact HI347.out | apply IsS90.alloc | apply IsS90.drewN | apply IsS90.drew | apply IsS90.set_1 | apply IsS90.set_2) | exact HI347.out)) (by (with_reducible repeat (first | apply qkh | apply qlh | apply qmh)); exact HO367.out) (by decide)) hk (fun _ h => h.2)) (fun _ h => h.1)); have n1_ := qgh (hb); have n2_ := qgh (hi); clear HO367; clear HB; clear HI347; have HO367 := n0_; have HB := n1_; have HI347 := n2_; clear n0_ n1_ n2_; (try clear hb); (try clear hb2); (try clear hk); (try clear hi)))
   go_ret
   exact ⟨by first | rfl | (simp [errW_none, errW_some] <;> rfl) | (simp [*, errW_none, errW_some] <;> rfl), by repeat (first | (with_reducible first | exact HB.out | apply q1h | apply q2h | apply q3h | refine q4h ?_ (IsS90.ge HI347.out)) | exact HB.out)⟩
  ·rw [if_neg c17] at H
   have c17b0 : (t356 == 1) = false := beq_eq_false_iff_ne.mpr c17
   have c17b1 : (t356 != 1) = true := bne_iff_ne.mpr c17
   obtain rfl := Option.some.inj H
   go_enter Tryd.func55, Tryd.ntmps55
   go_wp2_with (first | ((with_reducible refine qth (f := 64) rfl ?_); refine goesL_ (some 6) rfl rfl Tryd.func64 (by kernel_rfl) rfl #[.slice A0 l0.length c0] rfl (by (try simp only [List.map_toArray, List.map_cons, List.map_nil]); first | done | rfl | (simp only [List.length_drop, List.length_take]; rfl)) ?_; (with_reducible refine (spec_l1New.calls k _ _ l0 t344 t345 t346 w _ ?side1 ?side2 ?side3 A2.out).mono ?_); (case side1 => repeat (first | (with_reducible first | exact HB.out | apply q1h | apply q2h | apply q3h) | exact HB.out)); (case side2 => exact HR0.out); (case side3 => exact HC0.out); rintro e w27 ⟨g347, rfl, hi, hb, hb2⟩; refine ⟨_, rfl, ?_⟩; have n0_ := qgh (hb); have n1_ := qgh (hi); clear HB; have HB := n0_; have HI347 := n1_; clear n0_ n1_; (try clear hb); (try clear hb2); (try clear hk); (try clear hi)) | ((with_reducible refine qth (f := 79) rfl ?_); refine goesL_ (some 8) rfl rfl Tryd.func79 (by kernel_rfl) rfl #[.pointer (some ⟨g347, 0, none⟩)] rfl (by (try simp only [List.map_toArray, List.map_cons, List.map_nil]); first | done | rfl | (simp only [List.length_drop, List.length_take]; rfl)) ?_; (with_reducible refine (spec_l3Draw.calls g347 t344 t345 t346 t348 t349 t350 t351 t352 t353 t354 w _ ?side1 ?side2 A3.out).mono ?_); (case side1 => repeat (first | (with_reducible first | exact HI347.out | apply IsS90.alloc | apply IsS90.drewN | apply IsS90.drew | apply IsS90.set_1 | apply IsS90.set_2) | exact HI347.out)); (case side2 => repeat (first | (with_reducible first | exact HB.out | apply q1h | apply q2h | apply q3h | refine q4h ?_ (IsS90.ge HI347.out)) | exact HB.out)); rintro e w28 ⟨rfl, hi, hb, hk⟩; refine ⟨_, rfl, ?_⟩; have n0_ := qgh (hb); have n1_ := qgh (hi); clear HB; clear HI347; have HB := n0_; have HI347 := n1_; clear n0_ n1_; (try clear hb); (try clear hb2); (try clear hk); (try clear hi)) | ((with_reducible refine qth (f := 32) rfl ?_); refine goesL_ (some 9) rfl rfl Tryd.func32 (by kernel_rfl) rfl #[.agg #[.int .i64 t348, .int .i64 t349, .int .i64 t350, .int .i64 t351, .int .i64 t352]] rfl (by (try simp only [List.map_toArray, List.map_cons, List.map_nil]); first | done | rfl | (simp only [List.length_drop, List.length_take]; rfl)) ?_; (with_reducible refine (spec_FormatJet.calls k t348 t349 t350 t351 t352 t355 _ A4.out).mono ?_); rintro e w29 ⟨rfl, hb⟩; refine ⟨_, rfl, ?_⟩; have n0_ := qgh (IsS90.below (by repeat (first | (with_reducible first | exact HI347.out | apply IsS90.alloc | apply IsS90.drewN | apply IsS90.drew | apply IsS90.set_1 | apply IsS90.set_2) | exact HI347.out)) hb); have n1_ := qgh (q9h (by repeat (first | (with_reducible first | exact HB.out | apply q1h | apply q2h | apply q3h | refine q4h ?_ (IsS90.ge HI347.out)) | exact HB.out)) hb); clear HI347; clear HB; have HI347 := n0_; have HB := n1_; clear n0_ n1_; (try clear hb); (try clear hb2); (try clear hk); (try clear hi)) | ((with_reducible refine qth (f := 67) rfl ?_); refine goesL_ (some 11) rfl rfl Tryd.func67 (by kernel_rfl) rfl #[.pointer (some ⟨g347, 0, none⟩), .int .i64 6] rfl (by (try simp only [List.map_toArray, List.map_cons, List.map_nil]); first | done | rfl | (simp only [List.length_drop, List.length_take]; rfl)) ?_; (with_reducible refine (spec_l1Below.calls g347 t344 t353 t354 6 t356 t357 t358 w _ ?side1 ?side2 A5.out).mono ?_); (case side1 => repeat (first | (with_reducible first | exact HI347.out | apply IsS90.alloc | apply IsS90.drewN | apply IsS90.drew | apply IsS90.set_1 | apply IsS90.set_2) | exact HI347.out)); (case side2 => repeat (first | (with_reducible first | exact HB.out | apply q1h | apply q2h | apply q3h | refine q4h ?_ (IsS90.ge HI347.out)) | exact HB.out)); rintro e w30 ⟨rfl, hi, hb, hk⟩; refine ⟨_, rfl, ?_⟩; have n0_ := qgh (hb); have n1_ := qgh (hi); clear HB; clear HI347; have HB := n0_; have HI347 := n1_; clear n0_ n1_; (try clear hb); (try clear hb2); (try clear hk); (try clear hi)))
   go_ret
   exact ⟨by first | rfl | (simp [errW_none, errW_some] <;> rfl) | (simp [*, errW_none, errW_some] <;> rfl), by repeat (first | (with_reducible first | exact HB.out | apply q1h | apply q2h | apply q3h | refine q4h ?_ (IsS90.ge HI347.out)) | exact HB.out)⟩
end Go.Proofs.YtcnkfnkdcjpkoaaDoor.PFnJetText
