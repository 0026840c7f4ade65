/- Plain functions and walks of the law FnJetText: each function answers as its plain function does. No condition beside. Printed by a changed copy of the print (wip/tools/inject.py). -/
import Derived.Test.YtcnkfnkdcjpkoaaDoorIFnJetTextx0
namespace Go.Proofs.YtcnkfnkdcjpkoaaDoor.PFnJetText
open Go.RowKit Go.Proofs.YtcnkfnkdcjpkoaaDoorV Go.Proofs.YtcnkfnkdcjpkoaaDoorW.PrintWords Go.Proofs.YtcnkfnkdcjpkoaaDoorW.PrintLast Go.Proofs.YtcnkfnkdcjpkoaaDoorW.PrintMore
attribute [local go_sem] max2_int min2_int max_two min_two max_three min_three max_four min_four   -- for this text's walks alone
set_option linter.unusedVariables false
set_option linter.unusedSimpArgs false

theorem p1g : type_of% @List.setIfInBounds_toArray := @List.setIfInBounds_toArray
theorem p2g : type_of% @List.set_cons_zero := @List.set_cons_zero
theorem p3g : type_of% @List.set_cons_succ := @List.set_cons_succ
theorem q1g : type_of% @below_alloc := @below_alloc
theorem q2g : type_of% @pw_below_drewN := @pw_below_drewN
theorem q3g : type_of% @below_drew1 := @below_drew1
theorem q4g : type_of% @below_set := @below_set
theorem q9g : type_of% @below_step := @below_step
theorem qag : type_of% @below_size := @below_size
theorem qbg : type_of% @blk_frozen := @blk_frozen
theorem qcg : type_of% @blk_cell := @blk_cell
theorem qgg : type_of% @Aside0.mk := @Aside0.mk
theorem qhg : type_of% @box_event := @box_event
theorem qjg : type_of% @Kd.R_below := @Kd.R_below
theorem qkg : type_of% @Kd.R_alloc := @Kd.R_alloc
theorem qlg : type_of% @Kd.R_drewN := @Kd.R_drewN
theorem qmg : type_of% @Kd.R_drew := @Kd.R_drew
theorem qtg : type_of% @gate_callee := @gate_callee
theorem qug : type_of% @gate_dst := @gate_dst
/-! ### spec_l1In: function 77 -/
def spec_l1In.f (a0 : Int) (a1 : Int) (a2 : Int) : Option (Bool) := if a0 ≥ a1 then (some (decide (a0 ≤ a2))) else (some false)
set_option maxHeartbeats 8000000 in
set_option maxRecDepth 100000 in
theorem spec_l1In.calls (a0 : Int) (a1 : Int) (a2 : Int) (r : Bool) (w : World) (h : spec_l1In.f a0 a1 a2 = some r) :
 Calls Tryd.prog 77 #[.int .i64 a0, .int .i64 a1, .int .i64 a2] w fun e w' => e = .returned (.bool r) ∧ Drawn0 w w' := by
 have H : (if a0 ≥ a1 then (some (decide (a0 ≤ a2))) else (some false)) = some r := h
 clear h
 by_cases c4 : a0 ≥ a1
 ·rw [if_pos c4] at H
  have c4b0 : decide (a1 ≤ a0) = true := decide_eq_true c4
  clear c4
  obtain rfl := Option.some.inj H
  go_enter Tryd.func77, Tryd.ntmps77
  go_wp2
  go_ret
  exact ⟨by first | rfl | (simp; done) | (simp [*]; done), by repeat (first | exact Drawn0.refl _ | apply Drawn0.step)⟩
 ·rw [if_neg c4] at H
  have c4b0 : decide (a1 ≤ a0) = false := decide_eq_false c4
  clear c4
  obtain rfl := Option.some.inj H
  go_enter Tryd.func77, Tryd.ntmps77
  go_wp2
  go_ret
  exact ⟨by first | rfl | (simp; done) | (simp [*]; done), by repeat (first | exact Drawn0.refl _ | apply Drawn0.step)⟩
/-! ### spec_IsHeading: function 78 -/
def spec_IsHeading.f (a0 : Int) : Option (Bool) := if a0 ≥ 0 then (some (decide (a0 ≤ 3))) else (some false)
set_option maxHeartbeats 8000000 in
set_option maxRecDepth 100000 in
theorem spec_IsHeading.calls (a0 : Int) (r : Bool) (w : World) (h : spec_IsHeading.f a0 = some r) :
 Calls Tryd.prog 78 #[.int .i64 a0] w fun e w' => e = .returned (.bool r) ∧ Drawn0 w w' := by
 have H : (if a0 ≥ 0 then (some (decide (a0 ≤ 3))) else (some false)) = some r := h
 clear h
 by_cases c2 : a0 ≥ 0
 ·rw [if_pos c2] at H
  have c2b0 : decide (0 ≤ a0) = true := decide_eq_true c2
  clear c2
  obtain rfl := Option.some.inj H
  go_enter Tryd.func78, Tryd.ntmps78
  go_wp2
  go_ret
  exact ⟨by first | rfl | (simp; done) | (simp [*]; done), by repeat (first | exact Drawn0.refl _ | apply Drawn0.step)⟩
 ·rw [if_neg c2] at H
  have c2b0 : decide (0 ≤ a0) = false := decide_eq_false c2
  clear c2
  obtain rfl := Option.some.inj H
  go_enter Tryd.func78, Tryd.ntmps78
  go_wp2
  go_ret
  exact ⟨by first | rfl | (simp; done) | (simp [*]; done), by repeat (first | exact Drawn0.refl _ | apply Drawn0.step)⟩
/-! ### spec_IsJet: function 54 -/
def spec_IsJet.f (a0_0 : Int) (a0_1 : Int) (a0_2 : Int) (a0_3 : Int) (a0_4 : Int) : Option (Bool) := (spec_l1In.f a0_0 (-1024) 1024).bind fun t305 => (if t305 = true then ((spec_l1In.f a0_1 (-1024) 1024).bind fun t306 => (if t306 = true then ((spec_IsHeading.f a0_2).bind fun t307 => (if t307 = true then ((spec_l1In.f a0_3 0 16).bind fun t308 => (if t308 = true then ((spec_l1In.f a0_4 1 32).bind fun t309 => (some t309)) else (some false))) else (some false))) else (some false))) else (some false))
set_option maxHeartbeats 8000000 in
set_option maxRecDepth 100000 in
theorem spec_IsJet.calls (a0_0 : Int) (a0_1 : Int) (a0_2 : Int) (a0_3 : Int) (a0_4 : Int) (r : Bool) (w : World) (h : spec_IsJet.f a0_0 a0_1 a0_2 a0_3 a0_4 = some r) :
 Calls Tryd.prog 54 #[.agg #[.int .i64 a0_0, .int .i64 a0_1, .int .i64 a0_2, .int .i64 a0_3, .int .i64 a0_4]] w fun e w' => e = .returned (.bool r) ∧ Below w.heap.size w w' := by
 have hu45 := Tryd.underlying45
 have HB := qgg (Below.refl w.heap.size w)
 have H : ((spec_l1In.f a0_0 (-1024) 1024).bind fun t305 => (if t305 = true then ((spec_l1In.f a0_1 (-1024) 1024).bind fun t306 => (if t306 = true then ((spec_IsHeading.f a0_2).bind fun t307 => (if t307 = true then ((spec_l1In.f a0_3 0 16).bind fun t308 => (if t308 = true then ((spec_l1In.f a0_4 1 32).bind fun t309 => (some t309)) else (some false))) else (some false))) else (some false))) else (some false))) = some r := h
 clear h
 replace H := Option.bind_eq_some_iff.mp H
 obtain ⟨t305, A20, H⟩ := H
 replace H : (if t305 = true then ((spec_l1In.f a0_1 (-1024) 1024).bind fun t306 => (if t306 = true then ((spec_IsHeading.f a0_2).bind fun t307 => (if t307 = true then ((spec_l1In.f a0_3 0 16).bind fun t308 => (if t308 = true then ((spec_l1In.f a0_4 1 32).bind fun t309 => (some t309)) else (some false))) else (some false))) else (some false))) else (some false)) = some r := H
 have A2 := qgg A20
 clear A20
 by_cases c3 : t305 = true
 ·subst c3
  have H1 : ((spec_l1In.f a0_1 (-1024) 1024).bind fun t306 => (if t306 = true then ((spec_IsHeading.f a0_2).bind fun t307 => (if t307 = true then ((spec_l1In.f a0_3 0 16).bind fun t308 => (if t308 = true then ((spec_l1In.f a0_4 1 32).bind fun t309 => (some t309)) else (some false))) else (some false))) else (some false))) = some r := by rw [if_pos rfl] at H; exact H
  clear H
  have H := H1
  clear H1
  replace H := Option.bind_eq_some_iff.mp H
  obtain ⟨t306, A40, H⟩ := H
  replace H : (if t306 = true then ((spec_IsHeading.f a0_2).bind fun t307 => (if t307 = true then ((spec_l1In.f a0_3 0 16).bind fun t308 => (if t308 = true then ((spec_l1In.f a0_4 1 32).bind fun t309 => (some t309)) else (some false))) else (some false))) else (some false)) = some r := H
  have A4 := qgg A40
  clear A40
  by_cases c5 : t306 = true
  ·subst c5
   have H1 : ((spec_IsHeading.f a0_2).bind fun t307 => (if t307 = true then ((spec_l1In.f a0_3 0 16).bind fun t308 => (if t308 = true then ((spec_l1In.f a0_4 1 32).bind fun t309 => (some t309)) else (some false))) else (some false))) = some r := by rw [if_pos rfl] at H; exact H
   clear H
   have H := H1
   clear H1
   replace H := Option.bind_eq_some_iff.mp H
   obtain ⟨t307, A60, H⟩ := H
   replace H : (if t307 = true then ((spec_l1In.f a0_3 0 16).bind fun t308 => (if t308 = true then ((spec_l1In.f a0_4 1 32).bind fun t309 => (some t309)) else (some false))) else (some false)) = some r := H
   have A6 := qgg A60
   clear A60
   by_cases c7 : t307 = true
   ·subst c7
    have H1 : ((spec_l1In.f a0_3 0 16).bind fun t308 => (if t308 = true then ((spec_l1In.f a0_4 1 32).bind fun t309 => (some t309)) else (some false))) = some r := by rw [if_pos rfl] at H; exact H
    clear H
    have H := H1
    clear H1
    replace H := Option.bind_eq_some_iff.mp H
    obtain ⟨t308, A80, H⟩ := H
    replace H : (if t308 = true then ((spec_l1In.f a0_4 1 32).bind fun t309 => (some t309)) else (some false)) = some r := H
    have A8 := qgg A80
    clear A80
    by_cases c9 : t308 = true
    ·subst c9
     have H1 : ((spec_l1In.f a0_4 1 32).bind fun t309 => (some t309)) = some r := by rw [if_pos rfl] at H; exact H
     clear H
     have H := H1
     clear H1
     replace H := Option.bind_eq_some_iff.mp H
     obtain ⟨t309, A100, H⟩ := H
     replace H : (some t309) = some r := H
     have A10 := qgg A100
     clear A100
     obtain rfl := Option.some.inj H
     go_enter Tryd.func54, Tryd.ntmps54
     go_wp2_with (first | ((with_reducible refine qug (N := 1) rfl ?_); refine qhg ?hg (N := 1) ?hd (cs := #[.int .i64 a0_0, .int .i64 a0_1, .int .i64 a0_2, .int .i64 a0_3, .int .i64 a0_4]) (t := 45) ?hr ?_; (case hd => rfl); (case hg => rfl); (case hr => first | (go_simp; done) | (go_simp; rfl)); intro gb304 hg w11 hbox hb; have n0_ := qgg (q9g (by repeat (first | (with_reducible first | exact HB.out | apply q1g | apply q2g | apply q3g) | exact HB.out)) hb); have n1_ := qgg (hbox); have n2_ := qgg ((by rw [hg]; exact (qag (by repeat (first | (with_reducible first | exact HB.out | apply q1g | apply q2g | apply q3g) | exact HB.out))) : w.heap.size ≤ gb304)); have n3_ := qgg ((by rw [hg]; exact (qag (by repeat (first | (with_reducible first | exact HB.out | apply q1g | apply q2g | apply q3g) | exact HB.out))) : w.heap.size ≤ gb304)); clear HB; have HB := n0_; have BK304 := n1_; have GW304 := n2_; have GE304 := n3_; clear n0_ n1_ n2_ n3_; clear hb hbox hg; have hcz12_0 : w11.cell? ⟨gb304, 0, none⟩ = some (.int .i64 a0_0) := (qcg BK304.out 0).trans rfl; have hcz12_1 : w11.cell? ⟨gb304, 1, none⟩ = some (.int .i64 a0_1) := (qcg BK304.out 1).trans rfl; have hcz12_2 : w11.cell? ⟨gb304, 2, none⟩ = some (.int .i64 a0_2) := (qcg BK304.out 2).trans rfl; have hcz12_3 : w11.cell? ⟨gb304, 3, none⟩ = some (.int .i64 a0_3) := (qcg BK304.out 3).trans rfl; have hcz12_4 : w11.cell? ⟨gb304, 4, none⟩ = some (.int .i64 a0_4) := (qcg BK304.out 4).trans rfl; have hfz12_0 := qbg BK304.out 0; have hfz12_1 := qbg BK304.out 1; have hfz12_2 := qbg BK304.out 2; have hfz12_3 := qbg BK304.out 3; have hfz12_4 := qbg BK304.out 4) | ((with_reducible refine qtg (f := 77) rfl ?_); refine goesL_ (some 7) rfl rfl Tryd.func77 (by kernel_rfl) rfl #[.int .i64 a0_0, .int .i64 (-1024), .int .i64 1024] rfl (by (try simp only [List.map_toArray, List.map_cons, List.map_nil]); first | done | rfl | (simp only [List.length_drop, List.length_take]; rfl)) ?_; (with_reducible refine (spec_l1In.calls a0_0 (-1024) 1024 true _ A2.out).mono ?_); rintro e w' ⟨rfl, ⟨nd, rfl⟩⟩; refine ⟨_, rfl, ?_⟩) | (go_at_call 77; (with_reducible refine (spec_l1In.calls a0_1 (-1024) 1024 true _ A4.out).mono ?_); rintro e w' ⟨rfl, ⟨nd, rfl⟩⟩) | (go_at_call 78; (with_reducible refine (spec_IsHeading.calls a0_2 true _ A6.out).mono ?_); rintro e w' ⟨rfl, ⟨nd, rfl⟩⟩) | (go_at_call 77; (with_reducible refine (spec_l1In.calls a0_3 0 16 true _ A8.out).mono ?_); rintro e w' ⟨rfl, ⟨nd, rfl⟩⟩) | (go_at_call 77; (with_reducible refine (spec_l1In.calls a0_4 1 32 t309 _ A10.out).mono ?_); rintro e w' ⟨rfl, ⟨nd, rfl⟩⟩))
     go_ret
     exact ⟨by first | rfl | (simp [errW_none, errW_some] <;> rfl) | (simp [*, errW_none, errW_some] <;> rfl), by repeat (first | (with_reducible first | exact HB.out | apply q1g | apply q2g | apply q3g | refine q4g ?_ GE304.out) | exact HB.out)⟩
    ·replace c9 := Bool.eq_false_iff.mpr c9
     subst c9
     have H1 : (some false) = some r := by rw [if_neg (show ¬ (false = true) by decide)] at H; exact H
     clear H
     have H := H1
     clear H1
     obtain rfl := Option.some.inj H
     go_enter Tryd.func54, Tryd.ntmps54
     go_wp2_with (first | ((with_reducible refine qug (N := 1) rfl ?_); refine qhg ?hg (N := 1) ?hd (cs := #[.int .i64 a0_0, .int .i64 a0_1, .int .i64 a0_2, .int .i64 a0_3, .int .i64 a0_4]) (t := 45) ?hr ?_; (case hd => rfl); (case hg => rfl); (case hr => first | (go_simp; done) | (go_simp; rfl)); intro gb304 hg w13 hbox hb; have n0_ := qgg (q9g (by repeat (first | (with_reducible first | exact HB.out | apply q1g | apply q2g | apply q3g) | exact HB.out)) hb); have n1_ := qgg (hbox); have n2_ := qgg ((by rw [hg]; exact (qag (by repeat (first | (with_reducible first | exact HB.out | apply q1g | apply q2g | apply q3g) | exact HB.out))) : w.heap.size ≤ gb304)); have n3_ := qgg ((by rw [hg]; exact (qag (by repeat (first | (with_reducible first | exact HB.out | apply q1g | apply q2g | apply q3g) | exact HB.out))) : w.heap.size ≤ gb304)); clear HB; have HB := n0_; have BK304 := n1_; have GW304 := n2_; have GE304 := n3_; clear n0_ n1_ n2_ n3_; clear hb hbox hg; have hcz14_0 : w13.cell? ⟨gb304, 0, none⟩ = some (.int .i64 a0_0) := (qcg BK304.out 0).trans rfl; have hcz14_1 : w13.cell? ⟨gb304, 1, none⟩ = some (.int .i64 a0_1) := (qcg BK304.out 1).trans rfl; have hcz14_2 : w13.cell? ⟨gb304, 2, none⟩ = some (.int .i64 a0_2) := (qcg BK304.out 2).trans rfl; have hcz14_3 : w13.cell? ⟨gb304, 3, none⟩ = some (.int .i64 a0_3) := (qcg BK304.out 3).trans rfl; have hcz14_4 : w13.cell? ⟨gb304, 4, none⟩ = some (.int .i64 a0_4) := (qcg BK304.out 4).trans rfl; have hfz14_0 := qbg BK304.out 0; have hfz14_1 := qbg BK304.out 1; have hfz14_2 := qbg BK304.out 2; have hfz14_3 := qbg BK304.out 3; have hfz14_4 := qbg BK304.out 4) | ((with_reducible refine qtg (f := 77) rfl ?_); refine goesL_ (some 7) rfl rfl Tryd.func77 (by kernel_rfl) rfl #[.int .i64 a0_0, .int .i64 (-1024), .int .i64 1024] rfl (by (try simp only [List.map_toArray, List.map_cons, List.map_nil]); first | done | rfl | (simp only [List.length_drop, List.length_take]; rfl)) ?_; (with_reducible refine (spec_l1In.calls a0_0 (-1024) 1024 true _ A2.out).mono ?_); rintro e w' ⟨rfl, ⟨nd, rfl⟩⟩; refine ⟨_, rfl, ?_⟩) | (go_at_call 77; (with_reducible refine (spec_l1In.calls a0_1 (-1024) 1024 true _ A4.out).mono ?_); rintro e w' ⟨rfl, ⟨nd, rfl⟩⟩) | (go_at_call 78; (with_reducible refine (spec_IsHeading.calls a0_2 true _ A6.out).mono ?_); rintro e w' ⟨rfl, ⟨nd, rfl⟩⟩) | (go_at_call 77; (with_reducible refine (spec_l1In.calls a0_3 0 16 false _ A8.out).mono ?_); rintro e w' ⟨rfl, ⟨nd, rfl⟩⟩))
     go_ret
     exact ⟨by first | rfl | (simp [errW_none, errW_some] <;> rfl) | (simp [*, errW_none, errW_some] <;> rfl), by repeat (first | (with_reducible first | exact HB.out | apply q1g | apply q2g | apply q3g | refine q4g ?_ GE304.out) | exact HB.out)⟩
   ·replace c7 := Bool.eq_false_iff.mpr c7
    subst c7
    have H1 : (some false) = some r := by rw [if_neg (show ¬ (false = true) by decide)] at H; exact H
    clear H
    have H := H1
    clear H1
    obtain rfl := Option.some.inj H
    go_enter Tryd.func54, Tryd.ntmps54
    go_wp2_with (first | ((with_reducible refine qug (N := 1) rfl ?_); refine qhg ?hg (N := 1) ?hd (cs := #[.int .i64 a0_0, .int .i64 a0_1, .int .i64 a0_2, .int .i64 a0_3, .int .i64 a0_4]) (t := 45) ?hr ?_; (case hd => rfl); (case hg => rfl); (case hr => first | (go_simp; done) | (go_simp; rfl)); intro gb304 hg w15 hbox hb; have n0_ := qgg (q9g (by repeat (first | (with_reducible first | exact HB.out | apply q1g | apply q2g | apply q3g) | exact HB.out)) hb); have n1_ := qgg (hbox); have n2_ := qgg ((by rw [hg]; exact (qag (by repeat (first | (with_reducible first | exact HB.out | apply q1g | apply q2g | apply q3g) | exact HB.out))) : w.heap.size ≤ gb304)); have n3_ := qgg ((by rw [hg]; exact (qag (by repeat (first | (with_reducible first | exact HB.out | apply q1g | apply q2g | apply q3g) | exact HB.out))) : w.heap.size ≤ gb304)); clear HB; have HB := n0_; have BK304 := n1_; have GW304 := n2_; have GE304 := n3_; clear n0_ n1_ n2_ n3_; clear hb hbox hg; have hcz16_0 : w15.cell? ⟨gb304, 0, none⟩ = some (.int .i64 a0_0) := (qcg BK304.out 0).trans rfl; have hcz16_1 : w15.cell? ⟨gb304, 1, none⟩ = some (.int .i64 a0_1) := (qcg BK304.out 1).trans rfl; have hcz16_2 : w15.cell? ⟨gb304, 2, none⟩ = some (.int .i64 a0_2) := (qcg BK304.out 2).trans rfl; have hcz16_3 : w15.cell? ⟨gb304, 3, none⟩ = some (.int .i64 a0_3) := (qcg BK304.out 3).trans rfl; have hcz16_4 : w15.cell? ⟨gb304, 4, none⟩ = some (.int .i64 a0_4) := (qcg BK304.out 4).trans rfl; have hfz16_0 := qbg BK304.out 0; have hfz16_1 := qbg BK304.out 1; have hfz16_2 := qbg BK304.out 2; have hfz16_3 := qbg BK304.out 3; have hfz16_4 := qbg BK304.out 4) | ((with_reducible refine qtg (f := 77) rfl ?_); refine goesL_ (some 7) rfl rfl Tryd.func77 (by kernel_rfl) rfl #[.int .i64 a0_0, .int .i64 (-1024), .int .i64 1024] rfl (by (try simp only [List.map_toArray, List.map_cons, List.map_nil]); first | done | rfl | (simp only [List.length_drop, List.length_take]; rfl)) ?_; (with_reducible refine (spec_l1In.calls a0_0 (-1024) 1024 true _ A2.out).mono ?_); rintro e w' ⟨rfl, ⟨nd, rfl⟩⟩; refine ⟨_, rfl, ?_⟩) | (go_at_call 77; (with_reducible refine (spec_l1In.calls a0_1 (-1024) 1024 true _ A4.out).mono ?_); rintro e w' ⟨rfl, ⟨nd, rfl⟩⟩) | (go_at_call 78; (with_reducible refine (spec_IsHeading.calls a0_2 false _ A6.out).mono ?_); rintro e w' ⟨rfl, ⟨nd, rfl⟩⟩))
    go_ret
    exact ⟨by first | rfl | (simp [errW_none, errW_some] <;> rfl) | (simp [*, errW_none, errW_some] <;> rfl), by repeat (first | (with_reducible first | exact HB.out | apply q1g | apply q2g | apply q3g | refine q4g ?_ GE304.out) | exact HB.out)⟩
  ·replace c5 := Bool.eq_false_iff.mpr c5
   subst c5
   have H1 : (some false) = some r := by rw [if_neg (show ¬ (false = true) by decide)] at H; exact H
   clear H
   have H := H1
   clear H1
   obtain rfl := Option.some.inj H
   go_enter Tryd.func54, Tryd.ntmps54
   go_wp2_with (first | ((with_reducible refine qug (N := 1) rfl ?_); refine qhg ?hg (N := 1) ?hd (cs := #[.int .i64 a0_0, .int .i64 a0_1, .int .i64 a0_2, .int .i64 a0_3, .int .i64 a0_4]) (t := 45) ?hr ?_; (case hd => rfl); (case hg => rfl); (case hr => first | (go_simp; done) | (go_simp; rfl)); intro gb304 hg w17 hbox hb; have n0_ := qgg (q9g (by repeat (first | (with_reducible first | exact HB.out | apply q1g | apply q2g | apply q3g) | exact HB.out)) hb); have n1_ := qgg (hbox); have n2_ := qgg ((by rw [hg]; exact (qag (by repeat (first | (with_reducible first | exact HB.out | apply q1g | apply q2g | apply q3g) | exact HB.out))) : w.heap.size ≤ gb304)); have n3_ := qgg ((by rw [hg]; exact (qag (by repeat (first | (with_reducible first | exact HB.out | apply q1g | apply q2g | apply q3g) | exact HB.out))) : w.heap.size ≤ gb304)); clear HB; have HB := n0_; have BK304 := n1_; have GW304 := n2_; have GE304 := n3_; clear n0_ n1_ n2_ n3_; clear hb hbox hg; have hcz18_0 : w17.cell? ⟨gb304, 0, none⟩ = some (.int .i64 a0_0) := (qcg BK304.out 0).trans rfl; have hcz18_1 : w17.cell? ⟨gb304, 1, none⟩ = some (.int .i64 a0_1) := (qcg BK304.out 1).trans rfl; have hcz18_2 : w17.cell? ⟨gb304, 2, none⟩ = some (.int .i64 a0_2) := (qcg BK304.out 2).trans rfl; have hcz18_3 : w17.cell? ⟨gb304, 3, none⟩ = some (.int .i64 a0_3) := (qcg BK304.out 3).trans rfl; have hcz18_4 : w17.cell? ⟨gb304, 4, none⟩ = some (.int .i64 a0_4) := (qcg BK304.out 4).trans rfl; have hfz18_0 := qbg BK304.out 0; have hfz18_1 := qbg BK304.out 1; have hfz18_2 := qbg BK304.out 2; have hfz18_3 := qbg BK304.out 3; have hfz18_4 := qbg BK304.out 4) | ((with_reducible refine qtg (f := 77) rfl ?_); refine goesL_ (some 7) rfl rfl Tryd.func77 (by kernel_rfl) rfl #[.int .i64 a0_0, .int .i64 (-1024), .int .i64 1024] rfl (by (try simp only [List.map_toArray, List.map_cons, List.map_nil]); first | done | rfl | (simp only [List.length_drop, List.length_take]; rfl)) ?_; (with_reducible refine (spec_l1In.calls a0_0 (-1024) 1024 true _ A2.out).mono ?_); rintro e w' ⟨rfl, ⟨nd, rfl⟩⟩; refine ⟨_, rfl, ?_⟩) | (go_at_call 77; (with_reducible refine (spec_l1In.calls a0_1 (-1024) 1024 false _ A4.out).mono ?_); rintro e w' ⟨rfl, ⟨nd, rfl⟩⟩))
   go_ret
   exact ⟨by first | rfl | (simp [errW_none, errW_some] <;> rfl) | (simp [*, errW_none, errW_some] <;> rfl), by repeat (first | (with_reducible first | exact HB.out | apply q1g | apply q2g | apply q3g | refine q4g ?_ GE304.out) | exact HB.out)⟩
 ·replace c3 := Bool.eq_false_iff.mpr c3
  subst c3
  have H1 : (some false) = some r := by rw [if_neg (show ¬ (false = true) by decide)] at H; exact H
  clear H
  have H := H1
  clear H1
  obtain rfl := Option.some.inj H
  go_enter Tryd.func54, Tryd.ntmps54
  go_wp2_with (first | ((with_reducible refine qug (N := 1) rfl ?_); refine qhg ?hg (N := 1) ?hd (cs := #[.int .i64 a0_0, .int .i64 a0_1, .int .i64 a0_2, .int .i64 a0_3, .int .i64 a0_4]) (t := 45) ?hr ?_; (case hd => rfl); (case hg => rfl); (case hr => first | (go_simp; done) | (go_simp; rfl)); intro gb304 hg w19 hbox hb; have n0_ := qgg (q9g (by repeat (first | (with_reducible first | exact HB.out | apply q1g | apply q2g | apply q3g) | exact HB.out)) hb); have n1_ := qgg (hbox); have n2_ := qgg ((by rw [hg]; exact (qag (by repeat (first | (with_reducible first | exact HB.out | apply q1g | apply q2g | apply q3g) | exact HB.out))) : w.heap.size ≤ gb304)); have n3_ := qgg ((by rw [hg]; exact (qag (by repeat (first | (with_reducible first | exact HB.out | apply q1g | apply q2g | apply q3g) | exact HB.out))) : w.heap.size ≤ gb304)); clear HB; have HB := n0_; have BK304 := n1_; have GW304 := n2_; have GE304 := n3_; clear n0_ n1_ n2_ n3_; clear hb hbox hg; have hcz20_0 : w19.cell? ⟨gb304, 0, none⟩ = some (.int .i64 a0_0) := (qcg BK304.out 0).trans rfl; have hcz20_1 : w19.cell? ⟨gb304, 1, none⟩ = some (.int .i64 a0_1) := (qcg BK304.out 1).trans rfl; have hcz20_2 : w19.cell? ⟨gb304, 2, none⟩ = some (.int .i64 a0_2) := (qcg BK304.out 2).trans rfl; have hcz20_3 : w19.cell? ⟨gb304, 3, none⟩ = some (.int .i64 a0_3) := (qcg BK304.out 3).trans rfl; have hcz20_4 : w19.cell? ⟨gb304, 4, none⟩ = some (.int .i64 a0_4) := (qcg BK304.out 4).trans rfl; have hfz20_0 := qbg BK304.out 0; have hfz20_1 := qbg BK304.out 1; have hfz20_2 := qbg BK304.out 2; have hfz20_3 := qbg BK304.out 3; have hfz20_4 := qbg BK304.out 4) | ((with_reducible refine qtg (f := 77) rfl ?_); refine goesL_ (some 7) rfl rfl Tryd.func77 (by kernel_rfl) rfl #[.int .i64 a0_0, .int .i64 (-1024), .int .i64 1024] rfl (by (try simp only [List.map_toArray, List.map_cons, List.map_nil]); first | done | rfl | (simp only [List.length_drop, List.length_take]; rfl)) ?_; (with_reducible refine (spec_l1In.calls a0_0 (-1024) 1024 false _ A2.out).mono ?_); rintro e w' ⟨rfl, ⟨nd, rfl⟩⟩; refine ⟨_, rfl, ?_⟩))
  go_ret
  exact ⟨by first | rfl | (simp [errW_none, errW_some] <;> rfl) | (simp [*, errW_none, errW_some] <;> rfl), by repeat (first | (with_reducible first | exact HB.out | apply q1g | apply q2g | apply q3g | refine q4g ?_ GE304.out) | exact HB.out)⟩
/-! ### spec_FormatNumber: function 15 -/
def spec_FormatNumber.f : Nat → Int → Option (ByteArray)
  | 0, _ => none
  | k + 1, a0 => if a0 = (-9223372036854775808) then (some (⟨#[45, 57, 50, 50, 51, 51, 55, 50, 48, 51, 54, 56, 53, 52, 55, 55, 53, 56, 48, 56]⟩ : ByteArray)) else (if a0 < 0 then ((spec_FormatNumber.f k (wrap64 (-a0))).bind fun t310 => (if 1 + t310.size ≤ 9223372036854775807 then (some ((⟨#[45]⟩ : ByteArray) ++ t310)) else (none))) else ((some (([(wrap64 (48 + (Int.tmod a0 10))) % 256] : List Int) : List Int)).bind fun y311 => (if a0 > 9 then ((spec_FormatNumber.f k (wrap64 (Int.tdiv a0 10))).bind fun t314 => (if t314.size + (strOfNums y311).size ≤ 9223372036854775807 then (some (t314 ++ (strOfNums y311))) else (none))) else (some (strOfNums y311)))))
theorem spec_FormatNumber.mono_l : ∀ k, (∀ y0, LeO (spec_FormatNumber.f k y0) (spec_FormatNumber.f (k + 1) y0))
  | 0 => fun _ r h => by simp [spec_FormatNumber.f] at h
  | k + 1 => by
    have ih0 := spec_FormatNumber.mono_l k
    · intro y0
      unfold spec_FormatNumber.f
      repeat' first
      | (with_reducible exact ih0 _)
      | (with_reducible exact LeO.refl _)
      | (with_reducible exact LeO.none _)
      | (with_reducible refine LeO.ite ?_ ?_)
      | (with_reducible refine LeO.bind ?_ (fun _ => ?_))
      | exact ih0 _
      | exact LeO.none _
      | refine LeO.ite ?_ ?_
      | refine LeO.bind ?_ (fun _ => ?_)
theorem spec_FormatNumber.mono : ∀ a0 k, LeO (spec_FormatNumber.f k a0) (spec_FormatNumber.f (k + 1) a0) := by
  intro a0 k
  have ih0 := spec_FormatNumber.mono_l k
  exact ih0 a0
set_option maxHeartbeats 8000000 in
set_option maxRecDepth 100000 in
theorem spec_FormatNumber.calls (k : Nat) : ∀ (a0 : Int) (r : ByteArray) (w : World) (h : spec_FormatNumber.f k a0 = some r),
 Calls Tryd.prog 15 #[.int .i64 a0] w fun e w' => e = .returned (.string r) ∧ Below w.heap.size w w' := by
 induction k using Nat.strongRecOn with
 | _ k ih =>
 intro a0 r w h
 cases k with
 | zero => exact absurd h (by simp [spec_FormatNumber.f])
 | succ k =>
 simp only [spec_FormatNumber.f] at h
 have HB := qgg (Below.refl w.heap.size w)
 have H : (if a0 = (-9223372036854775808) then (some (⟨#[45, 57, 50, 50, 51, 51, 55, 50, 48, 51, 54, 56, 53, 52, 55, 55, 53, 56, 48, 56]⟩ : ByteArray)) else (if a0 < 0 then ((spec_FormatNumber.f k (wrap64 (-a0))).bind fun t310 => (if 1 + t310.size ≤ 9223372036854775807 then (some ((⟨#[45]⟩ : ByteArray) ++ t310)) else (none))) else ((some (([(wrap64 (48 + (Int.tmod a0 10))) % 256] : List Int) : List Int)).bind fun y311 => (if a0 > 9 then ((spec_FormatNumber.f k (wrap64 (Int.tdiv a0 10))).bind fun t314 => (if t314.size + (strOfNums y311).size ≤ 9223372036854775807 then (some (t314 ++ (strOfNums y311))) else (none))) else (some (strOfNums y311)))))) = some r := h
 clear h
 by_cases c2 : a0 = (-9223372036854775808)
 ·rw [if_pos c2] at H
  have c2b0 : (a0 == (-9223372036854775808)) = true := beq_iff_eq.mpr c2
  have c2b1 : (a0 != (-9223372036854775808)) = false := bne_eq_false_iff_eq.mpr c2
  clear c2
  obtain rfl := Option.some.inj H
  go_enter Tryd.func15, Tryd.ntmps15
  go_wp2
  go_ret
  exact ⟨by first | rfl | (simp [errW_none, errW_some] <;> rfl) | (simp [*, errW_none, errW_some] <;> rfl), by repeat (first | (with_reducible first | exact HB.out | apply q1g | apply q2g | apply q3g) | exact HB.out)⟩
 ·rw [if_neg c2] at H
  have c2b0 : (a0 == (-9223372036854775808)) = false := beq_eq_false_iff_ne.mpr c2
  have c2b1 : (a0 != (-9223372036854775808)) = true := bne_iff_ne.mpr c2
  by_cases c3 : a0 < 0
  ·rw [if_pos c3] at H
   have c3b0 : decide (a0 < 0) = true := decide_eq_true c3
   clear c3
   replace H := Option.bind_eq_some_iff.mp H
   obtain ⟨t310, A40, H⟩ := H
   replace H : (if 1 + t310.size ≤ 9223372036854775807 then (some ((⟨#[45]⟩ : ByteArray) ++ t310)) else (none)) = some r := H
   have A4 := qgg A40
   clear A40
   by_cases c5 : 1 + t310.size ≤ 9223372036854775807
   ·rw [if_pos c5] at H
    have c5b0 := eq_true c5
    have c5b1 : decide (1 + t310.size ≤ 9223372036854775807) = true := decide_eq_true c5
    try have c5b2 : (9223372036854775807 < 1 + t310.size) = False := eq_false (Nat.not_lt.2 c5)
    obtain rfl := Option.some.inj H
    go_enter Tryd.func15, Tryd.ntmps15
    go_wp2_with (first | ((with_reducible refine qtg (f := 15) rfl ?_); refine goesL_ (some 10) rfl rfl Tryd.func15 (by kernel_rfl) rfl #[.int .i64 (wrap64 (-a0))] rfl (by (try simp only [List.map_toArray, List.map_cons, List.map_nil]); first | done | rfl | (simp only [List.length_drop, List.length_take]; rfl)) ?_; (with_reducible refine (ih k (by omega) (wrap64 (-a0)) t310 _ A4.out).mono ?_); rintro e w6 ⟨rfl, hb⟩; refine ⟨_, rfl, ?_⟩; have n0_ := qgg (q9g (by repeat (first | (with_reducible first | exact HB.out | apply q1g | apply q2g | apply q3g) | exact HB.out)) hb); clear HB; have HB := n0_; clear n0_; (try clear hb); (try clear hb2); (try clear hk); (try clear hi)))
    go_ret
    exact ⟨by first | rfl | (simp [errW_none, errW_some] <;> rfl) | (simp [*, errW_none, errW_some] <;> rfl), by repeat (first | (with_reducible first | exact HB.out | apply q1g | apply q2g | apply q3g) | exact HB.out)⟩
   ·rw [if_neg c5] at H
    exact absurd H (by simp)
  ·rw [if_neg c3] at H
   have c3b0 : decide (a0 < 0) = false := decide_eq_false c3
   clear c3
   obtain ⟨y311, hy311⟩ : ∃ y_ : List Int, y_ = (([(wrap64 (48 + (Int.tmod a0 10))) % 256] : List Int)) := ⟨_, rfl⟩
   replace H : (if a0 > 9 then ((spec_FormatNumber.f k (wrap64 (Int.tdiv a0 10))).bind fun t314 => (if t314.size + (strOfNums y311).size ≤ 9223372036854775807 then (some (t314 ++ (strOfNums y311))) else (none))) else (some (strOfNums y311))) = some r := by first | (rw [hy311]; with_reducible exact H) | (have H2_ := (Option.bind_some _ _).symm.trans H; rw [hy311]; with_reducible exact H2_) | (have H2_ := (Option.bind_some _ _).symm.trans H; with_reducible exact H2_) | with_reducible exact H | (rw [hy311]; exact H) | exact H
   have Ny311 := qgg hy311
   clear hy311
   by_cases c7 : a0 > 9
   ·rw [if_pos c7] at H
    have c7b0 : decide (9 < a0) = true := decide_eq_true c7
    clear c7
    replace H := Option.bind_eq_some_iff.mp H
    obtain ⟨t314, A80, H⟩ := H
    replace H : (if t314.size + (strOfNums y311).size ≤ 9223372036854775807 then (some (t314 ++ (strOfNums y311))) else (none)) = some r := H
    have A8 := qgg A80
    clear A80
    by_cases c9 : t314.size + (strOfNums y311).size ≤ 9223372036854775807
    ·rw [if_pos c9] at H
     have c9b0 := eq_true c9
     have c9b1 : decide (t314.size + (strOfNums y311).size ≤ 9223372036854775807) = true := decide_eq_true c9
     try have c9b2 : (9223372036854775807 < t314.size + (strOfNums y311).size) = False := eq_false (Nat.not_lt.2 c9)
     obtain rfl := Option.some.inj H
     go_enter Tryd.func15, Tryd.ntmps15
     go_wp2_with (first | ((with_reducible refine qug (N := 16) rfl ?_); refine Kd.R_lit (Kd.int .u8) _ 5 ?hg (N := 16) ?hd (xs := ([(wrap64 (48 + (Int.tmod a0 10))) % 256] : List Int)) (inner := [.int .u8 ((wrap64 (48 + (Int.tmod a0 10))) % 256)]) (ok := fun _ => True) (okp := fun _ => True) ?hr ?hp (fun _ hk => hk) trivial (Below.refl _ _) (Nat.le_refl _) (by simp) ?_; (case hd => rfl); (case hg => rfl); (case hr => first | (go_simp; done) | (go_simp; rfl)); (case hp => exact (Reps.one (show Kd.M (Kd.int .u8) _ _ _ ((wrap64 (48 + (Int.tmod a0 10))) % 256) [.int .u8 ((wrap64 (48 + (Int.tmod a0 10))) % 256)] from rfl) (Reps.none _ _))); intro v312 w10 ho11 hb hg_ hnew_; clear hg_ hnew_; (first | rw [← Ny311.out] at ho11 | (simp only [Int.reduceToNat] at ho11; rw [← Ny311.out] at ho11)); have n0_ := qgg (Kd.R_lower ho11 (qag (by repeat (first | (with_reducible first | exact HB.out | apply q1g | apply q2g | apply q3g) | exact HB.out)))); have n1_ := qgg (q9g (by repeat (first | (with_reducible first | exact HB.out | apply q1g | apply q2g | apply q3g) | exact HB.out)) hb); clear HB; have HO313 := n0_; have HB := n1_; clear n0_ n1_; clear hb ho11; have hcv12 := own_string (P := Tryd.prog) Tryd.underlying51 Tryd.underlying5 Tryd.underlying9 (Kd.own_of_R HO313.out)) | ((with_reducible refine qtg (f := 15) rfl ?_); refine goesL_ (some 22) rfl rfl Tryd.func15 (by kernel_rfl) rfl #[.int .i64 (wrap64 (Int.tdiv a0 10))] rfl (by (try simp only [List.map_toArray, List.map_cons, List.map_nil]); first | done | rfl | (simp only [List.length_drop, List.length_take]; rfl)) ?_; (with_reducible refine (ih k (by omega) (wrap64 (Int.tdiv a0 10)) t314 _ A8.out).mono ?_); rintro e w13 ⟨rfl, hb⟩; refine ⟨_, rfl, ?_⟩; have n0_ := qgg (qjg (by (with_reducible repeat (first | apply qkg | apply qlg | apply qmg)); exact HO313.out) hb); have n1_ := qgg (q9g (by repeat (first | (with_reducible first | exact HB.out | apply q1g | apply q2g | apply q3g) | exact HB.out)) hb); clear HO313; clear HB; have HO313 := n0_; have HB := n1_; clear n0_ n1_; (try clear hb); (try clear hb2); (try clear hk); (try clear hi)))
     go_ret
     exact ⟨by first | rfl | (simp [errW_none, errW_some] <;> rfl) | (simp [*, errW_none, errW_some] <;> rfl), by repeat (first | (with_reducible first | exact HB.out | apply q1g | apply q2g | apply q3g) | exact HB.out)⟩
    ·rw [if_neg c9] at H
     exact absurd H (by simp)
   ·rw [if_neg c7] at H
    have c7b0 : decide (9 < a0) = false := decide_eq_false c7
    clear c7
    obtain rfl := Option.some.inj H
    go_enter Tryd.func15, Tryd.ntmps15
    go_wp2_with (first | ((with_reducible refine qug (N := 16) rfl ?_); refine Kd.R_lit (Kd.int .u8) _ 5 ?hg (N := 16) ?hd (xs := ([(wrap64 (48 + (Int.tmod a0 10))) % 256] : List Int)) (inner := [.int .u8 ((wrap64 (48 + (Int.tmod a0 10))) % 256)]) (ok := fun _ => True) (okp := fun _ => True) ?hr ?hp (fun _ hk => hk) trivial (Below.refl _ _) (Nat.le_refl _) (by simp) ?_; (case hd => rfl); (case hg => rfl); (case hr => first | (go_simp; done) | (go_simp; rfl)); (case hp => exact (Reps.one (show Kd.M (Kd.int .u8) _ _ _ ((wrap64 (48 + (Int.tmod a0 10))) % 256) [.int .u8 ((wrap64 (48 + (Int.tmod a0 10))) % 256)] from rfl) (Reps.none _ _))); intro v312 w14 ho15 hb hg_ hnew_; clear hg_ hnew_; (first | rw [← Ny311.out] at ho15 | (simp only [Int.reduceToNat] at ho15; rw [← Ny311.out] at ho15)); have n0_ := qgg (Kd.R_lower ho15 (qag (by repeat (first | (with_reducible first | exact HB.out | apply q1g | apply q2g | apply q3g) | exact HB.out)))); have n1_ := qgg (q9g (by repeat (first | (with_reducible first | exact HB.out | apply q1g | apply q2g | apply q3g) | exact HB.out)) hb); clear HB; have HO313 := n0_; have HB := n1_; clear n0_ n1_; clear hb ho15; have hcv16 := own_string (P := Tryd.prog) Tryd.underlying51 Tryd.underlying5 Tryd.underlying9 (Kd.own_of_R HO313.out)))
    go_ret
    exact ⟨by first | rfl | (simp [errW_none, errW_some] <;> rfl) | (simp [*, errW_none, errW_some] <;> rfl), by repeat (first | (with_reducible first | exact HB.out | apply q1g | apply q2g | apply q3g) | exact HB.out)⟩
/-! ### spec_IsMeasure: function 46 -/
def spec_IsMeasure.f (a0 : Int) : Option (Bool) := if a0 ≥ (-4096) then (some (decide (a0 ≤ 4096))) else (some false)
set_option maxHeartbeats 8000000 in
set_option maxRecDepth 100000 in
theorem spec_IsMeasure.calls (a0 : Int) (r : Bool) (w : World) (h : spec_IsMeasure.f a0 = some r) :
 Calls Tryd.prog 46 #[.int .i64 a0] w fun e w' => e = .returned (.bool r) ∧ Drawn0 w w' := by
 have H : (if a0 ≥ (-4096) then (some (decide (a0 ≤ 4096))) else (some false)) = some r := h
 clear h
 by_cases c2 : a0 ≥ (-4096)
 ·rw [if_pos c2] at H
  have c2b0 : decide ((-4096) ≤ a0) = true := decide_eq_true c2
  clear c2
  obtain rfl := Option.some.inj H
  go_enter Tryd.func46, Tryd.ntmps46
  go_wp2
  go_ret
  exact ⟨by first | rfl | (simp; done) | (simp [*]; done), by repeat (first | exact Drawn0.refl _ | apply Drawn0.step)⟩
 ·rw [if_neg c2] at H
  have c2b0 : decide ((-4096) ≤ a0) = false := decide_eq_false c2
  clear c2
  obtain rfl := Option.some.inj H
  go_enter Tryd.func46, Tryd.ntmps46
  go_wp2
  go_ret
  exact ⟨by first | rfl | (simp; done) | (simp [*]; done), by repeat (first | exact Drawn0.refl _ | apply Drawn0.step)⟩
/-! ### spec_FormatMeasure: function 22 -/
def spec_FormatMeasure.f (k : Nat) (a0 : Int) : Option (ByteArray) := (spec_IsMeasure.f a0).bind fun t315 => (if t315 = true then (if a0 < 0 then ((spec_FormatNumber.f k (wrap64 (Int.tdiv (wrap64 (-a0)) 8))).bind fun t316 => (if 1 + t316.size ≤ 9223372036854775807 then ((some (([(⟨#[]⟩ : ByteArray), (⟨#[46, 49, 50, 53]⟩ : ByteArray), (⟨#[46, 50, 53]⟩ : ByteArray), (⟨#[46, 51, 55, 53]⟩ : ByteArray), (⟨#[46, 53]⟩ : ByteArray), (⟨#[46, 54, 50, 53]⟩ : ByteArray), (⟨#[46, 55, 53]⟩ : ByteArray), (⟨#[46, 56, 55, 53]⟩ : ByteArray)] : List ByteArray) : List ByteArray)).bind fun y317 => (if 0 ≤ (Int.tmod (wrap64 (-a0)) 8) then (if (Int.tmod (wrap64 (-a0)) 8) < (y317.length : Int) then (if ((⟨#[45]⟩ : ByteArray) ++ t316).size + (rdOf ByteArray.empty y317 (Int.tmod (wrap64 (-a0)) 8)).size ≤ 9223372036854775807 then (some (((⟨#[45]⟩ : ByteArray) ++ t316) ++ (rdOf ByteArray.empty y317 (Int.tmod (wrap64 (-a0)) 8)))) else (none)) else (none)) else (none))) else (none))) else ((spec_FormatNumber.f k (wrap64 (Int.tdiv a0 8))).bind fun t321 => (if 0 + t321.size ≤ 9223372036854775807 then ((some (([(⟨#[]⟩ : ByteArray), (⟨#[46, 49, 50, 53]⟩ : ByteArray), (⟨#[46, 50, 53]⟩ : ByteArray), (⟨#[46, 51, 55, 53]⟩ : ByteArray), (⟨#[46, 53]⟩ : ByteArray), (⟨#[46, 54, 50, 53]⟩ : ByteArray), (⟨#[46, 55, 53]⟩ : ByteArray), (⟨#[46, 56, 55, 53]⟩ : ByteArray)] : List ByteArray) : List ByteArray)).bind fun y322 => (if 0 ≤ (Int.tmod a0 8) then (if (Int.tmod a0 8) < (y322.length : Int) then (if ((⟨#[]⟩ : ByteArray) ++ t321).size + (rdOf ByteArray.empty y322 (Int.tmod a0 8)).size ≤ 9223372036854775807 then (some (((⟨#[]⟩ : ByteArray) ++ t321) ++ (rdOf ByteArray.empty y322 (Int.tmod a0 8)))) else (none)) else (none)) else (none))) else (none)))) else (some (⟨#[]⟩ : ByteArray)))
theorem spec_FormatMeasure.mono : ∀ a0 k, LeO (spec_FormatMeasure.f k a0) (spec_FormatMeasure.f (k + 1) a0) := by
  intro a0 k
  unfold spec_FormatMeasure.f
  repeat' first
      | (with_reducible exact spec_FormatNumber.mono _ _)
      | (with_reducible exact LeO.refl _)
      | (with_reducible exact LeO.none _)
      | (with_reducible refine LeO.ite ?_ ?_)
      | (with_reducible refine LeO.bind ?_ (fun _ => ?_))
      | exact spec_FormatNumber.mono _ _
      | exact LeO.none _
      | refine LeO.ite ?_ ?_
      | refine LeO.bind ?_ (fun _ => ?_)
def spec_FormatMeasure.T7 : Bool × List (List Nat × List Nat) := (true, [([], []), ([], []), ([1], [1]), ([2], [2]), ([0, 3], [0, 3]), ([], []), ([], []), ([6], [6]), ([5, 7], [5, 7]), ([8], [8]), ([4, 9], [4, 9]), ([10, 3, 0, 1, 2, 3, 4, 5, 6, 7, 8, 9, 10], [10])])
def spec_FormatMeasure.B7 : List Nat := [0, 0, 2, 6, 15, 0, 0, 64, 224, 480, 1023, 2047]
theorem spec_FormatMeasure.tab7 : rtab .any (opsOf Tryd.f22 7) = spec_FormatMeasure.T7 := by kernel_rfl
theorem spec_FormatMeasure.bits7 : waitsOk spec_FormatMeasure.T7.2 spec_FormatMeasure.B7 = true := by kernel_rfl
set_option maxHeartbeats 8000000 in
set_option maxRecDepth 100000 in
theorem spec_FormatMeasure.calls (k : Nat) (a0 : Int) (r : ByteArray) (w : World) (h : spec_FormatMeasure.f k a0 = some r) :
 Calls Tryd.prog 22 #[.int .i64 a0] w fun e w' => e = .returned (.string r) ∧ Below w.heap.size w w' := by
 have HB := qgg (Below.refl w.heap.size w)
 have H : ((spec_IsMeasure.f a0).bind fun t315 => (if t315 = true then (if a0 < 0 then ((spec_FormatNumber.f k (wrap64 (Int.tdiv (wrap64 (-a0)) 8))).bind fun t316 => (if 1 + t316.size ≤ 9223372036854775807 then ((some (([(⟨#[]⟩ : ByteArray), (⟨#[46, 49, 50, 53]⟩ : ByteArray), (⟨#[46, 50, 53]⟩ : ByteArray), (⟨#[46, 51, 55, 53]⟩ : ByteArray), (⟨#[46, 53]⟩ : ByteArray), (⟨#[46, 54, 50, 53]⟩ : ByteArray), (⟨#[46, 55, 53]⟩ : ByteArray), (⟨#[46, 56, 55, 53]⟩ : ByteArray)] : List ByteArray) : List ByteArray)).bind fun y317 => (if 0 ≤ (Int.tmod (wrap64 (-a0)) 8) then (if (Int.tmod (wrap64 (-a0)) 8) < (y317.length : Int) then (if ((⟨#[45]⟩ : ByteArray) ++ t316).size + (rdOf ByteArray.empty y317 (Int.tmod (wrap64 (-a0)) 8)).size ≤ 9223372036854775807 then (some (((⟨#[45]⟩ : ByteArray) ++ t316) ++ (rdOf ByteArray.empty y317 (Int.tmod (wrap64 (-a0)) 8)))) else (none)) else (none)) else (none))) else (none))) else ((spec_FormatNumber.f k (wrap64 (Int.tdiv a0 8))).bind fun t321 => (if 0 + t321.size ≤ 9223372036854775807 then ((some (([(⟨#[]⟩ : ByteArray), (⟨#[46, 49, 50, 53]⟩ : ByteArray), (⟨#[46, 50, 53]⟩ : ByteArray), (⟨#[46, 51, 55, 53]⟩ : ByteArray), (⟨#[46, 53]⟩ : ByteArray), (⟨#[46, 54, 50, 53]⟩ : ByteArray), (⟨#[46, 55, 53]⟩ : ByteArray), (⟨#[46, 56, 55, 53]⟩ : ByteArray)] : List ByteArray) : List ByteArray)).bind fun y322 => (if 0 ≤ (Int.tmod a0 8) then (if (Int.tmod a0 8) < (y322.length : Int) then (if ((⟨#[]⟩ : ByteArray) ++ t321).size + (rdOf ByteArray.empty y322 (Int.tmod a0 8)).size ≤ 9223372036854775807 then (some (((⟨#[]⟩ : ByteArray) ++ t321) ++ (rdOf ByteArray.empty y322 (Int.tmod a0 8)))) else (none)) else (none)) else (none))) else (none)))) else (some (⟨#[]⟩ : ByteArray)))) = some r := h
 clear h
 replace H := Option.bind_eq_some_iff.mp H
 obtain ⟨t315, A20, H⟩ := H
 replace H : (if t315 = true then (if a0 < 0 then ((spec_FormatNumber.f k (wrap64 (Int.tdiv (wrap64 (-a0)) 8))).bind fun t316 => (if 1 + t316.size ≤ 9223372036854775807 then ((some (([(⟨#[]⟩ : ByteArray), (⟨#[46, 49, 50, 53]⟩ : ByteArray), (⟨#[46, 50, 53]⟩ : ByteArray), (⟨#[46, 51, 55, 53]⟩ : ByteArray), (⟨#[46, 53]⟩ : ByteArray), (⟨#[46, 54, 50, 53]⟩ : ByteArray), (⟨#[46, 55, 53]⟩ : ByteArray), (⟨#[46, 56, 55, 53]⟩ : ByteArray)] : List ByteArray) : List ByteArray)).bind fun y317 => (if 0 ≤ (Int.tmod (wrap64 (-a0)) 8) then (if (Int.tmod (wrap64 (-a0)) 8) < (y317.length : Int) then (if ((⟨#[45]⟩ : ByteArray) ++ t316).size + (rdOf ByteArray.empty y317 (Int.tmod (wrap64 (-a0)) 8)).size ≤ 9223372036854775807 then (some (((⟨#[45]⟩ : ByteArray) ++ t316) ++ (rdOf ByteArray.empty y317 (Int.tmod (wrap64 (-a0)) 8)))) else (none)) else (none)) else (none))) else (none))) else ((spec_FormatNumber.f k (wrap64 (Int.tdiv a0 8))).bind fun t321 => (if 0 + t321.size ≤ 9223372036854775807 then ((some (([(⟨#[]⟩ : ByteArray), (⟨#[46, 49, 50, 53]⟩ : ByteArray), (⟨#[46, 50, 53]⟩ : ByteArray), (⟨#[46, 51, 55, 53]⟩ : ByteArray), (⟨#[46, 53]⟩ : ByteArray), (⟨#[46, 54, 50, 53]⟩ : ByteArray), (⟨#[46, 55, 53]⟩ : ByteArray), (⟨#[46, 56, 55, 53]⟩ : ByteArray)] : List ByteArray) : List ByteArray)).bind fun y322 => (if 0 ≤ (Int.tmod a0 8) then (if (Int.tmod a0 8) < (y322.length : Int) then (if ((⟨#[]⟩ : ByteArray) ++ t321).size + (rdOf ByteArray.empty y322 (Int.tmod a0 8)).size ≤ 9223372036854775807 then (some (((⟨#[]⟩ : ByteArray) ++ t321) ++ (rdOf ByteArray.empty y322 (Int.tmod a0 8)))) else (none)) else (none)) else (none))) else (none)))) else (some (⟨#[]⟩ : ByteArray))) = some r := H
 have A2 := qgg A20
 clear A20
 by_cases c3 : t315 = true
 ·subst c3
  have H1 : (if a0 < 0 then ((spec_FormatNumber.f k (wrap64 (Int.tdiv (wrap64 (-a0)) 8))).bind fun t316 => (if 1 + t316.size ≤ 9223372036854775807 then ((some (([(⟨#[]⟩ : ByteArray), (⟨#[46, 49, 50, 53]⟩ : ByteArray), (⟨#[46, 50, 53]⟩ : ByteArray), (⟨#[46, 51, 55, 53]⟩ : ByteArray), (⟨#[46, 53]⟩ : ByteArray), (⟨#[46, 54, 50, 53]⟩ : ByteArray), (⟨#[46, 55, 53]⟩ : ByteArray), (⟨#[46, 56, 55, 53]⟩ : ByteArray)] : List ByteArray) : List ByteArray)).bind fun y317 => (if 0 ≤ (Int.tmod (wrap64 (-a0)) 8) then (if (Int.tmod (wrap64 (-a0)) 8) < (y317.length : Int) then (if ((⟨#[45]⟩ : ByteArray) ++ t316).size + (rdOf ByteArray.empty y317 (Int.tmod (wrap64 (-a0)) 8)).size ≤ 9223372036854775807 then (some (((⟨#[45]⟩ : ByteArray) ++ t316) ++ (rdOf ByteArray.empty y317 (Int.tmod (wrap64 (-a0)) 8)))) else (none)) else (none)) else (none))) else (none))) else ((spec_FormatNumber.f k (wrap64 (Int.tdiv a0 8))).bind fun t321 => (if 0 + t321.size ≤ 9223372036854775807 then ((some (([(⟨#[]⟩ : ByteArray), (⟨#[46, 49, 50, 53]⟩ : ByteArray), (⟨#[46, 50, 53]⟩ : ByteArray), (⟨#[46, 51, 55, 53]⟩ : ByteArray), (⟨#[46, 53]⟩ : ByteArray), (⟨#[46, 54, 50, 53]⟩ : ByteArray), (⟨#[46, 55, 53]⟩ : ByteArray), (⟨#[46, 56, 55, 53]⟩ : ByteArray)] : List ByteArray) : List ByteArray)).bind fun y322 => (if 0 ≤ (Int.tmod a0 8) then (if (Int.tmod a0 8) < (y322.length : Int) then (if ((⟨#[]⟩ : ByteArray) ++ t321).size + (rdOf ByteArray.empty y322 (Int.tmod a0 8)).size ≤ 9223372036854775807 then (some (((⟨#[]⟩ : ByteArray) ++ t321) ++ (rdOf ByteArray.empty y322 (Int.tmod a0 8)))) else (none)) else (none)) else (none))) else (none)))) = some r := by rw [if_pos rfl] at H; exact H
  clear H
  have H := H1
  clear H1
  by_cases c4 : a0 < 0
  ·rw [if_pos c4] at H
   have c4b0 : decide (a0 < 0) = true := decide_eq_true c4
   clear c4
   replace H := Option.bind_eq_some_iff.mp H
   obtain ⟨t316, A50, H⟩ := H
   replace H : (if 1 + t316.size ≤ 9223372036854775807 then ((some (([(⟨#[]⟩ : ByteArray), (⟨#[46, 49, 50, 53]⟩ : ByteArray), (⟨#[46, 50, 53]⟩ : ByteArray), (⟨#[46, 51, 55, 53]⟩ : ByteArray), (⟨#[46, 53]⟩ : ByteArray), (⟨#[46, 54, 50, 53]⟩ : ByteArray), (⟨#[46, 55, 53]⟩ : ByteArray), (⟨#[46, 56, 55, 53]⟩ : ByteArray)] : List ByteArray) : List ByteArray)).bind fun y317 => (if 0 ≤ (Int.tmod (wrap64 (-a0)) 8) then (if (Int.tmod (wrap64 (-a0)) 8) < (y317.length : Int) then (if ((⟨#[45]⟩ : ByteArray) ++ t316).size + (rdOf ByteArray.empty y317 (Int.tmod (wrap64 (-a0)) 8)).size ≤ 9223372036854775807 then (some (((⟨#[45]⟩ : ByteArray) ++ t316) ++ (rdOf ByteArray.empty y317 (Int.tmod (wrap64 (-a0)) 8)))) else (none)) else (none)) else (none))) else (none)) = some r := H
   have A5 := qgg A50
   clear A50
   by_cases c6 : 1 + t316.size ≤ 9223372036854775807
   ·rw [if_pos c6] at H
    have c6b0 := eq_true c6
    have c6b1 : decide (1 + t316.size ≤ 9223372036854775807) = true := decide_eq_true c6
    try have c6b2 : (9223372036854775807 < 1 + t316.size) = False := eq_false (Nat.not_lt.2 c6)
    obtain ⟨y317, hy317⟩ : ∃ y_ : List ByteArray, y_ = (([(⟨#[]⟩ : ByteArray), (⟨#[46, 49, 50, 53]⟩ : ByteArray), (⟨#[46, 50, 53]⟩ : ByteArray), (⟨#[46, 51, 55, 53]⟩ : ByteArray), (⟨#[46, 53]⟩ : ByteArray), (⟨#[46, 54, 50, 53]⟩ : ByteArray), (⟨#[46, 55, 53]⟩ : ByteArray), (⟨#[46, 56, 55, 53]⟩ : ByteArray)] : List ByteArray)) := ⟨_, rfl⟩
    replace H : (if 0 ≤ (Int.tmod (wrap64 (-a0)) 8) then (if (Int.tmod (wrap64 (-a0)) 8) < (y317.length : Int) then (if ((⟨#[45]⟩ : ByteArray) ++ t316).size + (rdOf ByteArray.empty y317 (Int.tmod (wrap64 (-a0)) 8)).size ≤ 9223372036854775807 then (some (((⟨#[45]⟩ : ByteArray) ++ t316) ++ (rdOf ByteArray.empty y317 (Int.tmod (wrap64 (-a0)) 8)))) else (none)) else (none)) else (none)) = some r := by first | (rw [hy317]; with_reducible exact H) | (have H2_ := (Option.bind_some _ _).symm.trans H; rw [hy317]; with_reducible exact H2_) | (have H2_ := (Option.bind_some _ _).symm.trans H; with_reducible exact H2_) | with_reducible exact H | (rw [hy317]; exact H) | exact H
    have Ny317 := qgg hy317
    clear hy317
    obtain ⟨ji7, hji7⟩ : ∃ j_ : Int, (Int.tmod (wrap64 (-a0)) 8) = j_ := ⟨_, rfl⟩
    replace H : (if 0 ≤ (ji7) then (if (ji7) < (y317.length : Int) then (if ((⟨#[45]⟩ : ByteArray) ++ t316).size + (rdOf ByteArray.empty y317 (ji7)).size ≤ 9223372036854775807 then (some (((⟨#[45]⟩ : ByteArray) ++ t316) ++ (rdOf ByteArray.empty y317 (ji7)))) else (none)) else (none)) else (none)) = some r := by first | (rw [hji7] at H; exact H) | (simp only [hji7] at H ⊢; exact H)
    (try rw [hji7] at A2)
    (try rw [hji7] at A5)
    by_cases c8 : 0 ≤ (ji7)
    ·rw [if_pos c8] at H
     have c8b0 : decide (0 ≤ (ji7)) = true := decide_eq_true c8
     clear c8
     by_cases c9 : (ji7) < (y317.length : Int)
     ·rw [if_pos c9] at H
      have c9b0 : decide ((ji7) < (y317.length : Int)) = true := decide_eq_true c9
      clear c9
      by_cases c10 : ((⟨#[45]⟩ : ByteArray) ++ t316).size + (rdOf ByteArray.empty y317 (ji7)).size ≤ 9223372036854775807
      ·rw [if_pos c10] at H
       have c10b0 := eq_true c10
       have c10b1 : decide (((⟨#[45]⟩ : ByteArray) ++ t316).size + (rdOf ByteArray.empty y317 (ji7)).size ≤ 9223372036854775807) = true := decide_eq_true c10
       try have c10b2 : (9223372036854775807 < ((⟨#[45]⟩ : ByteArray) ++ t316).size + (rdOf ByteArray.empty y317 (ji7)).size) = False := eq_false (Nat.not_lt.2 c10)
       obtain rfl := Option.some.inj H
       go_enter Tryd.func22, Tryd.ntmps22
       try go_wp2_with (first | ((with_reducible refine qtg (f := 46) rfl ?_); refine goesL_ (some 5) rfl rfl Tryd.func46 (by kernel_rfl) rfl #[.int .i64 a0] rfl (by (try simp only [List.map_toArray, List.map_cons, List.map_nil]); first | done | rfl | (simp only [List.length_drop, List.length_take]; rfl)) ?_; (with_reducible refine (spec_IsMeasure.calls a0 true _ A2.out).mono ?_); rintro e w' ⟨rfl, ⟨nd, rfl⟩⟩; refine ⟨_, rfl, ?_⟩))
       have pi320 : (0 ≤ ((ji7) : Int)) = True := eq_true (of_decide_eq_true (by first | (with_reducible assumption) | assumption))
       have qi320 : ((ji7) < (y317.length : Int)) = True := eq_true (of_decide_eq_true (by first | (with_reducible assumption) | assumption))
       have n0_ := qgg (q3g (q2g HB.out nd))
       clear HB
       have HB := n0_
       clear n0_
       refine start_ (n := 12) (S := fun w' => True) (ds := []) #[false, false, false, false, false, false, false, false, false, false, false, false] (by kernel_rfl) rfl rfl trivial (fun hHeld => ?_); refine with_tabW spec_FormatMeasure.tab7 spec_FormatMeasure.bits7 (fun HT_ HW_ => ?_)
       generalize (w.drewN nd).drew = w11 at HB hHeld ⊢
       refine pure_ (i := 0) (N := some 12) (v := ?_) (a' := ?_) #[true, false, false, false, false, false, false, false, false, false, false, false] rfl rfl (any_of HT_.out (by kernel_rfl)) (fun _ _ _ h => h) (Or.inl ⟨by rfl, ?_⟩) ?_ ?_
       rotate_left
       ·intro w'
        go_simp
        with_reducible rfl
       rotate_left
       ·simp only [Act.put, p1g, p2g, p3g, i64_w, i32_w]
        rfl
       refine pure_ (i := 1) (N := some 13) (v := ?_) (a' := ?_) #[true, true, false, false, false, false, false, false, false, false, false, false] rfl rfl (any_of HT_.out (by kernel_rfl)) (fun _ _ _ h => h) (Or.inl ⟨by rfl, ?_⟩) ?_ ?_
       rotate_left
       ·intro w'
        go_simp
        with_reducible rfl
       rotate_left
       ·simp only [Act.put, p1g, p2g, p3g, i64_w, i32_w]
        rfl
       refine pure_ (i := 6) (N := some 18) (v := ?_) (a' := ?_) #[true, true, false, false, false, false, true, false, false, false, false, false] rfl rfl (any_of HT_.out (by kernel_rfl)) (fun _ _ _ h => h) (Or.inl ⟨by rfl, ?_⟩) ?_ ?_
       rotate_left
       ·intro w'
        go_simp
        with_reducible rfl
       rotate_left
       ·simp only [Act.put, p1g, p2g, p3g, i64_w, i32_w]
        rfl
       refine inv_at [2, 3, 4, 5, 7, 8, 9, 10, 11] (fun a0_ b a w' => ∃ (v318 : Value) (adz_v318 : Addr) (m8_ : Value), a = putSel a0_ b [(2, 14, .int .i64 (wrap64 (Int.tdiv (wrap64 (-a0)) 8))), (3, 15, .string t316), (4, 16, .string ((⟨#[45]⟩ : ByteArray) ++ t316)), (5, 17, v318), (7, 19, .int .i64 ji7), (8, 20, m8_), (9, 21, .string (rdOf ByteArray.empty y317 (ji7))), (10, 22, .string (((⟨#[45]⟩ : ByteArray) ++ t316) ++ (rdOf ByteArray.empty y317 (ji7)))), (11, 2, .string (((⟨#[45]⟩ : ByteArray) ++ t316) ++ (rdOf ByteArray.empty y317 (ji7))))] ∧ (Below w.heap.size w w') ∧ (b 5 = true → Kd.R Kd.string 9 w' w.heap.size (fun _ => True) v318 y317) ∧ (b 5 = true → ∃ c_, (v318 : Value) = .slice (some adz_v318) y317.length c_) ∧ (b 8 = true → (m8_ : Value) = .pointer (some (adz_v318.add ((ji7)).toNat)))) HT_.out HW_.out (by kernel_rfl) (by kernel_rfl) ?_ ?_ ?_
       ·exact ⟨.bool false, ⟨0, 0, none⟩, .bool false, by simp only [putSel, Bool.false_eq_true, if_false], HB.out, fun h_ => absurd h_ (by decide), fun h_ => absurd h_ (by decide), fun h_ => absurd h_ (by decide)⟩
       ·skip
        clear HB
        refine steps_cons ?_ ?_
        ·rintro b a w' ⟨v318, adz_v318, m8_, ha, Q_HB, Q_HO319, Q_HA_HO319, Q_X8_⟩ hb_ hon hoff
         refine ⟨_, rfl, fun K hK => ?_⟩
         have e13 : a.tmps[13]? = some (.int .i64 (wrap64 (-a0))) := by rw [ha]; exact (putSel_off rfl).trans rfl
         replace ha := qgg ha
         have HB := qgg Q_HB
         refine value_ (w1 := w') (v := .int .i64 (wrap64 (Int.tdiv (wrap64 (-a0)) 8))) (by rfl) rfl ?_ ?_
         ·go_simp
          (try simp only [i64_w])
          try rfl
          try (first | omega | (rw [ByteArray.size_append] at c10; exact c10) | (have z_ := c10; rw [ByteArray.size_append] at z_; have z2_ : (⟨#[]⟩ : ByteArray).size = 0 := rfl; omega))
         refine hK.out _ _ ⟨v318, adz_v318, m8_, (by rw [ha.out]; exact putSel_upk 0 hb_ rfl rfl rfl), Q_HB, Q_HO319, Q_HA_HO319, Q_X8_⟩
        refine steps_cons ?_ ?_
        ·rintro b a w' ⟨v318, adz_v318, m8_, ha, Q_HB, Q_HO319, Q_HA_HO319, Q_X8_⟩ hb_ hon hoff
         refine ⟨_, rfl, fun K hK => ?_⟩
         have e14 : a.tmps[14]? = some (.int .i64 (wrap64 (Int.tdiv (wrap64 (-a0)) 8))) := by rw [ha]; exact putSel_on (e := (2, 14, .int .i64 (wrap64 (Int.tdiv (wrap64 (-a0)) 8)))) 0 rfl rfl (hon 2 (by kernel_rfl)) rfl
         replace ha := qgg ha
         have HB := qgg Q_HB
         refine goes_ Tryd.func15 (by kernel_rfl) rfl #[.int .i64 (wrap64 (Int.tdiv (wrap64 (-a0)) 8))] (by rfl) rfl rfl (by first | (simp only [List.map_toArray, List.map_cons, List.map_nil, Act.eval, Array.getD_eq_getD_getElem?, Option.getD_some, e14]; done) | (simp only [List.map_toArray, List.map_cons, List.map_nil, Act.eval, Array.getD_eq_getD_getElem?, Option.getD_some, e14]; rfl)) ?_
         with_reducible refine (spec_FormatNumber.calls k (wrap64 (Int.tdiv (wrap64 (-a0)) 8)) t316 _ A5.out).mono ?_
         rintro e w12 ⟨rfl, hb⟩
         refine ⟨_, rfl, ?_⟩
         have n0_ := qgg (q9g (by repeat (first | (with_reducible first | exact HB.out | apply q1g | apply q2g | apply q3g) | exact HB.out)) hb)
         have z_HO319 := fun (h0_ : b 5 = true) => (show Kd.R Kd.string 9 w12 w.heap.size (fun _ => True) v318 y317 from by first | exact (qjg (by (with_reducible repeat (first | apply qkg | apply qlg | apply qmg)); exact (Q_HO319 h0_)) hb) | exact Kd.R_mono (qjg (by (with_reducible repeat (first | apply qkg | apply qlg | apply qmg)); exact (Q_HO319 h0_)) hb) (fun _ h_ => by first | trivial | exact h_ | exact h_.1))
         clear HB
         have HB := n0_
         clear n0_
         (try clear hb)
         (try clear hb2)
         (try clear hk)
         (try clear hi)
         refine hK.out _ _ ⟨v318, adz_v318, m8_, (by rw [ha.out]; exact putSel_upk 1 hb_ rfl rfl rfl), (by repeat (first | (with_reducible first | exact HB.out | apply q1g | apply q2g | apply q3g) | exact HB.out)), z_HO319, Q_HA_HO319, Q_X8_⟩
        refine steps_cons ?_ ?_
        ·rintro b a w' ⟨v318, adz_v318, m8_, ha, Q_HB, Q_HO319, Q_HA_HO319, Q_X8_⟩ hb_ hon hoff
         refine ⟨_, rfl, fun K hK => ?_⟩
         have e12 : a.tmps[12]? = some (.string (⟨#[45]⟩ : ByteArray)) := by rw [ha]; exact (putSel_off rfl).trans rfl
         have e15 : a.tmps[15]? = some (.string t316) := by rw [ha]; exact putSel_on (e := (3, 15, .string t316)) 1 rfl rfl (hon 3 (by kernel_rfl)) rfl
         replace ha := qgg ha
         have HB := qgg Q_HB
         refine value_ (w1 := w') (v := .string ((⟨#[45]⟩ : ByteArray) ++ t316)) (by rfl) rfl ?_ ?_
         ·go_simp
          (try simp only [i64_w])
          try rfl
          try (first | omega | (rw [ByteArray.size_append] at c10; exact c10) | (have z_ := c10; rw [ByteArray.size_append] at z_; have z2_ : (⟨#[]⟩ : ByteArray).size = 0 := rfl; omega))
         refine hK.out _ _ ⟨v318, adz_v318, m8_, (by rw [ha.out]; exact putSel_upk 2 hb_ rfl rfl rfl), Q_HB, Q_HO319, Q_HA_HO319, Q_X8_⟩
        refine steps_cons ?_ ?_
        ·rintro b a w' ⟨v318, adz_v318, m8_, ha, Q_HB, Q_HO319, Q_HA_HO319, Q_X8_⟩ hb_ hon hoff
         refine ⟨_, rfl, fun K hK => ?_⟩
         replace ha := qgg ha
         have HB := qgg Q_HB
         refine Kd.R_lit_step Kd.string _ 9 ?hg (N := 17) ?hd (xs := ([(⟨#[]⟩ : ByteArray), (⟨#[46, 49, 50, 53]⟩ : ByteArray), (⟨#[46, 50, 53]⟩ : ByteArray), (⟨#[46, 51, 55, 53]⟩ : ByteArray), (⟨#[46, 53]⟩ : ByteArray), (⟨#[46, 54, 50, 53]⟩ : ByteArray), (⟨#[46, 55, 53]⟩ : ByteArray), (⟨#[46, 56, 55, 53]⟩ : ByteArray)] : List ByteArray)) (inner := [.string (⟨#[]⟩ : ByteArray), .string (⟨#[46, 49, 50, 53]⟩ : ByteArray), .string (⟨#[46, 50, 53]⟩ : ByteArray), .string (⟨#[46, 51, 55, 53]⟩ : ByteArray), .string (⟨#[46, 53]⟩ : ByteArray), .string (⟨#[46, 54, 50, 53]⟩ : ByteArray), .string (⟨#[46, 55, 53]⟩ : ByteArray), .string (⟨#[46, 56, 55, 53]⟩ : ByteArray)]) (ok := fun _ => True) (okp := fun _ => True) ?hr ?hp (fun _ hk => hk) trivial (Below.refl _ _) (Nat.le_refl _) (by simp) ?_; (case hd => rfl); (case hg => rfl); (case hr => first | (go_simp; done) | (go_simp; rfl)); (case hp => exact (Reps.one (show Kd.M Kd.string _ _ _ (⟨#[]⟩ : ByteArray) [.string (⟨#[]⟩ : ByteArray)] from rfl) (Reps.one (show Kd.M Kd.string _ _ _ (⟨#[46, 49, 50, 53]⟩ : ByteArray) [.string (⟨#[46, 49, 50, 53]⟩ : ByteArray)] from rfl) (Reps.one (show Kd.M Kd.string _ _ _ (⟨#[46, 50, 53]⟩ : ByteArray) [.string (⟨#[46, 50, 53]⟩ : ByteArray)] from rfl) (Reps.one (show Kd.M Kd.string _ _ _ (⟨#[46, 51, 55, 53]⟩ : ByteArray) [.string (⟨#[46, 51, 55, 53]⟩ : ByteArray)] from rfl) (Reps.one (show Kd.M Kd.string _ _ _ (⟨#[46, 53]⟩ : ByteArray) [.string (⟨#[46, 53]⟩ : ByteArray)] from rfl) (Reps.one (show Kd.M Kd.string _ _ _ (⟨#[46, 54, 50, 53]⟩ : ByteArray) [.string (⟨#[46, 54, 50, 53]⟩ : ByteArray)] from rfl) (Reps.one (show Kd.M Kd.string _ _ _ (⟨#[46, 55, 53]⟩ : ByteArray) [.string (⟨#[46, 55, 53]⟩ : ByteArray)] from rfl) (Reps.one (show Kd.M Kd.string _ _ _ (⟨#[46, 56, 55, 53]⟩ : ByteArray) [.string (⟨#[46, 56, 55, 53]⟩ : ByteArray)] from rfl) (Reps.none _ _))))))))))
         intro v318 w12 ho13 hb hg_ hnew_
         clear hg_ hnew_
         (first | rw [← Ny317.out] at ho13 | (simp only [Int.reduceToNat] at ho13; rw [← Ny317.out] at ho13))
         have n0_ := qgg (Kd.R_lower ho13 (qag (by repeat (first | (with_reducible first | exact HB.out | apply q1g | apply q2g | apply q3g) | exact HB.out))))
         have n1_ := qgg (q9g (by repeat (first | (with_reducible first | exact HB.out | apply q1g | apply q2g | apply q3g) | exact HB.out)) hb)
         clear HB
         have HO319 := n0_
         have HB := n1_
         clear n0_ n1_
         clear hb ho13
         obtain ⟨Ao14, co14, eo14⟩ := Kd.R_slice HO319.out
         subst eo14
         obtain ⟨ado14, fo14, _⟩ := Kd.at_string (Kd.R_reads' HO319.out).2.2 0 (by decide) (by rw [Ny317.out]; simp)
         cases fo14
         refine hK.out _ _ ⟨.slice (some ado14) y317.length co14, ado14, m8_, (by rw [ha.out]; exact putSel_upk 3 hb_ rfl rfl rfl), (by repeat (first | (with_reducible first | exact HB.out | apply q1g | apply q2g | apply q3g) | exact HB.out)), fun _ => (by (with_reducible repeat (first | apply qkg | apply qlg | apply qmg)); exact HO319.out), fun _ => ⟨_, rfl⟩, fun h0_ => absurd ((hoff 8 (by kernel_rfl)).symm.trans h0_) (by decide)⟩
        refine steps_cons ?_ ?_
        ·rintro b a w' ⟨v318, adz_v318, m8_, ha, Q_HB, Q_HO319, Q_HA_HO319, Q_X8_⟩ hb_ hon hoff
         refine ⟨_, rfl, fun K hK => ?_⟩
         have e18 : a.tmps[18]? = some (.int .i64 (wrap64 (-a0))) := by rw [ha]; exact (putSel_off rfl).trans rfl
         replace ha := qgg ha
         have HB := qgg Q_HB
         refine value_ (w1 := w') (v := .int .i64 ji7) (by rfl) rfl ?_ ?_
         ·go_simp
          (try simp only [i64_w])
          try rfl
          try (first | omega | (rw [ByteArray.size_append] at c10; exact c10) | (have z_ := c10; rw [ByteArray.size_append] at z_; have z2_ : (⟨#[]⟩ : ByteArray).size = 0 := rfl; omega))
         refine hK.out _ _ ⟨v318, adz_v318, m8_, (by rw [ha.out]; exact putSel_upk 4 hb_ rfl rfl rfl), Q_HB, Q_HO319, Q_HA_HO319, fun h0_ => absurd ((hoff 8 (by kernel_rfl)).symm.trans h0_) (by decide)⟩
        refine steps_cons ?_ ?_
        ·rintro b a w' ⟨v318, adz_v318, m8_, ha, Q_HB, Q_HO319, Q_HA_HO319, Q_X8_⟩ hb_ hon hoff
         refine ⟨_, rfl, fun K hK => ?_⟩
         have e17 : a.tmps[17]? = some (v318) := by rw [ha]; exact putSel_on (e := (5, 17, v318)) 3 rfl rfl (hon 5 (by kernel_rfl)) rfl
         have e19 : a.tmps[19]? = some (.int .i64 ji7) := by rw [ha]; exact putSel_on (e := (7, 19, .int .i64 ji7)) 4 rfl rfl (hon 7 (by kernel_rfl)) rfl
         replace ha := qgg ha
         have HB := qgg Q_HB
         have HO319 := qgg (Q_HO319 (hon 5 (by kernel_rfl)))
         have HA_HO319 := qgg (Q_HA_HO319 (hon 5 (by kernel_rfl)))
         obtain ⟨c_, hv_⟩ := HA_HO319.out
         rw [hv_] at e17
         refine value_ (w1 := w') (v := .pointer (some (adz_v318.add ((ji7)).toNat))) (by rfl) rfl ?_ ?_
         ·go_simp
          (try simp only [i64_w])
          try rfl
          try (first | omega | (rw [ByteArray.size_append] at c10; exact c10) | (have z_ := c10; rw [ByteArray.size_append] at z_; have z2_ : (⟨#[]⟩ : ByteArray).size = 0 := rfl; omega))
         refine hK.out _ _ ⟨v318, adz_v318, (.pointer (some (adz_v318.add ((ji7)).toNat))), (by rw [ha.out]; exact putSel_upk 5 hb_ rfl rfl rfl), Q_HB, Q_HO319, Q_HA_HO319, fun _ => rfl⟩
        refine steps_cons ?_ ?_
        ·rintro b a w' ⟨v318, adz_v318, m8_, ha, Q_HB, Q_HO319, Q_HA_HO319, Q_X8_⟩ hb_ hon hoff
         refine ⟨_, rfl, fun K hK => ?_⟩
         have e20 : a.tmps[20]? = some (m8_) := by rw [ha]; exact putSel_on (e := (8, 20, m8_)) 5 rfl rfl (hon 8 (by kernel_rfl)) rfl
         rw [Q_X8_ (hon 8 (by kernel_rfl))] at e20
         replace ha := qgg ha
         have HB := qgg Q_HB
         have HO319 := qgg (Q_HO319 (hon 5 (by kernel_rfl)))
         have HA_HO319 := qgg (Q_HA_HO319 (hon 5 (by kernel_rfl)))
         obtain ⟨c_, hv_⟩ := HA_HO319.out
         have hF_ := HO319.out
         rw [hv_] at hF_
         obtain ⟨ad_, ea_, hx_⟩ := Kd.at_string (Kd.R_reads' hF_).2.2 (ji7) (of_eq_true pi320) (of_eq_true qi320)
         cases ea_
         refine value_ (w1 := w') (v := .string (rdOf ByteArray.empty y317 (ji7))) (by rfl) rfl ?_ ?_
         ·go_simp
          (try simp only [i64_w])
          try rfl
          try (first | omega | (rw [ByteArray.size_append] at c10; exact c10) | (have z_ := c10; rw [ByteArray.size_append] at z_; have z2_ : (⟨#[]⟩ : ByteArray).size = 0 := rfl; omega))
         refine hK.out _ _ ⟨v318, adz_v318, m8_, (by rw [ha.out]; exact putSel_upk 6 hb_ rfl rfl rfl), Q_HB, Q_HO319, Q_HA_HO319, Q_X8_⟩
        refine steps_cons ?_ ?_
        ·rintro b a w' ⟨v318, adz_v318, m8_, ha, Q_HB, Q_HO319, Q_HA_HO319, Q_X8_⟩ hb_ hon hoff
         refine ⟨_, rfl, fun K hK => ?_⟩
         have e16 : a.tmps[16]? = some (.string ((⟨#[45]⟩ : ByteArray) ++ t316)) := by rw [ha]; exact putSel_on (e := (4, 16, .string ((⟨#[45]⟩ : ByteArray) ++ t316))) 2 rfl rfl (hon 4 (by kernel_rfl)) rfl
         have e21 : a.tmps[21]? = some (.string (rdOf ByteArray.empty y317 (ji7))) := by rw [ha]; exact putSel_on (e := (9, 21, .string (rdOf ByteArray.empty y317 (ji7)))) 6 rfl rfl (hon 9 (by kernel_rfl)) rfl
         replace ha := qgg ha
         have HB := qgg Q_HB
         have HO319 := qgg (Q_HO319 (hon 5 (by kernel_rfl)))
         have HA_HO319 := qgg (Q_HA_HO319 (hon 5 (by kernel_rfl)))
         refine value_ (w1 := w') (v := .string (((⟨#[45]⟩ : ByteArray) ++ t316) ++ (rdOf ByteArray.empty y317 (ji7)))) (by rfl) rfl ?_ ?_
         ·go_simp
          (try simp only [i64_w])
          try rfl
          try (first | omega | (rw [ByteArray.size_append] at c10; exact c10) | (have z_ := c10; rw [ByteArray.size_append] at z_; have z2_ : (⟨#[]⟩ : ByteArray).size = 0 := rfl; omega))
         refine hK.out _ _ ⟨v318, adz_v318, m8_, (by rw [ha.out]; exact putSel_upk 7 hb_ rfl rfl rfl), Q_HB, Q_HO319, Q_HA_HO319, Q_X8_⟩
        refine steps_cons ?_ ?_
        ·rintro b a w' ⟨v318, adz_v318, m8_, ha, Q_HB, Q_HO319, Q_HA_HO319, Q_X8_⟩ hb_ hon hoff
         refine ⟨_, rfl, fun K hK => ?_⟩
         have e22 : a.tmps[22]? = some (.string (((⟨#[45]⟩ : ByteArray) ++ t316) ++ (rdOf ByteArray.empty y317 (ji7)))) := by rw [ha]; exact putSel_on (e := (10, 22, .string (((⟨#[45]⟩ : ByteArray) ++ t316) ++ (rdOf ByteArray.empty y317 (ji7))))) 7 rfl rfl (hon 10 (by kernel_rfl)) rfl
         replace ha := qgg ha
         have HB := qgg Q_HB
         have HO319 := qgg (Q_HO319 (hon 5 (by kernel_rfl)))
         have HA_HO319 := qgg (Q_HA_HO319 (hon 5 (by kernel_rfl)))
         refine value_ (w1 := w') (v := .string (((⟨#[45]⟩ : ByteArray) ++ t316) ++ (rdOf ByteArray.empty y317 (ji7)))) (by rfl) rfl ?_ ?_
         ·go_simp
          (try simp only [i64_w])
          try rfl
          try (first | omega | (rw [ByteArray.size_append] at c10; exact c10) | (have z_ := c10; rw [ByteArray.size_append] at z_; have z2_ : (⟨#[]⟩ : ByteArray).size = 0 := rfl; omega))
         refine hK.out _ _ ⟨v318, adz_v318, m8_, (by rw [ha.out]; exact putSel_upk 8 hb_ rfl rfl rfl), Q_HB, Q_HO319, Q_HA_HO319, Q_X8_⟩
        exact steps_nil
       rintro b a w16 hall ⟨v318, adz_v318, m8_, ha, Q_HB, Q_HO319, Q_HA_HO319, Q_X8_⟩
       clear HB
       have hb2_ := hall 2 (by kernel_rfl)
       have hb3_ := hall 3 (by kernel_rfl)
       have hb4_ := hall 4 (by kernel_rfl)
       have hb5_ := hall 5 (by kernel_rfl)
       have hb7_ := hall 7 (by kernel_rfl)
       have hb8_ := hall 8 (by kernel_rfl)
       have hb9_ := hall 9 (by kernel_rfl)
       have hb10_ := hall 10 (by kernel_rfl)
       have hb11_ := hall 11 (by kernel_rfl)
       subst ha
       obtain rfl := Q_X8_ hb8_
       simp only [putSel, hb2_, hb3_, hb4_, hb5_, hb7_, hb8_, hb9_, hb10_, hb11_, if_true, Act.put, p1g, p2g, p3g]
       have HB := qgg Q_HB
       clear Q_HB
       have HO319 := qgg (Q_HO319 hb5_)
       clear Q_HO319
       have HA_HO319 := qgg (Q_HA_HO319 hb5_)
       clear Q_HA_HO319
       clear hall hb2_ hb3_ hb4_ hb5_ hb7_ hb8_ hb9_ hb10_ hb11_
       obtain ⟨co17, eo17⟩ := HA_HO319.out
       clear HA_HO319
       subst eo17
       try go_wp2
       go_ret
       exact ⟨by first | rfl | (simp [errW_none, errW_some] <;> rfl) | (simp only [← hji7]; first | rfl | (simp [errW_none, errW_some] <;> rfl)) | (simp [*, errW_none, errW_some] <;> rfl), by repeat (first | (with_reducible first | exact HB.out | apply q1g | apply q2g | apply q3g) | exact HB.out)⟩
      ·rw [if_neg c10] at H
       exact absurd H (by simp)
     ·rw [if_neg c9] at H
      exact absurd H (by simp)
    ·rw [if_neg c8] at H
     exact absurd H (by simp)
   ·rw [if_neg c6] at H
    exact absurd H (by simp)
  ·rw [if_neg c4] at H
   have c4b0 : decide (a0 < 0) = false := decide_eq_false c4
   clear c4
   replace H := Option.bind_eq_some_iff.mp H
   obtain ⟨t321, A180, H⟩ := H
   replace H : (if 0 + t321.size ≤ 9223372036854775807 then ((some (([(⟨#[]⟩ : ByteArray), (⟨#[46, 49, 50, 53]⟩ : ByteArray), (⟨#[46, 50, 53]⟩ : ByteArray), (⟨#[46, 51, 55, 53]⟩ : ByteArray), (⟨#[46, 53]⟩ : ByteArray), (⟨#[46, 54, 50, 53]⟩ : ByteArray), (⟨#[46, 55, 53]⟩ : ByteArray), (⟨#[46, 56, 55, 53]⟩ : ByteArray)] : List ByteArray) : List ByteArray)).bind fun y322 => (if 0 ≤ (Int.tmod a0 8) then (if (Int.tmod a0 8) < (y322.length : Int) then (if ((⟨#[]⟩ : ByteArray) ++ t321).size + (rdOf ByteArray.empty y322 (Int.tmod a0 8)).size ≤ 9223372036854775807 then (some (((⟨#[]⟩ : ByteArray) ++ t321) ++ (rdOf ByteArray.empty y322 (Int.tmod a0 8)))) else (none)) else (none)) else (none))) else (none)) = some r := H
   have A18 := qgg A180
   clear A180
   by_cases c19 : 0 + t321.size ≤ 9223372036854775807
   ·rw [if_pos c19] at H
    have c19b0 := eq_true c19
    have c19b1 : decide (0 + t321.size ≤ 9223372036854775807) = true := decide_eq_true c19
    try have c19b2 : (9223372036854775807 < 0 + t321.size) = False := eq_false (Nat.not_lt.2 c19)
    obtain ⟨y322, hy322⟩ : ∃ y_ : List ByteArray, y_ = (([(⟨#[]⟩ : ByteArray), (⟨#[46, 49, 50, 53]⟩ : ByteArray), (⟨#[46, 50, 53]⟩ : ByteArray), (⟨#[46, 51, 55, 53]⟩ : ByteArray), (⟨#[46, 53]⟩ : ByteArray), (⟨#[46, 54, 50, 53]⟩ : ByteArray), (⟨#[46, 55, 53]⟩ : ByteArray), (⟨#[46, 56, 55, 53]⟩ : ByteArray)] : List ByteArray)) := ⟨_, rfl⟩
    replace H : (if 0 ≤ (Int.tmod a0 8) then (if (Int.tmod a0 8) < (y322.length : Int) then (if ((⟨#[]⟩ : ByteArray) ++ t321).size + (rdOf ByteArray.empty y322 (Int.tmod a0 8)).size ≤ 9223372036854775807 then (some (((⟨#[]⟩ : ByteArray) ++ t321) ++ (rdOf ByteArray.empty y322 (Int.tmod a0 8)))) else (none)) else (none)) else (none)) = some r := by first | (rw [hy322]; with_reducible exact H) | (have H2_ := (Option.bind_some _ _).symm.trans H; rw [hy322]; with_reducible exact H2_) | (have H2_ := (Option.bind_some _ _).symm.trans H; with_reducible exact H2_) | with_reducible exact H | (rw [hy322]; exact H) | exact H
    have Ny322 := qgg hy322
    clear hy322
    obtain ⟨ji20, hji20⟩ : ∃ j_ : Int, (Int.tmod a0 8) = j_ := ⟨_, rfl⟩
    replace H : (if 0 ≤ (ji20) then (if (ji20) < (y322.length : Int) then (if ((⟨#[]⟩ : ByteArray) ++ t321).size + (rdOf ByteArray.empty y322 (ji20)).size ≤ 9223372036854775807 then (some (((⟨#[]⟩ : ByteArray) ++ t321) ++ (rdOf ByteArray.empty y322 (ji20)))) else (none)) else (none)) else (none)) = some r := by first | (rw [hji20] at H; exact H) | (simp only [hji20] at H ⊢; exact H)
    (try rw [hji20] at A2)
    (try rw [hji20] at A18)
    by_cases c21 : 0 ≤ (ji20)
    ·rw [if_pos c21] at H
     have c21b0 : decide (0 ≤ (ji20)) = true := decide_eq_true c21
     clear c21
     by_cases c22 : (ji20) < (y322.length : Int)
     ·rw [if_pos c22] at H
      have c22b0 : decide ((ji20) < (y322.length : Int)) = true := decide_eq_true c22
      clear c22
      by_cases c23 : ((⟨#[]⟩ : ByteArray) ++ t321).size + (rdOf ByteArray.empty y322 (ji20)).size ≤ 9223372036854775807
      ·rw [if_pos c23] at H
       have c23b0 := eq_true c23
       have c23b1 : decide (((⟨#[]⟩ : ByteArray) ++ t321).size + (rdOf ByteArray.empty y322 (ji20)).size ≤ 9223372036854775807) = true := decide_eq_true c23
       try have c23b2 : (9223372036854775807 < ((⟨#[]⟩ : ByteArray) ++ t321).size + (rdOf ByteArray.empty y322 (ji20)).size) = False := eq_false (Nat.not_lt.2 c23)
       obtain rfl := Option.some.inj H
       go_enter Tryd.func22, Tryd.ntmps22
       try go_wp2_with (first | ((with_reducible refine qtg (f := 46) rfl ?_); refine goesL_ (some 5) rfl rfl Tryd.func46 (by kernel_rfl) rfl #[.int .i64 a0] rfl (by (try simp only [List.map_toArray, List.map_cons, List.map_nil]); first | done | rfl | (simp only [List.length_drop, List.length_take]; rfl)) ?_; (with_reducible refine (spec_IsMeasure.calls a0 true _ A2.out).mono ?_); rintro e w' ⟨rfl, ⟨nd, rfl⟩⟩; refine ⟨_, rfl, ?_⟩))
       have pi325 : (0 ≤ ((ji20) : Int)) = True := eq_true (of_decide_eq_true (by first | (with_reducible assumption) | assumption))
       have qi325 : ((ji20) < (y322.length : Int)) = True := eq_true (of_decide_eq_true (by first | (with_reducible assumption) | assumption))
       have n0_ := qgg (q3g (q2g HB.out nd))
       clear HB
       have HB := n0_
       clear n0_
       refine start_ (n := 12) (S := fun w' => True) (ds := []) #[false, false, false, false, false, false, false, false, false, false, false, false] (by kernel_rfl) rfl rfl trivial (fun hHeld => ?_); refine with_tabW spec_FormatMeasure.tab7 spec_FormatMeasure.bits7 (fun HT_ HW_ => ?_)
       generalize (w.drewN nd).drew = w24 at HB hHeld ⊢
       refine pure_ (i := 0) (N := some 12) (v := ?_) (a' := ?_) #[true, false, false, false, false, false, false, false, false, false, false, false] rfl rfl (any_of HT_.out (by kernel_rfl)) (fun _ _ _ h => h) (Or.inl ⟨by rfl, ?_⟩) ?_ ?_
       rotate_left
       ·intro w'
        go_simp
        with_reducible rfl
       rotate_left
       ·simp only [Act.put, p1g, p2g, p3g, i64_w, i32_w]
        rfl
       refine pure_ (i := 1) (N := some 13) (v := ?_) (a' := ?_) #[true, true, false, false, false, false, false, false, false, false, false, false] rfl rfl (any_of HT_.out (by kernel_rfl)) (fun _ _ _ h => h) (Or.inl ⟨by rfl, ?_⟩) ?_ ?_
       rotate_left
       ·intro w'
        go_simp
        with_reducible rfl
       rotate_left
       ·simp only [Act.put, p1g, p2g, p3g, i64_w, i32_w]
        rfl
       refine pure_ (i := 6) (N := some 18) (v := ?_) (a' := ?_) #[true, true, false, false, false, false, true, false, false, false, false, false] rfl rfl (any_of HT_.out (by kernel_rfl)) (fun _ _ _ h => h) (Or.inl ⟨by rfl, ?_⟩) ?_ ?_
       rotate_left
       ·intro w'
        go_simp
        with_reducible rfl
       rotate_left
       ·simp only [Act.put, p1g, p2g, p3g, i64_w, i32_w]
        rfl
       refine inv_at [2, 3, 4, 5, 7, 8, 9, 10, 11] (fun a0_ b a w' => ∃ (v323 : Value) (adz_v323 : Addr) (m8_ : Value), a = putSel a0_ b [(2, 14, .int .i64 (wrap64 (Int.tdiv a0 8))), (3, 15, .string t321), (4, 16, .string ((⟨#[]⟩ : ByteArray) ++ t321)), (5, 17, v323), (7, 19, .int .i64 ji20), (8, 20, m8_), (9, 21, .string (rdOf ByteArray.empty y322 (ji20))), (10, 22, .string (((⟨#[]⟩ : ByteArray) ++ t321) ++ (rdOf ByteArray.empty y322 (ji20)))), (11, 2, .string (((⟨#[]⟩ : ByteArray) ++ t321) ++ (rdOf ByteArray.empty y322 (ji20))))] ∧ (Below w.heap.size w w') ∧ (b 5 = true → Kd.R Kd.string 9 w' w.heap.size (fun _ => True) v323 y322) ∧ (b 5 = true → ∃ c_, (v323 : Value) = .slice (some adz_v323) y322.length c_) ∧ (b 8 = true → (m8_ : Value) = .pointer (some (adz_v323.add ((ji20)).toNat)))) HT_.out HW_.out (by kernel_rfl) (by kernel_rfl) ?_ ?_ ?_
       ·exact ⟨.bool false, ⟨0, 0, none⟩, .bool false, by simp only [putSel, Bool.false_eq_true, if_false], HB.out, fun h_ => absurd h_ (by decide), fun h_ => absurd h_ (by decide), fun h_ => absurd h_ (by decide)⟩
       ·skip
        clear HB
        refine steps_cons ?_ ?_
        ·rintro b a w' ⟨v323, adz_v323, m8_, ha, Q_HB, Q_HO324, Q_HA_HO324, Q_X8_⟩ hb_ hon hoff
         refine ⟨_, rfl, fun K hK => ?_⟩
         have e13 : a.tmps[13]? = some (.int .i64 a0) := by rw [ha]; exact (putSel_off rfl).trans rfl
         replace ha := qgg ha
         have HB := qgg Q_HB
         refine value_ (w1 := w') (v := .int .i64 (wrap64 (Int.tdiv a0 8))) (by rfl) rfl ?_ ?_
         ·go_simp
          (try simp only [i64_w])
          try rfl
          try (first | omega | (rw [ByteArray.size_append] at c23; exact c23) | (have z_ := c23; rw [ByteArray.size_append] at z_; have z2_ : (⟨#[]⟩ : ByteArray).size = 0 := rfl; omega))
         refine hK.out _ _ ⟨v323, adz_v323, m8_, (by rw [ha.out]; exact putSel_upk 0 hb_ rfl rfl rfl), Q_HB, Q_HO324, Q_HA_HO324, Q_X8_⟩
        refine steps_cons ?_ ?_
        ·rintro b a w' ⟨v323, adz_v323, m8_, ha, Q_HB, Q_HO324, Q_HA_HO324, Q_X8_⟩ hb_ hon hoff
         refine ⟨_, rfl, fun K hK => ?_⟩
         have e14 : a.tmps[14]? = some (.int .i64 (wrap64 (Int.tdiv a0 8))) := by rw [ha]; exact putSel_on (e := (2, 14, .int .i64 (wrap64 (Int.tdiv a0 8)))) 0 rfl rfl (hon 2 (by kernel_rfl)) rfl
         replace ha := qgg ha
         have HB := qgg Q_HB
         refine goes_ Tryd.func15 (by kernel_rfl) rfl #[.int .i64 (wrap64 (Int.tdiv a0 8))] (by rfl) rfl rfl (by first | (simp only [List.map_toArray, List.map_cons, List.map_nil, Act.eval, Array.getD_eq_getD_getElem?, Option.getD_some, e14]; done) | (simp only [List.map_toArray, List.map_cons, List.map_nil, Act.eval, Array.getD_eq_getD_getElem?, Option.getD_some, e14]; rfl)) ?_
         with_reducible refine (spec_FormatNumber.calls k (wrap64 (Int.tdiv a0 8)) t321 _ A18.out).mono ?_
         rintro e w25 ⟨rfl, hb⟩
         refine ⟨_, rfl, ?_⟩
         have n0_ := qgg (q9g (by repeat (first | (with_reducible first | exact HB.out | apply q1g | apply q2g | apply q3g) | exact HB.out)) hb)
         have z_HO324 := fun (h0_ : b 5 = true) => (show Kd.R Kd.string 9 w25 w.heap.size (fun _ => True) v323 y322 from by first | exact (qjg (by (with_reducible repeat (first | apply qkg | apply qlg | apply qmg)); exact (Q_HO324 h0_)) hb) | exact Kd.R_mono (qjg (by (with_reducible repeat (first | apply qkg | apply qlg | apply qmg)); exact (Q_HO324 h0_)) hb) (fun _ h_ => by first | trivial | exact h_ | exact h_.1))
         clear HB
         have HB := n0_
         clear n0_
         (try clear hb)
         (try clear hb2)
         (try clear hk)
         (try clear hi)
         refine hK.out _ _ ⟨v323, adz_v323, m8_, (by rw [ha.out]; exact putSel_upk 1 hb_ rfl rfl rfl), (by repeat (first | (with_reducible first | exact HB.out | apply q1g | apply q2g | apply q3g) | exact HB.out)), z_HO324, Q_HA_HO324, Q_X8_⟩
        refine steps_cons ?_ ?_
        ·rintro b a w' ⟨v323, adz_v323, m8_, ha, Q_HB, Q_HO324, Q_HA_HO324, Q_X8_⟩ hb_ hon hoff
         refine ⟨_, rfl, fun K hK => ?_⟩
         have e12 : a.tmps[12]? = some (.string (⟨#[]⟩ : ByteArray)) := by rw [ha]; exact (putSel_off rfl).trans rfl
         have e15 : a.tmps[15]? = some (.string t321) := by rw [ha]; exact putSel_on (e := (3, 15, .string t321)) 1 rfl rfl (hon 3 (by kernel_rfl)) rfl
         replace ha := qgg ha
         have HB := qgg Q_HB
         refine value_ (w1 := w') (v := .string ((⟨#[]⟩ : ByteArray) ++ t321)) (by rfl) rfl ?_ ?_
         ·go_simp
          (try simp only [i64_w])
          try rfl
          try (first | omega | (rw [ByteArray.size_append] at c23; exact c23) | (have z_ := c23; rw [ByteArray.size_append] at z_; have z2_ : (⟨#[]⟩ : ByteArray).size = 0 := rfl; omega))
         refine hK.out _ _ ⟨v323, adz_v323, m8_, (by rw [ha.out]; exact putSel_upk 2 hb_ rfl rfl rfl), Q_HB, Q_HO324, Q_HA_HO324, Q_X8_⟩
        refine steps_cons ?_ ?_
        ·rintro b a w' ⟨v323, adz_v323, m8_, ha, Q_HB, Q_HO324, Q_HA_HO324, Q_X8_⟩ hb_ hon hoff
         refine ⟨_, rfl, fun K hK => ?_⟩
         replace ha := qgg ha
         have HB := qgg Q_HB
         refine Kd.R_lit_step Kd.string _ 9 ?hg (N := 17) ?hd (xs := ([(⟨#[]⟩ : ByteArray), (⟨#[46, 49, 50, 53]⟩ : ByteArray), (⟨#[46, 50, 53]⟩ : ByteArray), (⟨#[46, 51, 55, 53]⟩ : ByteArray), (⟨#[46, 53]⟩ : ByteArray), (⟨#[46, 54, 50, 53]⟩ : ByteArray), (⟨#[46, 55, 53]⟩ : ByteArray), (⟨#[46, 56, 55, 53]⟩ : ByteArray)] : List ByteArray)) (inner := [.string (⟨#[]⟩ : ByteArray), .string (⟨#[46, 49, 50, 53]⟩ : ByteArray), .string (⟨#[46, 50, 53]⟩ : ByteArray), .string (⟨#[46, 51, 55, 53]⟩ : ByteArray), .string (⟨#[46, 53]⟩ : ByteArray), .string (⟨#[46, 54, 50, 53]⟩ : ByteArray), .string (⟨#[46, 55, 53]⟩ : ByteArray), .string (⟨#[46, 56, 55, 53]⟩ : ByteArray)]) (ok := fun _ => True) (okp := fun _ => True) ?hr ?hp (fun _ hk => hk) trivial (Below.refl _ _) (Nat.le_refl _) (by simp) ?_; (case hd => rfl); (case hg => rfl); (case hr => first | (go_simp; done) | (go_simp; rfl)); (case hp => exact (Reps.one (show Kd.M Kd.string _ _ _ (⟨#[]⟩ : ByteArray) [.string (⟨#[]⟩ : ByteArray)] from rfl) (Reps.one (show Kd.M Kd.string _ _ _ (⟨#[46, 49, 50, 53]⟩ : ByteArray) [.string (⟨#[46, 49, 50, 53]⟩ : ByteArray)] from rfl) (Reps.one (show Kd.M Kd.string _ _ _ (⟨#[46, 50, 53]⟩ : ByteArray) [.string (⟨#[46, 50, 53]⟩ : ByteArray)] from rfl) (Reps.one (show Kd.M Kd.string _ _ _ (⟨#[46, 51, 55, 53]⟩ : ByteArray) [.string (⟨#[46, 51, 55, 53]⟩ : ByteArray)] from rfl) (Reps.one (show Kd.M Kd.string _ _ _ (⟨#[46, 53]⟩ : ByteArray) [.string (⟨#[46, 53]⟩ : ByteArray)] from rfl) (Reps.one (show Kd.M Kd.string _ _ _ (⟨#[46, 54, 50, 53]⟩ : ByteArray) [.string (⟨#[46, 54, 50, 53]⟩ : ByteArray)] from rfl) (Reps.one (show Kd.M Kd.string _ _ _ (⟨#[46, 55, 53]⟩ : ByteArray) [.string (⟨#[46, 55, 53]⟩ : ByteArray)] from rfl) (Reps.one (show Kd.M Kd.string _ _ _ (⟨#[46, 56, 55, 53]⟩ : ByteArray) [.string (⟨#[46, 56, 55, 53]⟩ : ByteArray)] from rfl) (Reps.none _ _))))))))))
         intro v323 w25 ho26 hb hg_ hnew_
         clear hg_ hnew_
         (first | rw [← Ny322.out] at ho26 | (simp only [Int.reduceToNat] at ho26; rw [← Ny322.out] at ho26))
         have n0_ := qgg (Kd.R_lower ho26 (qag (by repeat (first | (with_reducible first | exact HB.out | apply q1g | apply q2g | apply q3g) | exact HB.out))))
         have n1_ := qgg (q9g (by repeat (first | (with_reducible first | exact HB.out | apply q1g | apply q2g | apply q3g) | exact HB.out)) hb)
         clear HB
         have HO324 := n0_
         have HB := n1_
         clear n0_ n1_
         clear hb ho26
         obtain ⟨Ao27, co27, eo27⟩ := Kd.R_slice HO324.out
         subst eo27
         obtain ⟨ado27, fo27, _⟩ := Kd.at_string (Kd.R_reads' HO324.out).2.2 0 (by decide) (by rw [Ny322.out]; simp)
         cases fo27
         refine hK.out _ _ ⟨.slice (some ado27) y322.length co27, ado27, m8_, (by rw [ha.out]; exact putSel_upk 3 hb_ rfl rfl rfl), (by repeat (first | (with_reducible first | exact HB.out | apply q1g | apply q2g | apply q3g) | exact HB.out)), fun _ => (by (with_reducible repeat (first | apply qkg | apply qlg | apply qmg)); exact HO324.out), fun _ => ⟨_, rfl⟩, fun h0_ => absurd ((hoff 8 (by kernel_rfl)).symm.trans h0_) (by decide)⟩
        refine steps_cons ?_ ?_
        ·rintro b a w' ⟨v323, adz_v323, m8_, ha, Q_HB, Q_HO324, Q_HA_HO324, Q_X8_⟩ hb_ hon hoff
         refine ⟨_, rfl, fun K hK => ?_⟩
         have e18 : a.tmps[18]? = some (.int .i64 a0) := by rw [ha]; exact (putSel_off rfl).trans rfl
         replace ha := qgg ha
         have HB := qgg Q_HB
         refine value_ (w1 := w') (v := .int .i64 ji20) (by rfl) rfl ?_ ?_
         ·go_simp
          (try simp only [i64_w])
          try rfl
          try (first | omega | (rw [ByteArray.size_append] at c23; exact c23) | (have z_ := c23; rw [ByteArray.size_append] at z_; have z2_ : (⟨#[]⟩ : ByteArray).size = 0 := rfl; omega))
         refine hK.out _ _ ⟨v323, adz_v323, m8_, (by rw [ha.out]; exact putSel_upk 4 hb_ rfl rfl rfl), Q_HB, Q_HO324, Q_HA_HO324, fun h0_ => absurd ((hoff 8 (by kernel_rfl)).symm.trans h0_) (by decide)⟩
        refine steps_cons ?_ ?_
        ·rintro b a w' ⟨v323, adz_v323, m8_, ha, Q_HB, Q_HO324, Q_HA_HO324, Q_X8_⟩ hb_ hon hoff
         refine ⟨_, rfl, fun K hK => ?_⟩
         have e17 : a.tmps[17]? = some (v323) := by rw [ha]; exact putSel_on (e := (5, 17, v323)) 3 rfl rfl (hon 5 (by kernel_rfl)) rfl
         have e19 : a.tmps[19]? = some (.int .i64 ji20) := by rw [ha]; exact putSel_on (e := (7, 19, .int .i64 ji20)) 4 rfl rfl (hon 7 (by kernel_rfl)) rfl
         replace ha := qgg ha
         have HB := qgg Q_HB
         have HO324 := qgg (Q_HO324 (hon 5 (by kernel_rfl)))
         have HA_HO324 := qgg (Q_HA_HO324 (hon 5 (by kernel_rfl)))
         obtain ⟨c_, hv_⟩ := HA_HO324.out
         rw [hv_] at e17
         refine value_ (w1 := w') (v := .pointer (some (adz_v323.add ((ji20)).toNat))) (by rfl) rfl ?_ ?_
         ·go_simp
          (try simp only [i64_w])
          try rfl
          try (first | omega | (rw [ByteArray.size_append] at c23; exact c23) | (have z_ := c23; rw [ByteArray.size_append] at z_; have z2_ : (⟨#[]⟩ : ByteArray).size = 0 := rfl; omega))
         refine hK.out _ _ ⟨v323, adz_v323, (.pointer (some (adz_v323.add ((ji20)).toNat))), (by rw [ha.out]; exact putSel_upk 5 hb_ rfl rfl rfl), Q_HB, Q_HO324, Q_HA_HO324, fun _ => rfl⟩
        refine steps_cons ?_ ?_
        ·rintro b a w' ⟨v323, adz_v323, m8_, ha, Q_HB, Q_HO324, Q_HA_HO324, Q_X8_⟩ hb_ hon hoff
         refine ⟨_, rfl, fun K hK => ?_⟩
         have e20 : a.tmps[20]? = some (m8_) := by rw [ha]; exact putSel_on (e := (8, 20, m8_)) 5 rfl rfl (hon 8 (by kernel_rfl)) rfl
         rw [Q_X8_ (hon 8 (by kernel_rfl))] at e20
         replace ha := qgg ha
         have HB := qgg Q_HB
         have HO324 := qgg (Q_HO324 (hon 5 (by kernel_rfl)))
         have HA_HO324 := qgg (Q_HA_HO324 (hon 5 (by kernel_rfl)))
         obtain ⟨c_, hv_⟩ := HA_HO324.out
         have hF_ := HO324.out
         rw [hv_] at hF_
         obtain ⟨ad_, ea_, hx_⟩ := Kd.at_string (Kd.R_reads' hF_).2.2 (ji20) (of_eq_true pi325) (of_eq_true qi325)
         cases ea_
         refine value_ (w1 := w') (v := .string (rdOf ByteArray.empty y322 (ji20))) (by rfl) rfl ?_ ?_
         ·go_simp
          (try simp only [i64_w])
          try rfl
          try (first | omega | (rw [ByteArray.size_append] at c23; exact c23) | (have z_ := c23; rw [ByteArray.size_append] at z_; have z2_ : (⟨#[]⟩ : ByteArray).size = 0 := rfl; omega))
         refine hK.out _ _ ⟨v323, adz_v323, m8_, (by rw [ha.out]; exact putSel_upk 6 hb_ rfl rfl rfl), Q_HB, Q_HO324, Q_HA_HO324, Q_X8_⟩
        refine steps_cons ?_ ?_
        ·rintro b a w' ⟨v323, adz_v323, m8_, ha, Q_HB, Q_HO324, Q_HA_HO324, Q_X8_⟩ hb_ hon hoff
         refine ⟨_, rfl, fun K hK => ?_⟩
         have e16 : a.tmps[16]? = some (.string ((⟨#[]⟩ : ByteArray) ++ t321)) := by rw [ha]; exact putSel_on (e := (4, 16, .string ((⟨#[]⟩ : ByteArray) ++ t321))) 2 rfl rfl (hon 4 (by kernel_rfl)) rfl
         have e21 : a.tmps[21]? = some (.string (rdOf ByteArray.empty y322 (ji20))) := by rw [ha]; exact putSel_on (e := (9, 21, .string (rdOf ByteArray.empty y322 (ji20)))) 6 rfl rfl (hon 9 (by kernel_rfl)) rfl
         replace ha := qgg ha
         have HB := qgg Q_HB
         have HO324 := qgg (Q_HO324 (hon 5 (by kernel_rfl)))
         have HA_HO324 := qgg (Q_HA_HO324 (hon 5 (by kernel_rfl)))
         refine value_ (w1 := w') (v := .string (((⟨#[]⟩ : ByteArray) ++ t321) ++ (rdOf ByteArray.empty y322 (ji20)))) (by rfl) rfl ?_ ?_
         ·go_simp
          (try simp only [i64_w])
          try rfl
          try (first | omega | (rw [ByteArray.size_append] at c23; exact c23) | (have z_ := c23; rw [ByteArray.size_append] at z_; have z2_ : (⟨#[]⟩ : ByteArray).size = 0 := rfl; omega))
         refine hK.out _ _ ⟨v323, adz_v323, m8_, (by rw [ha.out]; exact putSel_upk 7 hb_ rfl rfl rfl), Q_HB, Q_HO324, Q_HA_HO324, Q_X8_⟩
        refine steps_cons ?_ ?_
        ·rintro b a w' ⟨v323, adz_v323, m8_, ha, Q_HB, Q_HO324, Q_HA_HO324, Q_X8_⟩ hb_ hon hoff
         refine ⟨_, rfl, fun K hK => ?_⟩
         have e22 : a.tmps[22]? = some (.string (((⟨#[]⟩ : ByteArray) ++ t321) ++ (rdOf ByteArray.empty y322 (ji20)))) := by rw [ha]; exact putSel_on (e := (10, 22, .string (((⟨#[]⟩ : ByteArray) ++ t321) ++ (rdOf ByteArray.empty y322 (ji20))))) 7 rfl rfl (hon 10 (by kernel_rfl)) rfl
         replace ha := qgg ha
         have HB := qgg Q_HB
         have HO324 := qgg (Q_HO324 (hon 5 (by kernel_rfl)))
         have HA_HO324 := qgg (Q_HA_HO324 (hon 5 (by kernel_rfl)))
         refine value_ (w1 := w') (v := .string (((⟨#[]⟩ : ByteArray) ++ t321) ++ (rdOf ByteArray.empty y322 (ji20)))) (by rfl) rfl ?_ ?_
         ·go_simp
          (try simp only [i64_w])
          try rfl
          try (first | omega | (rw [ByteArray.size_append] at c23; exact c23) | (have z_ := c23; rw [ByteArray.size_append] at z_; have z2_ : (⟨#[]⟩ : ByteArray).size = 0 := rfl; omega))
         refine hK.out _ _ ⟨v323, adz_v323, m8_, (by rw [ha.out]; exact putSel_upk 8 hb_ rfl rfl rfl), Q_HB, Q_HO324, Q_HA_HO324, Q_X8_⟩
        exact steps_nil
       rintro b a w29 hall ⟨v323, adz_v323, m8_, ha, Q_HB, Q_HO324, Q_HA_HO324, Q_X8_⟩
       clear HB
       have hb2_ := hall 2 (by kernel_rfl)
       have hb3_ := hall 3 (by kernel_rfl)
       have hb4_ := hall 4 (by kernel_rfl)
       have hb5_ := hall 5 (by kernel_rfl)
       have hb7_ := hall 7 (by kernel_rfl)
       have hb8_ := hall 8 (by kernel_rfl)
       have hb9_ := hall 9 (by kernel_rfl)
       have hb10_ := hall 10 (by kernel_rfl)
       have hb11_ := hall 11 (by kernel_rfl)
       subst ha
       obtain rfl := Q_X8_ hb8_
       simp only [putSel, hb2_, hb3_, hb4_, hb5_, hb7_, hb8_, hb9_, hb10_, hb11_, if_true, Act.put, p1g, p2g, p3g]
       have HB := qgg Q_HB
       clear Q_HB
       have HO324 := qgg (Q_HO324 hb5_)
       clear Q_HO324
       have HA_HO324 := qgg (Q_HA_HO324 hb5_)
       clear Q_HA_HO324
       clear hall hb2_ hb3_ hb4_ hb5_ hb7_ hb8_ hb9_ hb10_ hb11_
       obtain ⟨co30, eo30⟩ := HA_HO324.out
       clear HA_HO324
       subst eo30
       try go_wp2
       go_ret
       exact ⟨by first | rfl | (simp [errW_none, errW_some] <;> rfl) | (simp only [← hji20]; first | rfl | (simp [errW_none, errW_some] <;> rfl)) | (simp [*, errW_none, errW_some] <;> rfl), by repeat (first | (with_reducible first | exact HB.out | apply q1g | apply q2g | apply q3g) | exact HB.out)⟩
      ·rw [if_neg c23] at H
       exact absurd H (by simp)
     ·rw [if_neg c22] at H
      exact absurd H (by simp)
    ·rw [if_neg c21] at H
     exact absurd H (by simp)
   ·rw [if_neg c19] at H
    exact absurd H (by simp)
 ·replace c3 := Bool.eq_false_iff.mpr c3
  subst c3
  have H1 : (some (⟨#[]⟩ : ByteArray)) = some r := by rw [if_neg (show ¬ (false = true) by decide)] at H; exact H
  clear H
  have H := H1
  clear H1
  obtain rfl := Option.some.inj H
  go_enter Tryd.func22, Tryd.ntmps22
  go_wp2_with (first | ((with_reducible refine qtg (f := 46) rfl ?_); refine goesL_ (some 5) rfl rfl Tryd.func46 (by kernel_rfl) rfl #[.int .i64 a0] rfl (by (try simp only [List.map_toArray, List.map_cons, List.map_nil]); first | done | rfl | (simp only [List.length_drop, List.length_take]; rfl)) ?_; (with_reducible refine (spec_IsMeasure.calls a0 false _ A2.out).mono ?_); rintro e w' ⟨rfl, ⟨nd, rfl⟩⟩; refine ⟨_, rfl, ?_⟩))
  go_ret
  exact ⟨by first | rfl | (simp [errW_none, errW_some] <;> rfl) | (simp [*, errW_none, errW_some] <;> rfl), by repeat (first | (with_reducible first | exact HB.out | apply q1g | apply q2g | apply q3g) | exact HB.out)⟩
/-! ### spec_IsPlace: function 50 -/
def spec_IsPlace.f (a0_0 : Int) (a0_1 : Int) : Option (Bool) := (spec_IsMeasure.f a0_0).bind fun t327 => (if t327 = true then ((spec_IsMeasure.f a0_1).bind fun t328 => (some t328)) else (some false))
set_option maxHeartbeats 8000000 in
set_option maxRecDepth 100000 in
theorem spec_IsPlace.calls (a0_0 : Int) (a0_1 : Int) (r : Bool) (w : World) (h : spec_IsPlace.f a0_0 a0_1 = some r) :
 Calls Tryd.prog 50 #[.agg #[.int .i64 a0_0, .int .i64 a0_1]] w fun e w' => e = .returned (.bool r) ∧ Below w.heap.size w w' := by
 have hu35 := Tryd.underlying35
 have HB := qgg (Below.refl w.heap.size w)
 have H : ((spec_IsMeasure.f a0_0).bind fun t327 => (if t327 = true then ((spec_IsMeasure.f a0_1).bind fun t328 => (some t328)) else (some false))) = some r := h
 clear h
 replace H := Option.bind_eq_some_iff.mp H
 obtain ⟨t327, A20, H⟩ := H
 replace H : (if t327 = true then ((spec_IsMeasure.f a0_1).bind fun t328 => (some t328)) else (some false)) = some r := H
 have A2 := qgg A20
 clear A20
 by_cases c3 : t327 = true
 ·subst c3
  have H1 : ((spec_IsMeasure.f a0_1).bind fun t328 => (some t328)) = some r := by rw [if_pos rfl] at H; exact H
  clear H
  have H := H1
  clear H1
  replace H := Option.bind_eq_some_iff.mp H
  obtain ⟨t328, A40, H⟩ := H
  replace H : (some t328) = some r := H
  have A4 := qgg A40
  clear A40
  obtain rfl := Option.some.inj H
  go_enter Tryd.func50, Tryd.ntmps50
  go_wp2_with (first | ((with_reducible refine qug (N := 1) rfl ?_); refine qhg ?hg (N := 1) ?hd (cs := #[.int .i64 a0_0, .int .i64 a0_1]) (t := 35) ?hr ?_; (case hd => rfl); (case hg => rfl); (case hr => first | (go_simp; done) | (go_simp; rfl)); intro gb326 hg w5 hbox hb; have n0_ := qgg (q9g (by repeat (first | (with_reducible first | exact HB.out | apply q1g | apply q2g | apply q3g) | exact HB.out)) hb); have n1_ := qgg (hbox); have n2_ := qgg ((by rw [hg]; exact (qag (by repeat (first | (with_reducible first | exact HB.out | apply q1g | apply q2g | apply q3g) | exact HB.out))) : w.heap.size ≤ gb326)); have n3_ := qgg ((by rw [hg]; exact (qag (by repeat (first | (with_reducible first | exact HB.out | apply q1g | apply q2g | apply q3g) | exact HB.out))) : w.heap.size ≤ gb326)); clear HB; have HB := n0_; have BK326 := n1_; have GW326 := n2_; have GE326 := n3_; clear n0_ n1_ n2_ n3_; clear hb hbox hg; have hcz6_0 : w5.cell? ⟨gb326, 0, none⟩ = some (.int .i64 a0_0) := (qcg BK326.out 0).trans rfl; have hcz6_1 : w5.cell? ⟨gb326, 1, none⟩ = some (.int .i64 a0_1) := (qcg BK326.out 1).trans rfl; have hfz6_0 := qbg BK326.out 0; have hfz6_1 := qbg BK326.out 1) | ((with_reducible refine qtg (f := 46) rfl ?_); refine goesL_ (some 5) rfl rfl Tryd.func46 (by kernel_rfl) rfl #[.int .i64 a0_0] rfl (by (try simp only [List.map_toArray, List.map_cons, List.map_nil]); first | done | rfl | (simp only [List.length_drop, List.length_take]; rfl)) ?_; (with_reducible refine (spec_IsMeasure.calls a0_0 true _ A2.out).mono ?_); rintro e w' ⟨rfl, ⟨nd, rfl⟩⟩; refine ⟨_, rfl, ?_⟩) | (go_at_call 46; (with_reducible refine (spec_IsMeasure.calls a0_1 t328 _ A4.out).mono ?_); rintro e w' ⟨rfl, ⟨nd, rfl⟩⟩))
  go_ret
  exact ⟨by first | rfl | (simp [errW_none, errW_some] <;> rfl) | (simp [*, errW_none, errW_some] <;> rfl), by repeat (first | (with_reducible first | exact HB.out | apply q1g | apply q2g | apply q3g | refine q4g ?_ GE326.out) | exact HB.out)⟩
 ·replace c3 := Bool.eq_false_iff.mpr c3
  subst c3
  have H1 : (some false) = some r := by rw [if_neg (show ¬ (false = true) by decide)] at H; exact H
  clear H
  have H := H1
  clear H1
  obtain rfl := Option.some.inj H
  go_enter Tryd.func50, Tryd.ntmps50
  go_wp2_with (first | ((with_reducible refine qug (N := 1) rfl ?_); refine qhg ?hg (N := 1) ?hd (cs := #[.int .i64 a0_0, .int .i64 a0_1]) (t := 35) ?hr ?_; (case hd => rfl); (case hg => rfl); (case hr => first | (go_simp; done) | (go_simp; rfl)); intro gb326 hg w7 hbox hb; have n0_ := qgg (q9g (by repeat (first | (with_reducible first | exact HB.out | apply q1g | apply q2g | apply q3g) | exact HB.out)) hb); have n1_ := qgg (hbox); have n2_ := qgg ((by rw [hg]; exact (qag (by repeat (first | (with_reducible first | exact HB.out | apply q1g | apply q2g | apply q3g) | exact HB.out))) : w.heap.size ≤ gb326)); have n3_ := qgg ((by rw [hg]; exact (qag (by repeat (first | (with_reducible first | exact HB.out | apply q1g | apply q2g | apply q3g) | exact HB.out))) : w.heap.size ≤ gb326)); clear HB; have HB := n0_; have BK326 := n1_; have GW326 := n2_; have GE326 := n3_; clear n0_ n1_ n2_ n3_; clear hb hbox hg; have hcz8_0 : w7.cell? ⟨gb326, 0, none⟩ = some (.int .i64 a0_0) := (qcg BK326.out 0).trans rfl; have hcz8_1 : w7.cell? ⟨gb326, 1, none⟩ = some (.int .i64 a0_1) := (qcg BK326.out 1).trans rfl; have hfz8_0 := qbg BK326.out 0; have hfz8_1 := qbg BK326.out 1) | ((with_reducible refine qtg (f := 46) rfl ?_); refine goesL_ (some 5) rfl rfl Tryd.func46 (by kernel_rfl) rfl #[.int .i64 a0_0] rfl (by (try simp only [List.map_toArray, List.map_cons, List.map_nil]); first | done | rfl | (simp only [List.length_drop, List.length_take]; rfl)) ?_; (with_reducible refine (spec_IsMeasure.calls a0_0 false _ A2.out).mono ?_); rintro e w' ⟨rfl, ⟨nd, rfl⟩⟩; refine ⟨_, rfl, ?_⟩))
  go_ret
  exact ⟨by first | rfl | (simp [errW_none, errW_some] <;> rfl) | (simp [*, errW_none, errW_some] <;> rfl), by repeat (first | (with_reducible first | exact HB.out | apply q1g | apply q2g | apply q3g | refine q4g ?_ GE326.out) | exact HB.out)⟩
end Go.Proofs.YtcnkfnkdcjpkoaaDoor.PFnJetText
