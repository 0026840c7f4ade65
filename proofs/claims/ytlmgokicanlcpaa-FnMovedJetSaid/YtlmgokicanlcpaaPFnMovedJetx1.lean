-- A printed text, shortened by wip/tools/squeeze.py.
import Derived.Test.YtlmgokicanlcpaaPFnMovedJetx0
namespace Go.Proofs.Ytlmgokicanlcpaa.PFnMovedJet
open Go.RowKit Go.Proofs.YtlmgokicanlcpaaW.PrintWords Go.Proofs.YtlmgokicanlcpaaW.PrintLast Go.Proofs.YtlmgokicanlcpaaW.PrintMore
attribute [local go_sem] max2_int min2_int max_two min_two max_three min_three max_four min_four   -- for this text's walks alone
set_option linter.unusedVariables false
set_option linter.unusedSimpArgs false

theorem p1b : type_of% @List.setIfInBounds_toArray := @List.setIfInBounds_toArray
theorem p2b : type_of% @List.set_cons_zero := @List.set_cons_zero
theorem p3b : type_of% @List.set_cons_succ := @List.set_cons_succ
theorem q1b : type_of% @below_alloc := @below_alloc
theorem q2b : type_of% @pw_below_drewN := @pw_below_drewN
theorem q3b : type_of% @below_drew1 := @below_drew1
theorem q4b : type_of% @below_set := @below_set
theorem q5b : type_of% @blk_drewN := @blk_drewN
theorem q6b : type_of% @blk_drew := @blk_drew
theorem q7b : type_of% @blk_alloc := @blk_alloc
theorem q8b : type_of% @blk_below := @blk_below
theorem q9b : type_of% @below_step := @below_step
theorem qab : type_of% @below_size := @below_size
theorem qbb : type_of% @blk_frozen := @blk_frozen
theorem qcb : type_of% @blk_cell := @blk_cell
theorem qdb : type_of% @blk_lt := @blk_lt
theorem qeb : type_of% @blk_far := @blk_far
theorem qfb : type_of% @blk_put := @blk_put
theorem qgb : type_of% @Aside0.mk := @Aside0.mk
theorem qhb : type_of% @box_event := @box_event
theorem qib : type_of% @cell_far := @cell_far
theorem qtb : type_of% @gate_callee := @gate_callee
theorem qub : type_of% @gate_dst := @gate_dst
theorem qvb : type_of% @Nat.ne_of_lt := @Nat.ne_of_lt
theorem qwb : type_of% @Nat.ne_of_gt := @Nat.ne_of_gt
/-! ### impl_isWithin: function 79 -/
def impl_isWithin.f (a0 : Int) (a1 : Int) (a2 : Int) : Option (Bool) := if a1 ≤ a0 then (some (decide (a0 ≤ a2))) else (some false)
set_option maxHeartbeats 8000000 in
set_option maxRecDepth 100000 in
theorem impl_isWithin.calls (a0 : Int) (a1 : Int) (a2 : Int) (r : Bool) (w : World) (h : impl_isWithin.f a0 a1 a2 = some r) :
 Calls Try.prog 79 #[.int .i64 a0, .int .i64 a1, .int .i64 a2] w fun e w' => e = .returned (.bool r) ∧ Drawn0 w w' := by
 have H : (if a1 ≤ a0 then (some (decide (a0 ≤ a2))) else (some false)) = some r := h
 clear h
 by_cases c4 : a1 ≤ a0
 ·rw [if_pos c4] at H
  have c4b0 : decide (a1 ≤ a0) = true := decide_eq_true c4
  clear c4
  obtain rfl := Option.some.inj H
  go_enter Try.func79, Try.ntmps79
  go_wp2
  go_ret
  exact ⟨by first | rfl | (simp; done) | (simp [*]; done), by repeat (first | exact Drawn0.refl _ | apply Drawn0.step)⟩
 ·rw [if_neg c4] at H
  have c4b0 : decide (a1 ≤ a0) = false := decide_eq_false c4
  clear c4
  obtain rfl := Option.some.inj H
  go_enter Try.func79, Try.ntmps79
  go_wp2
  go_ret
  exact ⟨by first | rfl | (simp; done) | (simp [*]; done), by repeat (first | exact Drawn0.refl _ | apply Drawn0.step)⟩
/-! ### impl_IsHeading: function 91 -/
def impl_IsHeading.f (a0 : Int) : Option (Bool) := (impl_isWithin.f a0 0 3).bind fun t101 => (some t101)
set_option maxHeartbeats 8000000 in
set_option maxRecDepth 100000 in
theorem impl_IsHeading.calls (a0 : Int) (r : Bool) (w : World) (h : impl_IsHeading.f a0 = some r) :
 Calls Try.prog 91 #[.int .i64 a0] w fun e w' => e = .returned (.bool r) ∧ Drawn0 w w' := by
 have H : ((impl_isWithin.f a0 0 3).bind fun t101 => (some t101)) = some r := h
 clear h
 replace H := Option.bind_eq_some_iff.mp H
 obtain ⟨t101, A20, H⟩ := H
 replace H : (some t101) = some r := H
 have A2 := qgb A20
 clear A20
 obtain rfl := Option.some.inj H
 go_enter Try.func91, Try.ntmps91
 go_wp2_with (first | ((with_reducible refine qtb (f := 79) rfl ?_); refine goesL_ (some 4) rfl rfl Try.func79 (by kernel_rfl) rfl #[.int .i64 a0, .int .i64 0, .int .i64 3] rfl (by (try simp only [List.map_toArray, List.map_cons, List.map_nil]); first | done | rfl | (simp only [List.length_drop, List.length_take]; rfl)) ?_; (with_reducible refine (impl_isWithin.calls a0 0 3 t101 _ A2.out).mono ?_); rintro e w' ⟨rfl, ⟨nd, rfl⟩⟩; refine ⟨_, rfl, ?_⟩))
 go_ret
 exact ⟨by first | rfl | (simp; done) | (simp [*]; done), by repeat (first | exact Drawn0.refl _ | apply Drawn0.step)⟩
/-! ### impl_IsJet: function 54 -/
def impl_IsJet.f (a0_0 : Int) (a0_1 : Int) (a0_2 : Int) (a0_3 : Int) (a0_4 : Int) : Option (Bool) := (impl_isWithin.f a0_0 (-1024) 1024).bind fun t103 => (if t103 = true then ((impl_isWithin.f a0_1 (-1024) 1024).bind fun t104 => (if t104 = true then ((impl_IsHeading.f a0_2).bind fun t105 => (if t105 = true then ((impl_isWithin.f a0_3 0 16).bind fun t106 => (if t106 = true then ((impl_isWithin.f a0_4 1 32).bind fun t107 => (some t107)) else (some false))) else (some false))) else (some false))) else (some false))
set_option maxHeartbeats 8000000 in
set_option maxRecDepth 100000 in
theorem impl_IsJet.calls (a0_0 : Int) (a0_1 : Int) (a0_2 : Int) (a0_3 : Int) (a0_4 : Int) (r : Bool) (w : World) (h : impl_IsJet.f a0_0 a0_1 a0_2 a0_3 a0_4 = some r) :
 Calls Try.prog 54 #[.agg #[.int .i64 a0_0, .int .i64 a0_1, .int .i64 a0_2, .int .i64 a0_3, .int .i64 a0_4]] w fun e w' => e = .returned (.bool r) ∧ Below w.heap.size w w' := by
 have hu28 := Try.underlying28
 have HB := qgb (Below.refl w.heap.size w)
 have H : ((impl_isWithin.f a0_0 (-1024) 1024).bind fun t103 => (if t103 = true then ((impl_isWithin.f a0_1 (-1024) 1024).bind fun t104 => (if t104 = true then ((impl_IsHeading.f a0_2).bind fun t105 => (if t105 = true then ((impl_isWithin.f a0_3 0 16).bind fun t106 => (if t106 = true then ((impl_isWithin.f a0_4 1 32).bind fun t107 => (some t107)) else (some false))) else (some false))) else (some false))) else (some false))) = some r := h
 clear h
 replace H := Option.bind_eq_some_iff.mp H
 obtain ⟨t103, A20, H⟩ := H
 replace H : (if t103 = true then ((impl_isWithin.f a0_1 (-1024) 1024).bind fun t104 => (if t104 = true then ((impl_IsHeading.f a0_2).bind fun t105 => (if t105 = true then ((impl_isWithin.f a0_3 0 16).bind fun t106 => (if t106 = true then ((impl_isWithin.f a0_4 1 32).bind fun t107 => (some t107)) else (some false))) else (some false))) else (some false))) else (some false)) = some r := H
 have A2 := qgb A20
 clear A20
 by_cases c3 : t103 = true
 ·subst c3
  have H1 : ((impl_isWithin.f a0_1 (-1024) 1024).bind fun t104 => (if t104 = true then ((impl_IsHeading.f a0_2).bind fun t105 => (if t105 = true then ((impl_isWithin.f a0_3 0 16).bind fun t106 => (if t106 = true then ((impl_isWithin.f a0_4 1 32).bind fun t107 => (some t107)) else (some false))) else (some false))) else (some false))) = some r := by rw [if_pos rfl] at H; exact H
  clear H
  have H := H1
  clear H1
  replace H := Option.bind_eq_some_iff.mp H
  obtain ⟨t104, A40, H⟩ := H
  replace H : (if t104 = true then ((impl_IsHeading.f a0_2).bind fun t105 => (if t105 = true then ((impl_isWithin.f a0_3 0 16).bind fun t106 => (if t106 = true then ((impl_isWithin.f a0_4 1 32).bind fun t107 => (some t107)) else (some false))) else (some false))) else (some false)) = some r := H
  have A4 := qgb A40
  clear A40
  by_cases c5 : t104 = true
  ·subst c5
   have H1 : ((impl_IsHeading.f a0_2).bind fun t105 => (if t105 = true then ((impl_isWithin.f a0_3 0 16).bind fun t106 => (if t106 = true then ((impl_isWithin.f a0_4 1 32).bind fun t107 => (some t107)) else (some false))) else (some false))) = some r := by rw [if_pos rfl] at H; exact H
   clear H
   have H := H1
   clear H1
   replace H := Option.bind_eq_some_iff.mp H
   obtain ⟨t105, A60, H⟩ := H
   replace H : (if t105 = true then ((impl_isWithin.f a0_3 0 16).bind fun t106 => (if t106 = true then ((impl_isWithin.f a0_4 1 32).bind fun t107 => (some t107)) else (some false))) else (some false)) = some r := H
   have A6 := qgb A60
   clear A60
   by_cases c7 : t105 = true
   ·subst c7
    have H1 : ((impl_isWithin.f a0_3 0 16).bind fun t106 => (if t106 = true then ((impl_isWithin.f a0_4 1 32).bind fun t107 => (some t107)) else (some false))) = some r := by rw [if_pos rfl] at H; exact H
    clear H
    have H := H1
    clear H1
    replace H := Option.bind_eq_some_iff.mp H
    obtain ⟨t106, A80, H⟩ := H
    replace H : (if t106 = true then ((impl_isWithin.f a0_4 1 32).bind fun t107 => (some t107)) else (some false)) = some r := H
    have A8 := qgb A80
    clear A80
    by_cases c9 : t106 = true
    ·subst c9
     have H1 : ((impl_isWithin.f a0_4 1 32).bind fun t107 => (some t107)) = some r := by rw [if_pos rfl] at H; exact H
     clear H
     have H := H1
     clear H1
     replace H := Option.bind_eq_some_iff.mp H
     obtain ⟨t107, A100, H⟩ := H
     replace H : (some t107) = some r := H
     have A10 := qgb A100
     clear A100
     obtain rfl := Option.some.inj H
     go_enter Try.func54, Try.ntmps54
     go_wp2_with (first | ((with_reducible refine qub (N := 1) rfl ?_); refine qhb ?hg (N := 1) ?hd (cs := #[.int .i64 a0_0, .int .i64 a0_1, .int .i64 a0_2, .int .i64 a0_3, .int .i64 a0_4]) (t := 28) ?hr ?_; (case hd => rfl); (case hg => rfl); (case hr => first | (go_simp; done) | (go_simp; rfl)); intro gb102 hg w11 hbox hb; have n0_ := qgb (q9b (by repeat (first | (with_reducible first | exact HB.out | apply q1b | apply q2b | apply q3b) | exact HB.out)) hb); have n1_ := qgb (hbox); have n2_ := qgb ((by rw [hg]; exact (qab (by repeat (first | (with_reducible first | exact HB.out | apply q1b | apply q2b | apply q3b) | exact HB.out))) : w.heap.size ≤ gb102)); have n3_ := qgb ((by rw [hg]; exact (qab (by repeat (first | (with_reducible first | exact HB.out | apply q1b | apply q2b | apply q3b) | exact HB.out))) : w.heap.size ≤ gb102)); clear HB; have HB := n0_; have BK102 := n1_; have GW102 := n2_; have GE102 := n3_; clear n0_ n1_ n2_ n3_; clear hb hbox hg; have hcz12_0 : w11.cell? ⟨gb102, 0, none⟩ = some (.int .i64 a0_0) := (qcb BK102.out 0).trans rfl; have hcz12_1 : w11.cell? ⟨gb102, 1, none⟩ = some (.int .i64 a0_1) := (qcb BK102.out 1).trans rfl; have hcz12_2 : w11.cell? ⟨gb102, 2, none⟩ = some (.int .i64 a0_2) := (qcb BK102.out 2).trans rfl; have hcz12_3 : w11.cell? ⟨gb102, 3, none⟩ = some (.int .i64 a0_3) := (qcb BK102.out 3).trans rfl; have hcz12_4 : w11.cell? ⟨gb102, 4, none⟩ = some (.int .i64 a0_4) := (qcb BK102.out 4).trans rfl; have hfz12_0 := qbb BK102.out 0; have hfz12_1 := qbb BK102.out 1; have hfz12_2 := qbb BK102.out 2; have hfz12_3 := qbb BK102.out 3; have hfz12_4 := qbb BK102.out 4) | ((with_reducible refine qtb (f := 79) rfl ?_); refine goesL_ (some 6) rfl rfl Try.func79 (by kernel_rfl) rfl #[.int .i64 a0_0, .int .i64 (-1024), .int .i64 1024] rfl (by (try simp only [List.map_toArray, List.map_cons, List.map_nil]); first | done | rfl | (simp only [List.length_drop, List.length_take]; rfl)) ?_; (with_reducible refine (impl_isWithin.calls a0_0 (-1024) 1024 true _ A2.out).mono ?_); rintro e w' ⟨rfl, ⟨nd, rfl⟩⟩; refine ⟨_, rfl, ?_⟩) | (go_at_call 79; (with_reducible refine (impl_isWithin.calls a0_1 (-1024) 1024 true _ A4.out).mono ?_); rintro e w' ⟨rfl, ⟨nd, rfl⟩⟩) | (go_at_call 91; (with_reducible refine (impl_IsHeading.calls a0_2 true _ A6.out).mono ?_); rintro e w' ⟨rfl, ⟨nd, rfl⟩⟩) | (go_at_call 79; (with_reducible refine (impl_isWithin.calls a0_3 0 16 true _ A8.out).mono ?_); rintro e w' ⟨rfl, ⟨nd, rfl⟩⟩) | (go_at_call 79; (with_reducible refine (impl_isWithin.calls a0_4 1 32 t107 _ A10.out).mono ?_); rintro e w' ⟨rfl, ⟨nd, rfl⟩⟩))
     go_ret
     exact ⟨by first | rfl | (simp [errW_none, errW_some] <;> rfl) | (simp [*, errW_none, errW_some] <;> rfl), by repeat (first | (with_reducible first | exact HB.out | apply q1b | apply q2b | apply q3b | refine q4b ?_ GE102.out) | exact HB.out)⟩
    ·replace c9 := Bool.eq_false_iff.mpr c9
     subst c9
     have H1 : (some false) = some r := by rw [if_neg (show ¬ (false = true) by decide)] at H; exact H
     clear H
     have H := H1
     clear H1
     obtain rfl := Option.some.inj H
     go_enter Try.func54, Try.ntmps54
     go_wp2_with (first | ((with_reducible refine qub (N := 1) rfl ?_); refine qhb ?hg (N := 1) ?hd (cs := #[.int .i64 a0_0, .int .i64 a0_1, .int .i64 a0_2, .int .i64 a0_3, .int .i64 a0_4]) (t := 28) ?hr ?_; (case hd => rfl); (case hg => rfl); (case hr => first | (go_simp; done) | (go_simp; rfl)); intro gb102 hg w13 hbox hb; have n0_ := qgb (q9b (by repeat (first | (with_reducible first | exact HB.out | apply q1b | apply q2b | apply q3b) | exact HB.out)) hb); have n1_ := qgb (hbox); have n2_ := qgb ((by rw [hg]; exact (qab (by repeat (first | (with_reducible first | exact HB.out | apply q1b | apply q2b | apply q3b) | exact HB.out))) : w.heap.size ≤ gb102)); have n3_ := qgb ((by rw [hg]; exact (qab (by repeat (first | (with_reducible first | exact HB.out | apply q1b | apply q2b | apply q3b) | exact HB.out))) : w.heap.size ≤ gb102)); clear HB; have HB := n0_; have BK102 := n1_; have GW102 := n2_; have GE102 := n3_; clear n0_ n1_ n2_ n3_; clear hb hbox hg; have hcz14_0 : w13.cell? ⟨gb102, 0, none⟩ = some (.int .i64 a0_0) := (qcb BK102.out 0).trans rfl; have hcz14_1 : w13.cell? ⟨gb102, 1, none⟩ = some (.int .i64 a0_1) := (qcb BK102.out 1).trans rfl; have hcz14_2 : w13.cell? ⟨gb102, 2, none⟩ = some (.int .i64 a0_2) := (qcb BK102.out 2).trans rfl; have hcz14_3 : w13.cell? ⟨gb102, 3, none⟩ = some (.int .i64 a0_3) := (qcb BK102.out 3).trans rfl; have hcz14_4 : w13.cell? ⟨gb102, 4, none⟩ = some (.int .i64 a0_4) := (qcb BK102.out 4).trans rfl; have hfz14_0 := qbb BK102.out 0; have hfz14_1 := qbb BK102.out 1; have hfz14_2 := qbb BK102.out 2; have hfz14_3 := qbb BK102.out 3; have hfz14_4 := qbb BK102.out 4) | ((with_reducible refine qtb (f := 79) rfl ?_); refine goesL_ (some 6) rfl rfl Try.func79 (by kernel_rfl) rfl #[.int .i64 a0_0, .int .i64 (-1024), .int .i64 1024] rfl (by (try simp only [List.map_toArray, List.map_cons, List.map_nil]); first | done | rfl | (simp only [List.length_drop, List.length_take]; rfl)) ?_; (with_reducible refine (impl_isWithin.calls a0_0 (-1024) 1024 true _ A2.out).mono ?_); rintro e w' ⟨rfl, ⟨nd, rfl⟩⟩; refine ⟨_, rfl, ?_⟩) | (go_at_call 79; (with_reducible refine (impl_isWithin.calls a0_1 (-1024) 1024 true _ A4.out).mono ?_); rintro e w' ⟨rfl, ⟨nd, rfl⟩⟩) | (go_at_call 91; (with_reducible refine (impl_IsHeading.calls a0_2 true _ A6.out).mono ?_); rintro e w' ⟨rfl, ⟨nd, rfl⟩⟩) | (go_at_call 79; (with_reducible refine (impl_isWithin.calls a0_3 0 16 false _ A8.out).mono ?_); rintro e w' ⟨rfl, ⟨nd, rfl⟩⟩))
     go_ret
     exact ⟨by first | rfl | (simp [errW_none, errW_some] <;> rfl) | (simp [*, errW_none, errW_some] <;> rfl), by repeat (first | (with_reducible first | exact HB.out | apply q1b | apply q2b | apply q3b | refine q4b ?_ GE102.out) | exact HB.out)⟩
   ·replace c7 := Bool.eq_false_iff.mpr c7
    subst c7
    have H1 : (some false) = some r := by rw [if_neg (show ¬ (false = true) by decide)] at H; exact H
    clear H
    have H := H1
    clear H1
    obtain rfl := Option.some.inj H
    go_enter Try.func54, Try.ntmps54
    go_wp2_with (first | ((with_reducible refine qub (N := 1) rfl ?_); refine qhb ?hg (N := 1) ?hd (cs := #[.int .i64 a0_0, .int .i64 a0_1, .int .i64 a0_2, .int .i64 a0_3, .int .i64 a0_4]) (t := 28) ?hr ?_; (case hd => rfl); (case hg => rfl); (case hr => first | (go_simp; done) | (go_simp; rfl)); intro gb102 hg w15 hbox hb; have n0_ := qgb (q9b (by repeat (first | (with_reducible first | exact HB.out | apply q1b | apply q2b | apply q3b) | exact HB.out)) hb); have n1_ := qgb (hbox); have n2_ := qgb ((by rw [hg]; exact (qab (by repeat (first | (with_reducible first | exact HB.out | apply q1b | apply q2b | apply q3b) | exact HB.out))) : w.heap.size ≤ gb102)); have n3_ := qgb ((by rw [hg]; exact (qab (by repeat (first | (with_reducible first | exact HB.out | apply q1b | apply q2b | apply q3b) | exact HB.out))) : w.heap.size ≤ gb102)); clear HB; have HB := n0_; have BK102 := n1_; have GW102 := n2_; have GE102 := n3_; clear n0_ n1_ n2_ n3_; clear hb hbox hg; have hcz16_0 : w15.cell? ⟨gb102, 0, none⟩ = some (.int .i64 a0_0) := (qcb BK102.out 0).trans rfl; have hcz16_1 : w15.cell? ⟨gb102, 1, none⟩ = some (.int .i64 a0_1) := (qcb BK102.out 1).trans rfl; have hcz16_2 : w15.cell? ⟨gb102, 2, none⟩ = some (.int .i64 a0_2) := (qcb BK102.out 2).trans rfl; have hcz16_3 : w15.cell? ⟨gb102, 3, none⟩ = some (.int .i64 a0_3) := (qcb BK102.out 3).trans rfl; have hcz16_4 : w15.cell? ⟨gb102, 4, none⟩ = some (.int .i64 a0_4) := (qcb BK102.out 4).trans rfl; have hfz16_0 := qbb BK102.out 0; have hfz16_1 := qbb BK102.out 1; have hfz16_2 := qbb BK102.out 2; have hfz16_3 := qbb BK102.out 3; have hfz16_4 := qbb BK102.out 4) | ((with_reducible refine qtb (f := 79) rfl ?_); refine goesL_ (some 6) rfl rfl Try.func79 (by kernel_rfl) rfl #[.int .i64 a0_0, .int .i64 (-1024), .int .i64 1024] rfl (by (try simp only [List.map_toArray, List.map_cons, List.map_nil]); first | done | rfl | (simp only [List.length_drop, List.length_take]; rfl)) ?_; (with_reducible refine (impl_isWithin.calls a0_0 (-1024) 1024 true _ A2.out).mono ?_); rintro e w' ⟨rfl, ⟨nd, rfl⟩⟩; refine ⟨_, rfl, ?_⟩) | (go_at_call 79; (with_reducible refine (impl_isWithin.calls a0_1 (-1024) 1024 true _ A4.out).mono ?_); rintro e w' ⟨rfl, ⟨nd, rfl⟩⟩) | (go_at_call 91; (with_reducible refine (impl_IsHeading.calls a0_2 false _ A6.out).mono ?_); rintro e w' ⟨rfl, ⟨nd, rfl⟩⟩))
    go_ret
    exact ⟨by first | rfl | (simp [errW_none, errW_some] <;> rfl) | (simp [*, errW_none, errW_some] <;> rfl), by repeat (first | (with_reducible first | exact HB.out | apply q1b | apply q2b | apply q3b | refine q4b ?_ GE102.out) | exact HB.out)⟩
  ·replace c5 := Bool.eq_false_iff.mpr c5
   subst c5
   have H1 : (some false) = some r := by rw [if_neg (show ¬ (false = true) by decide)] at H; exact H
   clear H
   have H := H1
   clear H1
   obtain rfl := Option.some.inj H
   go_enter Try.func54, Try.ntmps54
   go_wp2_with (first | ((with_reducible refine qub (N := 1) rfl ?_); refine qhb ?hg (N := 1) ?hd (cs := #[.int .i64 a0_0, .int .i64 a0_1, .int .i64 a0_2, .int .i64 a0_3, .int .i64 a0_4]) (t := 28) ?hr ?_; (case hd => rfl); (case hg => rfl); (case hr => first | (go_simp; done) | (go_simp; rfl)); intro gb102 hg w17 hbox hb; have n0_ := qgb (q9b (by repeat (first | (with_reducible first | exact HB.out | apply q1b | apply q2b | apply q3b) | exact HB.out)) hb); have n1_ := qgb (hbox); have n2_ := qgb ((by rw [hg]; exact (qab (by repeat (first | (with_reducible first | exact HB.out | apply q1b | apply q2b | apply q3b) | exact HB.out))) : w.heap.size ≤ gb102)); have n3_ := qgb ((by rw [hg]; exact (qab (by repeat (first | (with_reducible first | exact HB.out | apply q1b | apply q2b | apply q3b) | exact HB.out))) : w.heap.size ≤ gb102)); clear HB; have HB := n0_; have BK102 := n1_; have GW102 := n2_; have GE102 := n3_; clear n0_ n1_ n2_ n3_; clear hb hbox hg; have hcz18_0 : w17.cell? ⟨gb102, 0, none⟩ = some (.int .i64 a0_0) := (qcb BK102.out 0).trans rfl; have hcz18_1 : w17.cell? ⟨gb102, 1, none⟩ = some (.int .i64 a0_1) := (qcb BK102.out 1).trans rfl; have hcz18_2 : w17.cell? ⟨gb102, 2, none⟩ = some (.int .i64 a0_2) := (qcb BK102.out 2).trans rfl; have hcz18_3 : w17.cell? ⟨gb102, 3, none⟩ = some (.int .i64 a0_3) := (qcb BK102.out 3).trans rfl; have hcz18_4 : w17.cell? ⟨gb102, 4, none⟩ = some (.int .i64 a0_4) := (qcb BK102.out 4).trans rfl; have hfz18_0 := qbb BK102.out 0; have hfz18_1 := qbb BK102.out 1; have hfz18_2 := qbb BK102.out 2; have hfz18_3 := qbb BK102.out 3; have hfz18_4 := qbb BK102.out 4) | ((with_reducible refine qtb (f := 79) rfl ?_); refine goesL_ (some 6) rfl rfl Try.func79 (by kernel_rfl) rfl #[.int .i64 a0_0, .int .i64 (-1024), .int .i64 1024] rfl (by (try simp only [List.map_toArray, List.map_cons, List.map_nil]); first | done | rfl | (simp only [List.length_drop, List.length_take]; rfl)) ?_; (with_reducible refine (impl_isWithin.calls a0_0 (-1024) 1024 true _ A2.out).mono ?_); rintro e w' ⟨rfl, ⟨nd, rfl⟩⟩; refine ⟨_, rfl, ?_⟩) | (go_at_call 79; (with_reducible refine (impl_isWithin.calls a0_1 (-1024) 1024 false _ A4.out).mono ?_); rintro e w' ⟨rfl, ⟨nd, rfl⟩⟩))
   go_ret
   exact ⟨by first | rfl | (simp [errW_none, errW_some] <;> rfl) | (simp [*, errW_none, errW_some] <;> rfl), by repeat (first | (with_reducible first | exact HB.out | apply q1b | apply q2b | apply q3b | refine q4b ?_ GE102.out) | exact HB.out)⟩
 ·replace c3 := Bool.eq_false_iff.mpr c3
  subst c3
  have H1 : (some false) = some r := by rw [if_neg (show ¬ (false = true) by decide)] at H; exact H
  clear H
  have H := H1
  clear H1
  obtain rfl := Option.some.inj H
  go_enter Try.func54, Try.ntmps54
  go_wp2_with (first | ((with_reducible refine qub (N := 1) rfl ?_); refine qhb ?hg (N := 1) ?hd (cs := #[.int .i64 a0_0, .int .i64 a0_1, .int .i64 a0_2, .int .i64 a0_3, .int .i64 a0_4]) (t := 28) ?hr ?_; (case hd => rfl); (case hg => rfl); (case hr => first | (go_simp; done) | (go_simp; rfl)); intro gb102 hg w19 hbox hb; have n0_ := qgb (q9b (by repeat (first | (with_reducible first | exact HB.out | apply q1b | apply q2b | apply q3b) | exact HB.out)) hb); have n1_ := qgb (hbox); have n2_ := qgb ((by rw [hg]; exact (qab (by repeat (first | (with_reducible first | exact HB.out | apply q1b | apply q2b | apply q3b) | exact HB.out))) : w.heap.size ≤ gb102)); have n3_ := qgb ((by rw [hg]; exact (qab (by repeat (first | (with_reducible first | exact HB.out | apply q1b | apply q2b | apply q3b) | exact HB.out))) : w.heap.size ≤ gb102)); clear HB; have HB := n0_; have BK102 := n1_; have GW102 := n2_; have GE102 := n3_; clear n0_ n1_ n2_ n3_; clear hb hbox hg; have hcz20_0 : w19.cell? ⟨gb102, 0, none⟩ = some (.int .i64 a0_0) := (qcb BK102.out 0).trans rfl; have hcz20_1 : w19.cell? ⟨gb102, 1, none⟩ = some (.int .i64 a0_1) := (qcb BK102.out 1).trans rfl; have hcz20_2 : w19.cell? ⟨gb102, 2, none⟩ = some (.int .i64 a0_2) := (qcb BK102.out 2).trans rfl; have hcz20_3 : w19.cell? ⟨gb102, 3, none⟩ = some (.int .i64 a0_3) := (qcb BK102.out 3).trans rfl; have hcz20_4 : w19.cell? ⟨gb102, 4, none⟩ = some (.int .i64 a0_4) := (qcb BK102.out 4).trans rfl; have hfz20_0 := qbb BK102.out 0; have hfz20_1 := qbb BK102.out 1; have hfz20_2 := qbb BK102.out 2; have hfz20_3 := qbb BK102.out 3; have hfz20_4 := qbb BK102.out 4) | ((with_reducible refine qtb (f := 79) rfl ?_); refine goesL_ (some 6) rfl rfl Try.func79 (by kernel_rfl) rfl #[.int .i64 a0_0, .int .i64 (-1024), .int .i64 1024] rfl (by (try simp only [List.map_toArray, List.map_cons, List.map_nil]); first | done | rfl | (simp only [List.length_drop, List.length_take]; rfl)) ?_; (with_reducible refine (impl_isWithin.calls a0_0 (-1024) 1024 false _ A2.out).mono ?_); rintro e w' ⟨rfl, ⟨nd, rfl⟩⟩; refine ⟨_, rfl, ?_⟩))
  go_ret
  exact ⟨by first | rfl | (simp [errW_none, errW_some] <;> rfl) | (simp [*, errW_none, errW_some] <;> rfl), by repeat (first | (with_reducible first | exact HB.out | apply q1b | apply q2b | apply q3b | refine q4b ?_ GE102.out) | exact HB.out)⟩
/-! ### impl_turns: function 96 -/
def impl_turns.f (a0 : Int) : Option (Int) := some (Int.tmod (wrap64 ((Int.tmod a0 4) + 4)) 4)
set_option maxHeartbeats 8000000 in
set_option maxRecDepth 100000 in
theorem impl_turns.calls (a0 : Int) (r : Int) (w : World) (h : impl_turns.f a0 = some r) :
 Calls Try.prog 96 #[.int .i64 a0] w fun e w' => e = .returned (.int .i64 r) ∧ Drawn0 w w' := by
 have H : (some (Int.tmod (wrap64 ((Int.tmod a0 4) + 4)) 4)) = some r := h
 clear h
 obtain rfl := Option.some.inj H
 go_enter Try.func96, Try.ntmps96
 go_wp2
 go_ret
 exact ⟨by first | rfl | (simp; done) | (simp [*]; done), by repeat (first | exact Drawn0.refl _ | apply Drawn0.step)⟩
/-! ### impl_turned: function 64 -/
def impl_turned.l0 : Nat → Int → Int → Int → Int → Option (Int × Int)
  | 0, _, _, _, _ => none
  | k + 1, x6, x7, x109000, x109001 => if x7 < x6 then (impl_turned.l0 k x6 (wrap64 (x7 + 1)) (wrap64 (-x109001)) x109000) else (some (x109000, x109001))
def impl_turned.f (k : Nat) (a0_0 : Int) (a0_1 : Int) (a1 : Int) : Option (Int × Int) := (impl_turns.f a1).bind fun t110 => (impl_turned.l0 k t110 0 a0_0 a0_1)
theorem impl_turned.mono_l : ∀ k, (∀ y0 y1 y2 y3, LeO (impl_turned.l0 k y0 y1 y2 y3) (impl_turned.l0 (k + 1) y0 y1 y2 y3))
  | 0 => fun _ _ _ _ r h => by simp [impl_turned.l0] at h
  | k + 1 => by
    have ih0 := impl_turned.mono_l k
    · intro y0 y1 y2 y3
      unfold impl_turned.l0
      repeat' first
      | (with_reducible exact ih0 _ _ _ _)
      | (with_reducible exact LeO.refl _)
      | (with_reducible exact LeO.none _)
      | (with_reducible refine LeO.ite ?_ ?_)
      | (with_reducible refine LeO.bind ?_ (fun _ => ?_))
      | exact ih0 _ _ _ _
      | exact LeO.none _
      | refine LeO.ite ?_ ?_
      | refine LeO.bind ?_ (fun _ => ?_)
theorem impl_turned.mono : ∀ a0 a1 a2 k, LeO (impl_turned.f k a0 a1 a2) (impl_turned.f (k + 1) a0 a1 a2) := by
  intro a0 a1 a2 k
  have ih0 := impl_turned.mono_l k
  unfold impl_turned.f
  repeat' first
      | (with_reducible exact ih0 _ _ _ _)
      | (with_reducible exact LeO.refl _)
      | (with_reducible exact LeO.none _)
      | (with_reducible refine LeO.ite ?_ ?_)
      | (with_reducible refine LeO.bind ?_ (fun _ => ?_))
      | exact ih0 _ _ _ _
      | exact LeO.none _
      | refine LeO.ite ?_ ?_
      | refine LeO.bind ?_ (fun _ => ?_)
set_option maxHeartbeats 8000000 in
set_option maxRecDepth 100000 in
theorem impl_turned.calls (k : Nat) (a0_0 : Int) (a0_1 : Int) (a1 : Int) (r1 : Int) (r2 : Int) (w : World) (h : impl_turned.f k a0_0 a0_1 a1 = some (r1, r2)) :
 Calls Try.prog 64 #[.agg #[.int .i64 a0_0, .int .i64 a0_1], .int .i64 a1] w fun e w' => e = .returned (.agg #[.int .i64 r1, .int .i64 r2]) ∧ Below w.heap.size w w' := by
 have hu26 := Try.underlying26
 have HB := qgb (Below.refl w.heap.size w)
 have H : ((impl_turns.f a1).bind fun t110 => (impl_turned.l0 k t110 0 a0_0 a0_1)) = some (r1, r2) := h
 clear h
 replace H := Option.bind_eq_some_iff.mp H
 obtain ⟨t110, A30, H⟩ := H
 replace H : (impl_turned.l0 k t110 0 a0_0 a0_1) = some (r1, r2) := H
 have A3 := qgb A30
 clear A30
 have H' := qgb H
 clear H
 go_enter Try.func64, Try.ntmps64
 go_wp2_with (first | ((with_reducible refine qub (N := 2) rfl ?_); refine qhb ?hg (N := 2) ?hd (cs := #[.int .i64 a0_0, .int .i64 a0_1]) (t := 26) ?hr ?_; (case hd => rfl); (case hg => rfl); (case hr => first | (go_simp; done) | (go_simp; rfl)); intro gb108 hg w4 hbox hb; have n0_ := qgb (q9b (by repeat (first | (with_reducible first | exact HB.out | apply q1b | apply q2b | apply q3b) | exact HB.out)) hb); have n1_ := qgb (hbox); have n2_ := qgb ((by rw [hg]; exact (qab (by repeat (first | (with_reducible first | exact HB.out | apply q1b | apply q2b | apply q3b) | exact HB.out))) : w.heap.size ≤ gb108)); have n3_ := qgb ((by rw [hg]; exact (qab (by repeat (first | (with_reducible first | exact HB.out | apply q1b | apply q2b | apply q3b) | exact HB.out))) : w.heap.size ≤ gb108)); clear HB; have HB := n0_; have BK108 := n1_; have GW108 := n2_; have GE108 := n3_; clear n0_ n1_ n2_ n3_; clear hb hbox hg) | ((with_reducible refine qub (N := 4) rfl ?_); refine qhb ?hg (N := 4) ?hd (cs := #[.int .i64 0, .int .i64 0]) (t := 26) ?hr ?_; (case hd => rfl); (case hg => rfl); (case hr => first | (go_simp; done) | (go_simp; rfl)); intro gb109 hg w5 hbox hb; have n0_ := qgb (q8b (g := gb108) (o := .cells #[.int .i64 a0_0, .int .i64 a0_1] 26 (0, 0)) (by (with_reducible repeat (first | refine q5b ?_ _ | refine q6b ?_ | refine q7b ?_ _)); exact BK108.out) hb); have n1_ := qgb (q9b (by repeat (first | (with_reducible first | exact HB.out | apply q1b | apply q2b | apply q3b | refine q4b ?_ GE108.out) | exact HB.out)) hb); have n2_ := qgb (hbox); have n3_ := qgb ((by rw [hg]; exact (qab (by repeat (first | (with_reducible first | exact HB.out | apply q1b | apply q2b | apply q3b | refine q4b ?_ GE108.out) | exact HB.out))) : w.heap.size ≤ gb109)); have n4_ := qgb ((by rw [hg]; exact (qab (by repeat (first | (with_reducible first | exact HB.out | apply q1b | apply q2b | apply q3b | refine q4b ?_ GE108.out) | exact HB.out))) : w.heap.size ≤ gb109)); have n5_ := qgb ((by rw [hg]; exact qvb (qdb (g := gb108) (o := .cells #[.int .i64 a0_0, .int .i64 a0_1] 26 (0, 0)) (by (with_reducible repeat (first | refine q5b ?_ _ | refine q6b ?_ | refine q7b ?_ _)); exact BK108.out)) : gb108 ≠ gb109)); have n6_ := qgb ((by rw [hg]; exact qwb (qdb (g := gb108) (o := .cells #[.int .i64 a0_0, .int .i64 a0_1] 26 (0, 0)) (by (with_reducible repeat (first | refine q5b ?_ _ | refine q6b ?_ | refine q7b ?_ _)); exact BK108.out)) : gb109 ≠ gb108)); clear BK108; clear HB; have BK108 := n0_; have HB := n1_; have BK109 := n2_; have GW109 := n3_; have GE109 := n4_; have NB108_109 := n5_; have NB109_108 := n6_; clear n0_ n1_ n2_ n3_ n4_ n5_ n6_; clear hb hbox hg) | ((with_reducible refine qtb (f := 96) rfl ?_); refine goesL_ (some 6) rfl rfl Try.func96 (by kernel_rfl) rfl #[.int .i64 a1] rfl (by (try simp only [List.map_toArray, List.map_cons, List.map_nil]); first | done | rfl | (simp only [List.length_drop, List.length_take]; rfl)) ?_; (with_reducible refine (impl_turns.calls a1 t110 _ A3.out).mono ?_); rintro e w' ⟨rfl, ⟨nd, rfl⟩⟩; refine ⟨_, rfl, ?_⟩))
 go_loopg [7] k (fun kq v7 w' => ∃ (x7_1 : Int) (x109000_1 : Int) (x109001_1 : Int), v7 = .int .i64 x7_1 ∧ Aside0 (impl_turned.l0 kq t110 x7_1 x109000_1 x109001_1 = some (r1, r2)) ∧ Aside0 (kq ≤ k) ∧ Aside0 (w'.heap[gb108]? = some (.cells #[.int .i64 x109000_1, .int .i64 x109001_1] 26 (0, 0))) ∧ Aside0 (w'.heap[gb109]? = some (.cells #[.int .i64 0, .int .i64 0] 26 (0, 0))) ∧ Aside0 (Below w.heap.size w w'))
 case atStart => exact ⟨(0), (a0_0), (a0_1), (by first | rfl | (simp; done) | (simp [*]; done)), H', ⟨Nat.le_refl _⟩, ⟨by (with_reducible repeat (first | refine q5b ?_ _ | refine q6b ?_ | refine q7b ?_ _)); exact BK108.out⟩, ⟨by (with_reducible repeat (first | refine q5b ?_ _ | refine q6b ?_ | refine q7b ?_ _)); exact BK109.out⟩, ⟨by repeat (first | (with_reducible first | exact HB.out | apply q1b | apply q2b | apply q3b | refine q4b ?_ GE108.out | refine q4b ?_ GE109.out) | exact HB.out)⟩⟩
 case round =>
  clear H'
  try clear p2
  obtain ⟨x7_1, x109000_1, x109001_1, rfl, HA, HK1, BK108, BK109, HB⟩ := hrel
  cases gk with
  | zero => exact absurd HA.out (by simp [impl_turned.l0])
  | succ k1 =>
   have H := HA.out
   clear HA
   simp only [impl_turned.l0] at H
   by_cases c6 : x7_1 < t110
   ·rw [if_pos c6] at H
    have c6b0 : decide (x7_1 < t110) = true := decide_eq_true c6
    clear c6
    have H' := qgb H
    clear H
    have hnb7 := NB108_109.out
    have hnc7 := NB109_108.out
    have hcz8_0 : wr.cell? ⟨gb108, 0, none⟩ = some (.int .i64 x109000_1) := (qcb BK108.out 0).trans rfl
    have hcz8_1 : wr.cell? ⟨gb108, 1, none⟩ = some (.int .i64 x109001_1) := (qcb BK108.out 1).trans rfl
    have hfz8_0 := qbb BK108.out 0
    have hfz8_1 := qbb BK108.out 1
    go_wp2
    go_roundg k1
    case measure => have := HK1.out; omega
    case rel => exact ⟨(wrap64 (x7_1 + 1)), (wrap64 (-x109001_1)), (x109000_1), (by first | rfl | (simp; done) | (simp [*]; done)), H', ⟨by have := HK1.out; omega⟩, ⟨by (with_reducible repeat (first | refine q5b ?_ _ | refine q6b ?_ | refine q7b ?_ _)); refine qfb (cs := #[.int .i64 (wrap64 (-x109001_1)), .int .i64 x109001_1]) ?_ 1 _ rfl; (with_reducible repeat (first | refine q5b ?_ _ | refine q6b ?_ | refine q7b ?_ _)); refine qfb (cs := #[.int .i64 x109000_1, .int .i64 x109001_1]) ?_ 0 _ rfl; (with_reducible repeat (first | refine q5b ?_ _ | refine q6b ?_ | refine q7b ?_ _)); exact BK108.out⟩, ⟨by (with_reducible repeat (first | refine q5b ?_ _ | refine q6b ?_ | refine q7b ?_ _)); refine qeb ?_ NB109_108.out _; (with_reducible repeat (first | refine q5b ?_ _ | refine q6b ?_ | refine q7b ?_ _)); refine qeb ?_ NB109_108.out _; (with_reducible repeat (first | refine q5b ?_ _ | refine q6b ?_ | refine q7b ?_ _)); exact BK109.out⟩, ⟨by repeat (first | (with_reducible first | exact HB.out | apply q1b | apply q2b | apply q3b | refine q4b ?_ GE108.out | refine q4b ?_ GE109.out) | exact HB.out)⟩⟩
   ·rw [if_neg c6] at H
    have c6b0 : decide (x7_1 < t110) = false := decide_eq_false c6
    clear c6
    simp only [Option.some.injEq, Prod.mk.injEq] at H
    obtain ⟨rfl, rfl⟩ := H
    have hnb9 := NB108_109.out
    have hnc9 := NB109_108.out
    have hcz10_0 : wr.cell? ⟨gb108, 0, none⟩ = some (.int .i64 x109000_1) := (qcb BK108.out 0).trans rfl
    have hcz10_1 : wr.cell? ⟨gb108, 1, none⟩ = some (.int .i64 x109001_1) := (qcb BK108.out 1).trans rfl
    have hfz10_0 := qbb BK108.out 0
    have hfz10_1 := qbb BK108.out 1
    have hcz11_0 : wr.cell? ⟨gb109, 0, none⟩ = some (.int .i64 0) := (qcb BK109.out 0).trans rfl
    have hcz11_1 : wr.cell? ⟨gb109, 1, none⟩ = some (.int .i64 0) := (qcb BK109.out 1).trans rfl
    have hfz11_0 := qbb BK109.out 0
    have hfz11_1 := qbb BK109.out 1
    go_wp2
    refine bodyPost_ret (results_cell_row rfl _ _ gb109 26 #[.int .i64 x109000_1, .int .i64 x109001_1] (0, 0) _ rfl (by (with_reducible repeat (first | refine q5b ?_ _ | refine q6b ?_ | refine q7b ?_ _)); refine qfb (cs := #[.int .i64 x109000_1, .int .i64 0]) ?_ 1 _ rfl; (with_reducible repeat (first | refine q5b ?_ _ | refine q6b ?_ | refine q7b ?_ _)); refine qfb (cs := #[.int .i64 0, .int .i64 0]) ?_ 0 _ rfl; (with_reducible repeat (first | refine q5b ?_ _ | refine q6b ?_ | refine q7b ?_ _)); exact BK109.out) Try.underlying26 rfl (by kernel_rfl)) rfl ?_
    exact ⟨by first | rfl | (simp [errW_none, errW_some] <;> rfl) | (simp [*, errW_none, errW_some] <;> rfl), by repeat (first | (with_reducible first | exact HB.out | apply q1b | apply q2b | apply q3b | refine q4b ?_ GE108.out | refine q4b ?_ GE109.out) | exact HB.out)⟩
/-! ### impl_TurnHeading: function 65 -/
def impl_TurnHeading.f (a0 : Int) (a1 : Int) : Option (Int) := (impl_IsHeading.f a0).bind fun t111 => (if t111 = true then ((impl_turns.f a1).bind fun t112 => (some (Int.tmod (wrap64 (a0 + t112)) 4))) else (some 0))
set_option maxHeartbeats 8000000 in
set_option maxRecDepth 100000 in
theorem impl_TurnHeading.calls (a0 : Int) (a1 : Int) (r : Int) (w : World) (h : impl_TurnHeading.f a0 a1 = some r) :
 Calls Try.prog 65 #[.int .i64 a0, .int .i64 a1] w fun e w' => e = .returned (.int .i64 r) ∧ Drawn0 w w' := by
 have H : ((impl_IsHeading.f a0).bind fun t111 => (if t111 = true then ((impl_turns.f a1).bind fun t112 => (some (Int.tmod (wrap64 (a0 + t112)) 4))) else (some 0))) = some r := h
 clear h
 replace H := Option.bind_eq_some_iff.mp H
 obtain ⟨t111, A30, H⟩ := H
 replace H : (if t111 = true then ((impl_turns.f a1).bind fun t112 => (some (Int.tmod (wrap64 (a0 + t112)) 4))) else (some 0)) = some r := H
 have A3 := qgb A30
 clear A30
 by_cases c4 : t111 = true
 ·subst c4
  have H1 : ((impl_turns.f a1).bind fun t112 => (some (Int.tmod (wrap64 (a0 + t112)) 4))) = some r := by rw [if_pos rfl] at H; exact H
  clear H
  have H := H1
  clear H1
  replace H := Option.bind_eq_some_iff.mp H
  obtain ⟨t112, A50, H⟩ := H
  replace H : (some (Int.tmod (wrap64 (a0 + t112)) 4)) = some r := H
  have A5 := qgb A50
  clear A50
  obtain rfl := Option.some.inj H
  go_enter Try.func65, Try.ntmps65
  go_wp2_with (first | ((with_reducible refine qtb (f := 91) rfl ?_); refine goesL_ (some 6) rfl rfl Try.func91 (by kernel_rfl) rfl #[.int .i64 a0] rfl (by (try simp only [List.map_toArray, List.map_cons, List.map_nil]); first | done | rfl | (simp only [List.length_drop, List.length_take]; rfl)) ?_; (with_reducible refine (impl_IsHeading.calls a0 true _ A3.out).mono ?_); rintro e w' ⟨rfl, ⟨nd, rfl⟩⟩; refine ⟨_, rfl, ?_⟩) | ((with_reducible refine qtb (f := 96) rfl ?_); refine goesL_ (some 10) rfl rfl Try.func96 (by kernel_rfl) rfl #[.int .i64 a1] rfl (by (try simp only [List.map_toArray, List.map_cons, List.map_nil]); first | done | rfl | (simp only [List.length_drop, List.length_take]; rfl)) ?_; (with_reducible refine (impl_turns.calls a1 t112 _ A5.out).mono ?_); rintro e w' ⟨rfl, ⟨nd, rfl⟩⟩; refine ⟨_, rfl, ?_⟩))
  go_ret
  exact ⟨by first | rfl | (simp; done) | (simp [*]; done), by repeat (first | exact Drawn0.refl _ | apply Drawn0.step)⟩
 ·replace c4 := Bool.eq_false_iff.mpr c4
  subst c4
  have H1 : (some 0) = some r := by rw [if_neg (show ¬ (false = true) by decide)] at H; exact H
  clear H
  have H := H1
  clear H1
  obtain rfl := Option.some.inj H
  go_enter Try.func65, Try.ntmps65
  go_wp2_with (first | ((with_reducible refine qtb (f := 91) rfl ?_); refine goesL_ (some 6) rfl rfl Try.func91 (by kernel_rfl) rfl #[.int .i64 a0] rfl (by (try simp only [List.map_toArray, List.map_cons, List.map_nil]); first | done | rfl | (simp only [List.length_drop, List.length_take]; rfl)) ?_; (with_reducible refine (impl_IsHeading.calls a0 false _ A3.out).mono ?_); rintro e w' ⟨rfl, ⟨nd, rfl⟩⟩; refine ⟨_, rfl, ?_⟩))
  go_ret
  exact ⟨by first | rfl | (simp; done) | (simp [*]; done), by repeat (first | exact Drawn0.refl _ | apply Drawn0.step)⟩
/-! ### impl_TurnJet: function 17 -/
def impl_TurnJet.f (k : Nat) (a0_0 : Int) (a0_1 : Int) (a0_2 : Int) (a0_3 : Int) (a0_4 : Int) (a1 : Int) : Option (Int × Int × Int × Int × Int) := (impl_IsJet.f a0_0 a0_1 a0_2 a0_3 a0_4).bind fun t115 => (if t115 = true then ((impl_turned.f k a0_0 a0_1 a1).bind fun bt116 => ((impl_TurnHeading.f a0_2 a1).bind fun t118 => (some (bt116.1, bt116.2, t118, a0_3, a0_4)))) else (some (0, 0, 0, 0, 0)))
theorem impl_TurnJet.mono : ∀ a0 a1 a2 a3 a4 a5 k, LeO (impl_TurnJet.f k a0 a1 a2 a3 a4 a5) (impl_TurnJet.f (k + 1) a0 a1 a2 a3 a4 a5) := by
  intro a0 a1 a2 a3 a4 a5 k
  unfold impl_TurnJet.f
  repeat' first
      | (with_reducible exact impl_turned.mono _ _ _ _)
      | (with_reducible exact LeO.refl _)
      | (with_reducible exact LeO.none _)
      | (with_reducible refine LeO.ite ?_ ?_)
      | (with_reducible refine LeO.bind ?_ (fun _ => ?_))
      | exact impl_turned.mono _ _ _ _
      | exact LeO.none _
      | refine LeO.ite ?_ ?_
      | refine LeO.bind ?_ (fun _ => ?_)
def impl_TurnJet.T3 : Bool × List (List Nat × List Nat) := (true, [([], []), ([0], [0]), ([], []), ([1, 2], [1, 2]), ([], []), ([4], [4]), ([], []), ([5, 6, 3], [5, 6]), ([], []), ([8], [8]), ([], []), ([10], [10]), ([3, 7, 9, 11], [3, 7, 9, 11]), ([12, 7, 0, 1, 2, 3, 4, 5, 6, 7, 8, 9, 10, 11, 12], [12])])
def impl_TurnJet.B3 : List Nat := [0, 1, 0, 7, 0, 16, 0, 127, 0, 256, 0, 1024, 4095, 8191]
theorem impl_TurnJet.tab3 : rtab .any (opsOf Try.f17 3) = impl_TurnJet.T3 := by kernel_rfl
theorem impl_TurnJet.bits3 : waitsOk impl_TurnJet.T3.2 impl_TurnJet.B3 = true := by kernel_rfl
set_option maxHeartbeats 8000000 in
set_option maxRecDepth 100000 in
theorem impl_TurnJet.calls (k : Nat) (a0_0 : Int) (a0_1 : Int) (a0_2 : Int) (a0_3 : Int) (a0_4 : Int) (a1 : Int) (r1 : Int) (r2 : Int) (r3 : Int) (r4 : Int) (r5 : Int) (w : World) (h : impl_TurnJet.f k a0_0 a0_1 a0_2 a0_3 a0_4 a1 = some (r1, r2, r3, r4, r5)) :
 Calls Try.prog 17 #[.agg #[.int .i64 a0_0, .int .i64 a0_1, .int .i64 a0_2, .int .i64 a0_3, .int .i64 a0_4], .int .i64 a1] w fun e w' => e = .returned (.agg #[.int .i64 r1, .int .i64 r2, .int .i64 r3, .int .i64 r4, .int .i64 r5]) ∧ Below w.heap.size w w' := by
 have hu28 := Try.underlying28
 have hu26 := Try.underlying26
 have HB := qgb (Below.refl w.heap.size w)
 have H : ((impl_IsJet.f a0_0 a0_1 a0_2 a0_3 a0_4).bind fun t115 => (if t115 = true then ((impl_turned.f k a0_0 a0_1 a1).bind fun bt116 => ((impl_TurnHeading.f a0_2 a1).bind fun t118 => (some (bt116.1, bt116.2, t118, a0_3, a0_4)))) else (some (0, 0, 0, 0, 0)))) = some (r1, r2, r3, r4, r5) := h
 clear h
 replace H := Option.bind_eq_some_iff.mp H
 obtain ⟨t115, A30, H⟩ := H
 replace H : (if t115 = true then ((impl_turned.f k a0_0 a0_1 a1).bind fun bt116 => ((impl_TurnHeading.f a0_2 a1).bind fun t118 => (some (bt116.1, bt116.2, t118, a0_3, a0_4)))) else (some (0, 0, 0, 0, 0))) = some (r1, r2, r3, r4, r5) := H
 have A3 := qgb A30
 clear A30
 by_cases c4 : t115 = true
 ·subst c4
  have H1 : ((impl_turned.f k a0_0 a0_1 a1).bind fun bt116 => ((impl_TurnHeading.f a0_2 a1).bind fun t118 => (some (bt116.1, bt116.2, t118, a0_3, a0_4)))) = some (r1, r2, r3, r4, r5) := by rw [if_pos rfl] at H; exact H
  clear H
  have H := H1
  clear H1
  replace H := Option.bind_eq_some_iff.mp H
  obtain ⟨⟨t116, t117⟩, A50, H⟩ := H
  replace H : ((impl_TurnHeading.f a0_2 a1).bind fun t118 => (some (t116, t117, t118, a0_3, a0_4))) = some (r1, r2, r3, r4, r5) := H
  have A5 := qgb A50
  clear A50
  replace H := Option.bind_eq_some_iff.mp H
  obtain ⟨t118, A60, H⟩ := H
  replace H : (some (t116, t117, t118, a0_3, a0_4)) = some (r1, r2, r3, r4, r5) := H
  have A6 := qgb A60
  clear A60
  simp only [Option.some.injEq, Prod.mk.injEq] at H
  obtain ⟨rfl, rfl, rfl, rfl, rfl⟩ := H
  go_enter Try.func17, Try.ntmps17
  try go_wp2_with (first | ((with_reducible refine qub (N := 2) rfl ?_); refine qhb ?hg (N := 2) ?hd (cs := #[.int .i64 a0_0, .int .i64 a0_1, .int .i64 a0_2, .int .i64 a0_3, .int .i64 a0_4]) (t := 28) ?hr ?_; (case hd => rfl); (case hg => rfl); (case hr => first | (go_simp; done) | (go_simp; rfl)); intro gb113 hg w7 hbox hb; have n0_ := qgb (q9b (by repeat (first | (with_reducible first | exact HB.out | apply q1b | apply q2b | apply q3b) | exact HB.out)) hb); have n1_ := qgb (hbox); have n2_ := qgb ((by rw [hg]; exact (qab (by repeat (first | (with_reducible first | exact HB.out | apply q1b | apply q2b | apply q3b) | exact HB.out))) : w.heap.size ≤ gb113)); have n3_ := qgb ((by rw [hg]; exact (qab (by repeat (first | (with_reducible first | exact HB.out | apply q1b | apply q2b | apply q3b) | exact HB.out))) : w.heap.size ≤ gb113)); clear HB; have HB := n0_; have BK113 := n1_; have GW113 := n2_; have GE113 := n3_; clear n0_ n1_ n2_ n3_; clear hb hbox hg) | ((with_reducible refine qub (N := 4) rfl ?_); refine qhb ?hg (N := 4) ?hd (cs := #[.int .i64 0, .int .i64 0, .int .i64 0, .int .i64 0, .int .i64 0]) (t := 28) ?hr ?_; (case hd => rfl); (case hg => rfl); (case hr => first | (go_simp; done) | (go_simp; rfl)); intro gb114 hg w8 hbox hb; have n0_ := qgb (q8b (g := gb113) (o := .cells #[.int .i64 a0_0, .int .i64 a0_1, .int .i64 a0_2, .int .i64 a0_3, .int .i64 a0_4] 28 (0, 0)) (by (with_reducible repeat (first | refine q5b ?_ _ | refine q6b ?_ | refine q7b ?_ _)); exact BK113.out) hb); have n1_ := qgb (q9b (by repeat (first | (with_reducible first | exact HB.out | apply q1b | apply q2b | apply q3b | refine q4b ?_ GE113.out) | exact HB.out)) hb); have n2_ := qgb (hbox); have n3_ := qgb ((by rw [hg]; exact (qab (by repeat (first | (with_reducible first | exact HB.out | apply q1b | apply q2b | apply q3b | refine q4b ?_ GE113.out) | exact HB.out))) : w.heap.size ≤ gb114)); have n4_ := qgb ((by rw [hg]; exact (qab (by repeat (first | (with_reducible first | exact HB.out | apply q1b | apply q2b | apply q3b | refine q4b ?_ GE113.out) | exact HB.out))) : w.heap.size ≤ gb114)); have n5_ := qgb ((by rw [hg]; exact qvb (qdb (g := gb113) (o := .cells #[.int .i64 a0_0, .int .i64 a0_1, .int .i64 a0_2, .int .i64 a0_3, .int .i64 a0_4] 28 (0, 0)) (by (with_reducible repeat (first | refine q5b ?_ _ | refine q6b ?_ | refine q7b ?_ _)); exact BK113.out)) : gb113 ≠ gb114)); have n6_ := qgb ((by rw [hg]; exact qwb (qdb (g := gb113) (o := .cells #[.int .i64 a0_0, .int .i64 a0_1, .int .i64 a0_2, .int .i64 a0_3, .int .i64 a0_4] 28 (0, 0)) (by (with_reducible repeat (first | refine q5b ?_ _ | refine q6b ?_ | refine q7b ?_ _)); exact BK113.out)) : gb114 ≠ gb113)); clear BK113; clear HB; have BK113 := n0_; have HB := n1_; have BK114 := n2_; have GW114 := n3_; have GE114 := n4_; have NB113_114 := n5_; have NB114_113 := n6_; clear n0_ n1_ n2_ n3_ n4_ n5_ n6_; clear hb hbox hg; have hnb9 := NB113_114.out; have hnc9 := NB114_113.out; have hcz10_0 : w8.cell? ⟨gb113, 0, none⟩ = some (.int .i64 a0_0) := (qcb BK113.out 0).trans rfl; have hcz10_1 : w8.cell? ⟨gb113, 1, none⟩ = some (.int .i64 a0_1) := (qcb BK113.out 1).trans rfl; have hcz10_2 : w8.cell? ⟨gb113, 2, none⟩ = some (.int .i64 a0_2) := (qcb BK113.out 2).trans rfl; have hcz10_3 : w8.cell? ⟨gb113, 3, none⟩ = some (.int .i64 a0_3) := (qcb BK113.out 3).trans rfl; have hcz10_4 : w8.cell? ⟨gb113, 4, none⟩ = some (.int .i64 a0_4) := (qcb BK113.out 4).trans rfl; have hfz10_0 := qbb BK113.out 0; have hfz10_1 := qbb BK113.out 1; have hfz10_2 := qbb BK113.out 2; have hfz10_3 := qbb BK113.out 3; have hfz10_4 := qbb BK113.out 4) | ((with_reducible refine qtb (f := 54) rfl ?_); refine goesL_ (some 6) rfl rfl Try.func54 (by kernel_rfl) rfl #[.agg #[.int .i64 a0_0, .int .i64 a0_1, .int .i64 a0_2, .int .i64 a0_3, .int .i64 a0_4]] rfl (by (try simp only [List.map_toArray, List.map_cons, List.map_nil]); first | done | rfl | (simp only [List.length_drop, List.length_take]; rfl)) ?_; (with_reducible refine (impl_IsJet.calls a0_0 a0_1 a0_2 a0_3 a0_4 true _ A3.out).mono ?_); rintro e w11 ⟨rfl, hb⟩; refine ⟨_, rfl, ?_⟩; have n0_ := qgb (q8b (g := gb113) (o := .cells #[.int .i64 a0_0, .int .i64 a0_1, .int .i64 a0_2, .int .i64 a0_3, .int .i64 a0_4] 28 (0, 0)) (by (with_reducible repeat (first | refine q5b ?_ _ | refine q6b ?_ | refine q7b ?_ _)); exact BK113.out) hb); have n1_ := qgb (q8b (g := gb114) (o := .cells #[.int .i64 0, .int .i64 0, .int .i64 0, .int .i64 0, .int .i64 0] 28 (0, 0)) (by (with_reducible repeat (first | refine q5b ?_ _ | refine q6b ?_ | refine q7b ?_ _)); exact BK114.out) hb); have n2_ := qgb (q9b (by repeat (first | (with_reducible first | exact HB.out | apply q1b | apply q2b | apply q3b | refine q4b ?_ GE113.out | refine q4b ?_ GE114.out) | exact HB.out)) hb); clear BK113; clear BK114; clear HB; have BK113 := n0_; have BK114 := n1_; have HB := n2_; clear n0_ n1_ n2_; (try clear hb); (try clear hb2); (try clear hk); (try clear hi)))
  have n0_ := qgb (q6b BK113.out)
  have n1_ := qgb (q6b BK114.out)
  have n2_ := qgb (q3b HB.out)
  clear BK113
  clear BK114
  clear HB
  have BK113 := n0_
  have BK114 := n1_
  have HB := n2_
  clear n0_ n1_ n2_
  refine start_ (n := 14) (S := fun w' => w'.cell? ⟨gb113, 0, none⟩ = some (.int .i64 a0_0) ∧ w'.cell? ⟨gb113, 1, none⟩ = some (.int .i64 a0_1) ∧ w'.cell? ⟨gb113, 2, none⟩ = some (.int .i64 a0_2) ∧ w'.cell? ⟨gb113, 3, none⟩ = some (.int .i64 a0_3) ∧ w'.cell? ⟨gb113, 4, none⟩ = some (.int .i64 a0_4)) (ds := []) #[false, false, false, false, false, false, false, false, false, false, false, false, false, false] (by kernel_rfl) rfl rfl ⟨(qcb BK113.out 0).trans rfl, (qcb BK113.out 1).trans rfl, (qcb BK113.out 2).trans rfl, (qcb BK113.out 3).trans rfl, (qcb BK113.out 4).trans rfl⟩ (fun hHeld => ?_); refine with_tabW impl_TurnJet.tab3 impl_TurnJet.bits3 (fun HT_ HW_ => ?_)
  generalize w11.drew = w12 at BK113 BK114 HB hHeld ⊢
  refine pure_ (i := 0) (N := some 9) (v := ?_) (a' := ?_) #[true, false, false, false, false, false, false, false, false, false, false, false, false, false] rfl rfl (any_of HT_.out (by kernel_rfl)) (fun _ _ _ h => h) (Or.inl ⟨by rfl, ?_⟩) ?_ ?_
  rotate_left
  ·intro w'
   go_simp
   with_reducible rfl
  rotate_left
  ·simp only [Act.put, p1b, p2b, p3b, i64_w, i32_w]
   rfl
  refine pure_ (i := 2) (N := some 11) (v := ?_) (a' := ?_) #[true, false, true, false, false, false, false, false, false, false, false, false, false, false] rfl rfl (any_of HT_.out (by kernel_rfl)) (fun _ _ _ h => h) (Or.inl ⟨by rfl, ?_⟩) ?_ ?_
  rotate_left
  ·intro w'
   go_simp
   with_reducible rfl
  rotate_left
  ·simp only [Act.put, p1b, p2b, p3b, i64_w, i32_w]
   rfl
  refine pure_ (i := 4) (N := some 13) (v := ?_) (a' := ?_) #[true, false, true, false, true, false, false, false, false, false, false, false, false, false] rfl rfl (any_of HT_.out (by kernel_rfl)) (fun _ _ _ h => h) (Or.inl ⟨by rfl, ?_⟩) ?_ ?_
  rotate_left
  ·intro w'
   go_simp
   with_reducible rfl
  rotate_left
  ·simp only [Act.put, p1b, p2b, p3b, i64_w, i32_w]
   rfl
  refine pure_ (i := 6) (N := some 15) (v := ?_) (a' := ?_) #[true, false, true, false, true, false, true, false, false, false, false, false, false, false] rfl rfl (any_of HT_.out (by kernel_rfl)) (fun _ _ _ h => h) (Or.inl ⟨by rfl, ?_⟩) ?_ ?_
  rotate_left
  ·intro w'
   go_simp
   with_reducible rfl
  rotate_left
  ·simp only [Act.put, p1b, p2b, p3b, i64_w, i32_w]
   rfl
  refine pure_ (i := 8) (N := some 17) (v := ?_) (a' := ?_) #[true, false, true, false, true, false, true, false, true, false, false, false, false, false] rfl rfl (any_of HT_.out (by kernel_rfl)) (fun _ _ _ h => h) (Or.inl ⟨by rfl, ?_⟩) ?_ ?_
  rotate_left
  ·intro w'
   go_simp
   with_reducible rfl
  rotate_left
  ·simp only [Act.put, p1b, p2b, p3b, i64_w, i32_w]
   rfl
  refine pure_ (i := 10) (N := some 19) (v := ?_) (a' := ?_) #[true, false, true, false, true, false, true, false, true, false, true, false, false, false] rfl rfl (any_of HT_.out (by kernel_rfl)) (fun _ _ _ h => h) (Or.inl ⟨by rfl, ?_⟩) ?_ ?_
  rotate_left
  ·intro w'
   go_simp
   with_reducible rfl
  rotate_left
  ·simp only [Act.put, p1b, p2b, p3b, i64_w, i32_w]
   rfl
  refine take_ (i := 1) (N := some 10) (v := ?_) (a' := ?_) #[true, true, true, false, true, false, true, false, true, false, true, false, false, false] rfl rfl (take_ofW HT_.out HW_.out (by kernel_rfl)) (fun _ _ _ h => h) (Or.inl ⟨by rfl, ?_⟩) hHeld ?_ ?_
  rotate_left
  ·rintro w' ⟨s0, s1, s2, s3, s4⟩
   go_simp
   with_reducible rfl
  rotate_left
  ·simp only [Act.put, p1b, p2b, p3b, i64_w, i32_w]
   rfl
  refine take_ (i := 5) (N := some 14) (v := ?_) (a' := ?_) #[true, true, true, false, true, true, true, false, true, false, true, false, false, false] rfl rfl (take_ofW HT_.out HW_.out (by kernel_rfl)) (fun _ _ _ h => h) (Or.inl ⟨by rfl, ?_⟩) hHeld ?_ ?_
  rotate_left
  ·rintro w' ⟨s0, s1, s2, s3, s4⟩
   go_simp
   with_reducible rfl
  rotate_left
  ·simp only [Act.put, p1b, p2b, p3b, i64_w, i32_w]
   rfl
  refine take_ (i := 9) (N := some 18) (v := ?_) (a' := ?_) #[true, true, true, false, true, true, true, false, true, true, true, false, false, false] rfl rfl (take_ofW HT_.out HW_.out (by kernel_rfl)) (fun _ _ _ h => h) (Or.inl ⟨by rfl, ?_⟩) hHeld ?_ ?_
  rotate_left
  ·rintro w' ⟨s0, s1, s2, s3, s4⟩
   go_simp
   with_reducible rfl
  rotate_left
  ·simp only [Act.put, p1b, p2b, p3b, i64_w, i32_w]
   rfl
  refine take_ (i := 11) (N := some 20) (v := ?_) (a' := ?_) #[true, true, true, false, true, true, true, false, true, true, true, true, false, false] rfl rfl (take_ofW HT_.out HW_.out (by kernel_rfl)) (fun _ _ _ h => h) (Or.inl ⟨by rfl, ?_⟩) hHeld ?_ ?_
  rotate_left
  ·rintro w' ⟨s0, s1, s2, s3, s4⟩
   go_simp
   with_reducible rfl
  rotate_left
  ·simp only [Act.put, p1b, p2b, p3b, i64_w, i32_w]
   rfl
  refine one_ (i := 3) (N := some 12) #[true, true, true, true, true, true, true, false, true, true, true, true, false, false] rfl rfl (one_of HT_.out (by kernel_rfl)) (by decide) (fun K hK => ?_)
  refine goes_ Try.func64 (by kernel_rfl) rfl #[.agg #[.int .i64 a0_0, .int .i64 a0_1], .int .i64 a1] (by rfl) rfl rfl (by (try simp only [List.map_toArray, List.map_cons, List.map_nil]); first | done | rfl | (simp only [List.length_drop, List.length_take]; rfl)) ?_
  with_reducible refine (impl_turned.calls k a0_0 a0_1 a1 t116 t117 _ A5.out).mono ?_
  rintro e w13 ⟨rfl, hb⟩
  refine ⟨_, rfl, ?_⟩
  have n0_ := qgb (q8b (g := gb113) (o := .cells #[.int .i64 a0_0, .int .i64 a0_1, .int .i64 a0_2, .int .i64 a0_3, .int .i64 a0_4] 28 (0, 0)) (by (with_reducible repeat (first | refine q5b ?_ _ | refine q6b ?_ | refine q7b ?_ _)); exact BK113.out) hb)
  have n1_ := qgb (q8b (g := gb114) (o := .cells #[.int .i64 0, .int .i64 0, .int .i64 0, .int .i64 0, .int .i64 0] 28 (0, 0)) (by (with_reducible repeat (first | refine q5b ?_ _ | refine q6b ?_ | refine q7b ?_ _)); exact BK114.out) hb)
  have n2_ := qgb (q9b (by repeat (first | (with_reducible first | exact HB.out | apply q1b | apply q2b | apply q3b | refine q4b ?_ GE113.out | refine q4b ?_ GE114.out) | exact HB.out)) hb)
  clear BK113
  clear BK114
  clear HB
  have BK113 := n0_
  have BK114 := n1_
  have HB := n2_
  clear n0_ n1_ n2_
  (try clear hb)
  (try clear hb2)
  (try clear hk)
  (try clear hi)
  refine hK.out _ _ ⟨(qcb BK113.out 0).trans rfl, (qcb BK113.out 1).trans rfl, (qcb BK113.out 2).trans rfl, (qcb BK113.out 3).trans rfl, (qcb BK113.out 4).trans rfl⟩ (fun hHeld => ?_)
  clear hK K
  refine norm_ (a' := ?_) ?_ ?_
  rotate_left
  ·show Act.put _ (some 12) _ = _
   simp only [Act.put, p1b, p2b, p3b, i64_w, i32_w]
   rfl
  refine one_ (i := 7) (N := some 16) #[true, true, true, true, true, true, true, true, true, true, true, true, false, false] rfl rfl (one_of HT_.out (by kernel_rfl)) (by decide) (fun K hK => ?_)
  refine goes_ Try.func65 (by kernel_rfl) rfl #[.int .i64 a0_2, .int .i64 a1] (by rfl) rfl rfl (by (try simp only [List.map_toArray, List.map_cons, List.map_nil]); first | done | rfl | (simp only [List.length_drop, List.length_take]; rfl)) ?_
  with_reducible refine (impl_TurnHeading.calls a0_2 a1 t118 _ A6.out).mono ?_
  rintro e w' ⟨rfl, ⟨nd, rfl⟩⟩
  refine ⟨_, rfl, ?_⟩
  refine hK.out _ _ ⟨(qcb BK113.out 0).trans rfl, (qcb BK113.out 1).trans rfl, (qcb BK113.out 2).trans rfl, (qcb BK113.out 3).trans rfl, (qcb BK113.out 4).trans rfl⟩ (fun hHeld => ?_)
  clear hK K
  refine norm_ (a' := ?_) ?_ ?_
  rotate_left
  ·show Act.put _ (some 16) _ = _
   simp only [Act.put, p1b, p2b, p3b, i64_w, i32_w]
   rfl
  refine pure_ (i := 12) (N := some 21) (v := ?_) (a' := ?_) #[true, true, true, true, true, true, true, true, true, true, true, true, true, false] rfl rfl (any_of HT_.out (by kernel_rfl)) (fun _ _ _ h => h) (Or.inl ⟨by rfl, ?_⟩) ?_ ?_
  rotate_left
  ·intro w'
   go_simp
   with_reducible rfl
  rotate_left
  ·simp only [Act.put, p1b, p2b, p3b, i64_w, i32_w]
   rfl
  refine one_ (i := 13) (N := none) #[true, true, true, true, true, true, true, true, true, true, true, true, true, true] rfl rfl (one_of HT_.out (by kernel_rfl)) (by decide) (fun K hK => ?_)
  have hs14 : w13.cell? ⟨gb114, 0, none⟩ = some (.int .i64 0) := (qcb BK114.out 0).trans rfl
  have hfs14 := qbb BK114.out 0
  have hns14_0 := NB113_114.out
  have hms14_0 := NB114_113.out
  have hs15 : w13.cell? ⟨gb114, 1, none⟩ = some (.int .i64 0) := (qcb BK114.out 1).trans rfl
  have hfs15 := qbb BK114.out 1
  have hns15_0 := NB113_114.out
  have hms15_0 := NB114_113.out
  have hs16 : w13.cell? ⟨gb114, 2, none⟩ = some (.int .i64 0) := (qcb BK114.out 2).trans rfl
  have hfs16 := qbb BK114.out 2
  have hns16_0 := NB113_114.out
  have hms16_0 := NB114_113.out
  have hs17 : w13.cell? ⟨gb114, 3, none⟩ = some (.int .i64 0) := (qcb BK114.out 3).trans rfl
  have hfs17 := qbb BK114.out 3
  have hns17_0 := NB113_114.out
  have hms17_0 := NB114_113.out
  have hs18 : w13.cell? ⟨gb114, 4, none⟩ = some (.int .i64 0) := (qcb BK114.out 4).trans rfl
  have hfs18 := qbb BK114.out 4
  have hns18_0 := NB113_114.out
  have hms18_0 := NB114_113.out
  refine skip_ (w1 := ?_) (by rfl) rfl ?_ ?_
  rotate_left
  ·go_simp
   rfl
  refine hK.out _ _ ⟨((qib (p := ⟨gb114, _, none⟩) NB113_114.out _).trans (((qib (p := ⟨gb114, _, none⟩) NB113_114.out _).trans (((qib (p := ⟨gb114, _, none⟩) NB113_114.out _).trans (((qib (p := ⟨gb114, _, none⟩) NB113_114.out _).trans (((qib (p := ⟨gb114, _, none⟩) NB113_114.out _).trans (hHeld.1)))))))))), ((qib (p := ⟨gb114, _, none⟩) NB113_114.out _).trans (((qib (p := ⟨gb114, _, none⟩) NB113_114.out _).trans (((qib (p := ⟨gb114, _, none⟩) NB113_114.out _).trans (((qib (p := ⟨gb114, _, none⟩) NB113_114.out _).trans (((qib (p := ⟨gb114, _, none⟩) NB113_114.out _).trans (hHeld.2.1)))))))))), ((qib (p := ⟨gb114, _, none⟩) NB113_114.out _).trans (((qib (p := ⟨gb114, _, none⟩) NB113_114.out _).trans (((qib (p := ⟨gb114, _, none⟩) NB113_114.out _).trans (((qib (p := ⟨gb114, _, none⟩) NB113_114.out _).trans (((qib (p := ⟨gb114, _, none⟩) NB113_114.out _).trans (hHeld.2.2.1)))))))))), ((qib (p := ⟨gb114, _, none⟩) NB113_114.out _).trans (((qib (p := ⟨gb114, _, none⟩) NB113_114.out _).trans (((qib (p := ⟨gb114, _, none⟩) NB113_114.out _).trans (((qib (p := ⟨gb114, _, none⟩) NB113_114.out _).trans (((qib (p := ⟨gb114, _, none⟩) NB113_114.out _).trans (hHeld.2.2.2.1)))))))))), ((qib (p := ⟨gb114, _, none⟩) NB113_114.out _).trans (((qib (p := ⟨gb114, _, none⟩) NB113_114.out _).trans (((qib (p := ⟨gb114, _, none⟩) NB113_114.out _).trans (((qib (p := ⟨gb114, _, none⟩) NB113_114.out _).trans (((qib (p := ⟨gb114, _, none⟩) NB113_114.out _).trans (hHeld.2.2.2.2))))))))))⟩ (fun hHeld => ?_)
  clear hK K
  refine done_ (done_of HT_.out (by kernel_rfl)) ?_
  try go_wp2
  refine bodyPost_ret (results_cell_row rfl _ _ gb114 28 #[.int .i64 t116, .int .i64 t117, .int .i64 t118, .int .i64 a0_3, .int .i64 a0_4] (0, 0) _ rfl (by (with_reducible repeat (first | refine q5b ?_ _ | refine q6b ?_ | refine q7b ?_ _)); refine qfb (cs := #[.int .i64 t116, .int .i64 t117, .int .i64 t118, .int .i64 a0_3, .int .i64 0]) ?_ 4 _ rfl; (with_reducible repeat (first | refine q5b ?_ _ | refine q6b ?_ | refine q7b ?_ _)); refine qfb (cs := #[.int .i64 t116, .int .i64 t117, .int .i64 t118, .int .i64 0, .int .i64 0]) ?_ 3 _ rfl; (with_reducible repeat (first | refine q5b ?_ _ | refine q6b ?_ | refine q7b ?_ _)); refine qfb (cs := #[.int .i64 t116, .int .i64 t117, .int .i64 0, .int .i64 0, .int .i64 0]) ?_ 2 _ rfl; (with_reducible repeat (first | refine q5b ?_ _ | refine q6b ?_ | refine q7b ?_ _)); refine qfb (cs := #[.int .i64 t116, .int .i64 0, .int .i64 0, .int .i64 0, .int .i64 0]) ?_ 1 _ rfl; (with_reducible repeat (first | refine q5b ?_ _ | refine q6b ?_ | refine q7b ?_ _)); refine qfb (cs := #[.int .i64 0, .int .i64 0, .int .i64 0, .int .i64 0, .int .i64 0]) ?_ 0 _ rfl; (with_reducible repeat (first | refine q5b ?_ _ | refine q6b ?_ | refine q7b ?_ _)); exact BK114.out) Try.underlying28 rfl (by kernel_rfl)) rfl ?_
  exact ⟨by first | rfl | (simp [errW_none, errW_some] <;> rfl) | (simp [*, errW_none, errW_some] <;> rfl), by repeat (first | (with_reducible first | exact HB.out | apply q1b | apply q2b | apply q3b | refine q4b ?_ GE113.out | refine q4b ?_ GE114.out) | exact HB.out)⟩
 ·replace c4 := Bool.eq_false_iff.mpr c4
  subst c4
  have H1 : (some (0, 0, 0, 0, 0)) = some (r1, r2, r3, r4, r5) := by rw [if_neg (show ¬ (false = true) by decide)] at H; exact H
  clear H
  have H := H1
  clear H1
  simp only [Option.some.injEq, Prod.mk.injEq] at H
  obtain ⟨rfl, rfl, rfl, rfl, rfl⟩ := H
  go_enter Try.func17, Try.ntmps17
  go_wp2_with (first | ((with_reducible refine qub (N := 2) rfl ?_); refine qhb ?hg (N := 2) ?hd (cs := #[.int .i64 a0_0, .int .i64 a0_1, .int .i64 a0_2, .int .i64 a0_3, .int .i64 a0_4]) (t := 28) ?hr ?_; (case hd => rfl); (case hg => rfl); (case hr => first | (go_simp; done) | (go_simp; rfl)); intro gb113 hg w19 hbox hb; have n0_ := qgb (q9b (by repeat (first | (with_reducible first | exact HB.out | apply q1b | apply q2b | apply q3b) | exact HB.out)) hb); have n1_ := qgb (hbox); have n2_ := qgb ((by rw [hg]; exact (qab (by repeat (first | (with_reducible first | exact HB.out | apply q1b | apply q2b | apply q3b) | exact HB.out))) : w.heap.size ≤ gb113)); have n3_ := qgb ((by rw [hg]; exact (qab (by repeat (first | (with_reducible first | exact HB.out | apply q1b | apply q2b | apply q3b) | exact HB.out))) : w.heap.size ≤ gb113)); clear HB; have HB := n0_; have BK113 := n1_; have GW113 := n2_; have GE113 := n3_; clear n0_ n1_ n2_ n3_; clear hb hbox hg) | ((with_reducible refine qub (N := 4) rfl ?_); refine qhb ?hg (N := 4) ?hd (cs := #[.int .i64 0, .int .i64 0, .int .i64 0, .int .i64 0, .int .i64 0]) (t := 28) ?hr ?_; (case hd => rfl); (case hg => rfl); (case hr => first | (go_simp; done) | (go_simp; rfl)); intro gb114 hg w20 hbox hb; have n0_ := qgb (q8b (g := gb113) (o := .cells #[.int .i64 a0_0, .int .i64 a0_1, .int .i64 a0_2, .int .i64 a0_3, .int .i64 a0_4] 28 (0, 0)) (by (with_reducible repeat (first | refine q5b ?_ _ | refine q6b ?_ | refine q7b ?_ _)); exact BK113.out) hb); have n1_ := qgb (q9b (by repeat (first | (with_reducible first | exact HB.out | apply q1b | apply q2b | apply q3b | refine q4b ?_ GE113.out) | exact HB.out)) hb); have n2_ := qgb (hbox); have n3_ := qgb ((by rw [hg]; exact (qab (by repeat (first | (with_reducible first | exact HB.out | apply q1b | apply q2b | apply q3b | refine q4b ?_ GE113.out) | exact HB.out))) : w.heap.size ≤ gb114)); have n4_ := qgb ((by rw [hg]; exact (qab (by repeat (first | (with_reducible first | exact HB.out | apply q1b | apply q2b | apply q3b | refine q4b ?_ GE113.out) | exact HB.out))) : w.heap.size ≤ gb114)); have n5_ := qgb ((by rw [hg]; exact qvb (qdb (g := gb113) (o := .cells #[.int .i64 a0_0, .int .i64 a0_1, .int .i64 a0_2, .int .i64 a0_3, .int .i64 a0_4] 28 (0, 0)) (by (with_reducible repeat (first | refine q5b ?_ _ | refine q6b ?_ | refine q7b ?_ _)); exact BK113.out)) : gb113 ≠ gb114)); have n6_ := qgb ((by rw [hg]; exact qwb (qdb (g := gb113) (o := .cells #[.int .i64 a0_0, .int .i64 a0_1, .int .i64 a0_2, .int .i64 a0_3, .int .i64 a0_4] 28 (0, 0)) (by (with_reducible repeat (first | refine q5b ?_ _ | refine q6b ?_ | refine q7b ?_ _)); exact BK113.out)) : gb114 ≠ gb113)); clear BK113; clear HB; have BK113 := n0_; have HB := n1_; have BK114 := n2_; have GW114 := n3_; have GE114 := n4_; have NB113_114 := n5_; have NB114_113 := n6_; clear n0_ n1_ n2_ n3_ n4_ n5_ n6_; clear hb hbox hg; have hnb21 := NB113_114.out; have hnc21 := NB114_113.out; have hcz22_0 : w20.cell? ⟨gb113, 0, none⟩ = some (.int .i64 a0_0) := (qcb BK113.out 0).trans rfl; have hcz22_1 : w20.cell? ⟨gb113, 1, none⟩ = some (.int .i64 a0_1) := (qcb BK113.out 1).trans rfl; have hcz22_2 : w20.cell? ⟨gb113, 2, none⟩ = some (.int .i64 a0_2) := (qcb BK113.out 2).trans rfl; have hcz22_3 : w20.cell? ⟨gb113, 3, none⟩ = some (.int .i64 a0_3) := (qcb BK113.out 3).trans rfl; have hcz22_4 : w20.cell? ⟨gb113, 4, none⟩ = some (.int .i64 a0_4) := (qcb BK113.out 4).trans rfl; have hfz22_0 := qbb BK113.out 0; have hfz22_1 := qbb BK113.out 1; have hfz22_2 := qbb BK113.out 2; have hfz22_3 := qbb BK113.out 3; have hfz22_4 := qbb BK113.out 4) | ((with_reducible refine qtb (f := 54) rfl ?_); refine goesL_ (some 6) rfl rfl Try.func54 (by kernel_rfl) rfl #[.agg #[.int .i64 a0_0, .int .i64 a0_1, .int .i64 a0_2, .int .i64 a0_3, .int .i64 a0_4]] rfl (by (try simp only [List.map_toArray, List.map_cons, List.map_nil]); first | done | rfl | (simp only [List.length_drop, List.length_take]; rfl)) ?_; (with_reducible refine (impl_IsJet.calls a0_0 a0_1 a0_2 a0_3 a0_4 false _ A3.out).mono ?_); rintro e w23 ⟨rfl, hb⟩; refine ⟨_, rfl, ?_⟩; have n0_ := qgb (q8b (g := gb113) (o := .cells #[.int .i64 a0_0, .int .i64 a0_1, .int .i64 a0_2, .int .i64 a0_3, .int .i64 a0_4] 28 (0, 0)) (by (with_reducible repeat (first | refine q5b ?_ _ | refine q6b ?_ | refine q7b ?_ _)); exact BK113.out) hb); have n1_ := qgb (q8b (g := gb114) (o := .cells #[.int .i64 0, .int .i64 0, .int .i64 0, .int .i64 0, .int .i64 0] 28 (0, 0)) (by (with_reducible repeat (first | refine q5b ?_ _ | refine q6b ?_ | refine q7b ?_ _)); exact BK114.out) hb); have n2_ := qgb (q9b (by repeat (first | (with_reducible first | exact HB.out | apply q1b | apply q2b | apply q3b | refine q4b ?_ GE113.out | refine q4b ?_ GE114.out) | exact HB.out)) hb); clear BK113; clear BK114; clear HB; have BK113 := n0_; have BK114 := n1_; have HB := n2_; clear n0_ n1_ n2_; (try clear hb); (try clear hb2); (try clear hk); (try clear hi); have hcz24_0 : w23.cell? ⟨gb114, 0, none⟩ = some (.int .i64 0) := (qcb BK114.out 0).trans rfl; have hcz24_1 : w23.cell? ⟨gb114, 1, none⟩ = some (.int .i64 0) := (qcb BK114.out 1).trans rfl; have hcz24_2 : w23.cell? ⟨gb114, 2, none⟩ = some (.int .i64 0) := (qcb BK114.out 2).trans rfl; have hcz24_3 : w23.cell? ⟨gb114, 3, none⟩ = some (.int .i64 0) := (qcb BK114.out 3).trans rfl; have hcz24_4 : w23.cell? ⟨gb114, 4, none⟩ = some (.int .i64 0) := (qcb BK114.out 4).trans rfl; have hfz24_0 := qbb BK114.out 0; have hfz24_1 := qbb BK114.out 1; have hfz24_2 := qbb BK114.out 2; have hfz24_3 := qbb BK114.out 3; have hfz24_4 := qbb BK114.out 4))
  refine bodyPost_ret (results_cell_row rfl _ _ gb114 28 #[.int .i64 0, .int .i64 0, .int .i64 0, .int .i64 0, .int .i64 0] (0, 0) _ rfl (by (with_reducible repeat (first | refine q5b ?_ _ | refine q6b ?_ | refine q7b ?_ _)); refine qfb (cs := #[.int .i64 0, .int .i64 0, .int .i64 0, .int .i64 0, .int .i64 0]) ?_ 4 _ rfl; (with_reducible repeat (first | refine q5b ?_ _ | refine q6b ?_ | refine q7b ?_ _)); refine qfb (cs := #[.int .i64 0, .int .i64 0, .int .i64 0, .int .i64 0, .int .i64 0]) ?_ 3 _ rfl; (with_reducible repeat (first | refine q5b ?_ _ | refine q6b ?_ | refine q7b ?_ _)); refine qfb (cs := #[.int .i64 0, .int .i64 0, .int .i64 0, .int .i64 0, .int .i64 0]) ?_ 2 _ rfl; (with_reducible repeat (first | refine q5b ?_ _ | refine q6b ?_ | refine q7b ?_ _)); refine qfb (cs := #[.int .i64 0, .int .i64 0, .int .i64 0, .int .i64 0, .int .i64 0]) ?_ 1 _ rfl; (with_reducible repeat (first | refine q5b ?_ _ | refine q6b ?_ | refine q7b ?_ _)); refine qfb (cs := #[.int .i64 0, .int .i64 0, .int .i64 0, .int .i64 0, .int .i64 0]) ?_ 0 _ rfl; (with_reducible repeat (first | refine q5b ?_ _ | refine q6b ?_ | refine q7b ?_ _)); exact BK114.out) Try.underlying28 rfl (by kernel_rfl)) rfl ?_
  exact ⟨by first | rfl | (simp [errW_none, errW_some] <;> rfl) | (simp [*, errW_none, errW_some] <;> rfl), by repeat (first | (with_reducible first | exact HB.out | apply q1b | apply q2b | apply q3b | refine q4b ?_ GE113.out | refine q4b ?_ GE114.out) | exact HB.out)⟩
/-! ### impl_FlightOf: function 56 -/
def impl_FlightOf.f (a0_0 : Int) (a0_1 : Int) (a0_2 : Int) (a0_3 : Int) (a0_4 : Int) : Option (Int) := (impl_IsJet.f a0_0 a0_1 a0_2 a0_3 a0_4).bind fun t120 => (if t120 = true then (some (wrap64 (a0_4 + 1))) else (some 0))
set_option maxHeartbeats 8000000 in
set_option maxRecDepth 100000 in
theorem impl_FlightOf.calls (a0_0 : Int) (a0_1 : Int) (a0_2 : Int) (a0_3 : Int) (a0_4 : Int) (r : Int) (w : World) (h : impl_FlightOf.f a0_0 a0_1 a0_2 a0_3 a0_4 = some r) :
 Calls Try.prog 56 #[.agg #[.int .i64 a0_0, .int .i64 a0_1, .int .i64 a0_2, .int .i64 a0_3, .int .i64 a0_4]] w fun e w' => e = .returned (.int .i64 r) ∧ Below w.heap.size w w' := by
 have hu28 := Try.underlying28
 have HB := qgb (Below.refl w.heap.size w)
 have H : ((impl_IsJet.f a0_0 a0_1 a0_2 a0_3 a0_4).bind fun t120 => (if t120 = true then (some (wrap64 (a0_4 + 1))) else (some 0))) = some r := h
 clear h
 replace H := Option.bind_eq_some_iff.mp H
 obtain ⟨t120, A20, H⟩ := H
 replace H : (if t120 = true then (some (wrap64 (a0_4 + 1))) else (some 0)) = some r := H
 have A2 := qgb A20
 clear A20
 by_cases c3 : t120 = true
 ·subst c3
  have H1 : (some (wrap64 (a0_4 + 1))) = some r := by rw [if_pos rfl] at H; exact H
  clear H
  have H := H1
  clear H1
  obtain rfl := Option.some.inj H
  go_enter Try.func56, Try.ntmps56
  go_wp2_with (first | ((with_reducible refine qub (N := 1) rfl ?_); refine qhb ?hg (N := 1) ?hd (cs := #[.int .i64 a0_0, .int .i64 a0_1, .int .i64 a0_2, .int .i64 a0_3, .int .i64 a0_4]) (t := 28) ?hr ?_; (case hd => rfl); (case hg => rfl); (case hr => first | (go_simp; done) | (go_simp; rfl)); intro gb119 hg w4 hbox hb; have n0_ := qgb (q9b (by repeat (first | (with_reducible first | exact HB.out | apply q1b | apply q2b | apply q3b) | exact HB.out)) hb); have n1_ := qgb (hbox); have n2_ := qgb ((by rw [hg]; exact (qab (by repeat (first | (with_reducible first | exact HB.out | apply q1b | apply q2b | apply q3b) | exact HB.out))) : w.heap.size ≤ gb119)); have n3_ := qgb ((by rw [hg]; exact (qab (by repeat (first | (with_reducible first | exact HB.out | apply q1b | apply q2b | apply q3b) | exact HB.out))) : w.heap.size ≤ gb119)); clear HB; have HB := n0_; have BK119 := n1_; have GW119 := n2_; have GE119 := n3_; clear n0_ n1_ n2_ n3_; clear hb hbox hg; have hcz5_0 : w4.cell? ⟨gb119, 0, none⟩ = some (.int .i64 a0_0) := (qcb BK119.out 0).trans rfl; have hcz5_1 : w4.cell? ⟨gb119, 1, none⟩ = some (.int .i64 a0_1) := (qcb BK119.out 1).trans rfl; have hcz5_2 : w4.cell? ⟨gb119, 2, none⟩ = some (.int .i64 a0_2) := (qcb BK119.out 2).trans rfl; have hcz5_3 : w4.cell? ⟨gb119, 3, none⟩ = some (.int .i64 a0_3) := (qcb BK119.out 3).trans rfl; have hcz5_4 : w4.cell? ⟨gb119, 4, none⟩ = some (.int .i64 a0_4) := (qcb BK119.out 4).trans rfl; have hfz5_0 := qbb BK119.out 0; have hfz5_1 := qbb BK119.out 1; have hfz5_2 := qbb BK119.out 2; have hfz5_3 := qbb BK119.out 3; have hfz5_4 := qbb BK119.out 4) | ((with_reducible refine qtb (f := 54) rfl ?_); refine goesL_ (some 4) rfl rfl Try.func54 (by kernel_rfl) rfl #[.agg #[.int .i64 a0_0, .int .i64 a0_1, .int .i64 a0_2, .int .i64 a0_3, .int .i64 a0_4]] rfl (by (try simp only [List.map_toArray, List.map_cons, List.map_nil]); first | done | rfl | (simp only [List.length_drop, List.length_take]; rfl)) ?_; (with_reducible refine (impl_IsJet.calls a0_0 a0_1 a0_2 a0_3 a0_4 true _ A2.out).mono ?_); rintro e w6 ⟨rfl, hb⟩; refine ⟨_, rfl, ?_⟩; have n0_ := qgb (q8b (g := gb119) (o := .cells #[.int .i64 a0_0, .int .i64 a0_1, .int .i64 a0_2, .int .i64 a0_3, .int .i64 a0_4] 28 (0, 0)) (by (with_reducible repeat (first | refine q5b ?_ _ | refine q6b ?_ | refine q7b ?_ _)); exact BK119.out) hb); have n1_ := qgb (q9b (by repeat (first | (with_reducible first | exact HB.out | apply q1b | apply q2b | apply q3b | refine q4b ?_ GE119.out) | exact HB.out)) hb); clear BK119; clear HB; have BK119 := n0_; have HB := n1_; clear n0_ n1_; (try clear hb); (try clear hb2); (try clear hk); (try clear hi); have hcz7_0 : w6.cell? ⟨gb119, 0, none⟩ = some (.int .i64 a0_0) := (qcb BK119.out 0).trans rfl; have hcz7_1 : w6.cell? ⟨gb119, 1, none⟩ = some (.int .i64 a0_1) := (qcb BK119.out 1).trans rfl; have hcz7_2 : w6.cell? ⟨gb119, 2, none⟩ = some (.int .i64 a0_2) := (qcb BK119.out 2).trans rfl; have hcz7_3 : w6.cell? ⟨gb119, 3, none⟩ = some (.int .i64 a0_3) := (qcb BK119.out 3).trans rfl; have hcz7_4 : w6.cell? ⟨gb119, 4, none⟩ = some (.int .i64 a0_4) := (qcb BK119.out 4).trans rfl; have hfz7_0 := qbb BK119.out 0; have hfz7_1 := qbb BK119.out 1; have hfz7_2 := qbb BK119.out 2; have hfz7_3 := qbb BK119.out 3; have hfz7_4 := qbb BK119.out 4))
  go_ret
  exact ⟨by first | rfl | (simp [errW_none, errW_some] <;> rfl) | (simp [*, errW_none, errW_some] <;> rfl), by repeat (first | (with_reducible first | exact HB.out | apply q1b | apply q2b | apply q3b | refine q4b ?_ GE119.out) | exact HB.out)⟩
 ·replace c3 := Bool.eq_false_iff.mpr c3
  subst c3
  have H1 : (some 0) = some r := by rw [if_neg (show ¬ (false = true) by decide)] at H; exact H
  clear H
  have H := H1
  clear H1
  obtain rfl := Option.some.inj H
  go_enter Try.func56, Try.ntmps56
  go_wp2_with (first | ((with_reducible refine qub (N := 1) rfl ?_); refine qhb ?hg (N := 1) ?hd (cs := #[.int .i64 a0_0, .int .i64 a0_1, .int .i64 a0_2, .int .i64 a0_3, .int .i64 a0_4]) (t := 28) ?hr ?_; (case hd => rfl); (case hg => rfl); (case hr => first | (go_simp; done) | (go_simp; rfl)); intro gb119 hg w8 hbox hb; have n0_ := qgb (q9b (by repeat (first | (with_reducible first | exact HB.out | apply q1b | apply q2b | apply q3b) | exact HB.out)) hb); have n1_ := qgb (hbox); have n2_ := qgb ((by rw [hg]; exact (qab (by repeat (first | (with_reducible first | exact HB.out | apply q1b | apply q2b | apply q3b) | exact HB.out))) : w.heap.size ≤ gb119)); have n3_ := qgb ((by rw [hg]; exact (qab (by repeat (first | (with_reducible first | exact HB.out | apply q1b | apply q2b | apply q3b) | exact HB.out))) : w.heap.size ≤ gb119)); clear HB; have HB := n0_; have BK119 := n1_; have GW119 := n2_; have GE119 := n3_; clear n0_ n1_ n2_ n3_; clear hb hbox hg; have hcz9_0 : w8.cell? ⟨gb119, 0, none⟩ = some (.int .i64 a0_0) := (qcb BK119.out 0).trans rfl; have hcz9_1 : w8.cell? ⟨gb119, 1, none⟩ = some (.int .i64 a0_1) := (qcb BK119.out 1).trans rfl; have hcz9_2 : w8.cell? ⟨gb119, 2, none⟩ = some (.int .i64 a0_2) := (qcb BK119.out 2).trans rfl; have hcz9_3 : w8.cell? ⟨gb119, 3, none⟩ = some (.int .i64 a0_3) := (qcb BK119.out 3).trans rfl; have hcz9_4 : w8.cell? ⟨gb119, 4, none⟩ = some (.int .i64 a0_4) := (qcb BK119.out 4).trans rfl; have hfz9_0 := qbb BK119.out 0; have hfz9_1 := qbb BK119.out 1; have hfz9_2 := qbb BK119.out 2; have hfz9_3 := qbb BK119.out 3; have hfz9_4 := qbb BK119.out 4) | ((with_reducible refine qtb (f := 54) rfl ?_); refine goesL_ (some 4) rfl rfl Try.func54 (by kernel_rfl) rfl #[.agg #[.int .i64 a0_0, .int .i64 a0_1, .int .i64 a0_2, .int .i64 a0_3, .int .i64 a0_4]] rfl (by (try simp only [List.map_toArray, List.map_cons, List.map_nil]); first | done | rfl | (simp only [List.length_drop, List.length_take]; rfl)) ?_; (with_reducible refine (impl_IsJet.calls a0_0 a0_1 a0_2 a0_3 a0_4 false _ A2.out).mono ?_); rintro e w10 ⟨rfl, hb⟩; refine ⟨_, rfl, ?_⟩; have n0_ := qgb (q8b (g := gb119) (o := .cells #[.int .i64 a0_0, .int .i64 a0_1, .int .i64 a0_2, .int .i64 a0_3, .int .i64 a0_4] 28 (0, 0)) (by (with_reducible repeat (first | refine q5b ?_ _ | refine q6b ?_ | refine q7b ?_ _)); exact BK119.out) hb); have n1_ := qgb (q9b (by repeat (first | (with_reducible first | exact HB.out | apply q1b | apply q2b | apply q3b | refine q4b ?_ GE119.out) | exact HB.out)) hb); clear BK119; clear HB; have BK119 := n0_; have HB := n1_; clear n0_ n1_; (try clear hb); (try clear hb2); (try clear hk); (try clear hi)))
  go_ret
  exact ⟨by first | rfl | (simp [errW_none, errW_some] <;> rfl) | (simp [*, errW_none, errW_some] <;> rfl), by repeat (first | (with_reducible first | exact HB.out | apply q1b | apply q2b | apply q3b | refine q4b ?_ GE119.out) | exact HB.out)⟩
/-! ### impl_isInAir: function 72 -/
def impl_isInAir.f (a0_0 : Int) (a0_1 : Int) (a0_2 : Int) (a0_3 : Int) (a0_4 : Int) (a1 : Int) : Option (Bool) := (impl_IsJet.f a0_0 a0_1 a0_2 a0_3 a0_4).bind fun t122 => (if t122 = true then ((impl_FlightOf.f a0_0 a0_1 a0_2 a0_3 a0_4).bind fun t123 => ((impl_isWithin.f a1 0 t123).bind fun t124 => (some t124))) else (some false))
set_option maxHeartbeats 8000000 in
set_option maxRecDepth 100000 in
theorem impl_isInAir.calls (a0_0 : Int) (a0_1 : Int) (a0_2 : Int) (a0_3 : Int) (a0_4 : Int) (a1 : Int) (r : Bool) (w : World) (h : impl_isInAir.f a0_0 a0_1 a0_2 a0_3 a0_4 a1 = some r) :
 Calls Try.prog 72 #[.agg #[.int .i64 a0_0, .int .i64 a0_1, .int .i64 a0_2, .int .i64 a0_3, .int .i64 a0_4], .int .i64 a1] w fun e w' => e = .returned (.bool r) ∧ Below w.heap.size w w' := by
 have hu28 := Try.underlying28
 have HB := qgb (Below.refl w.heap.size w)
 have H : ((impl_IsJet.f a0_0 a0_1 a0_2 a0_3 a0_4).bind fun t122 => (if t122 = true then ((impl_FlightOf.f a0_0 a0_1 a0_2 a0_3 a0_4).bind fun t123 => ((impl_isWithin.f a1 0 t123).bind fun t124 => (some t124))) else (some false))) = some r := h
 clear h
 replace H := Option.bind_eq_some_iff.mp H
 obtain ⟨t122, A30, H⟩ := H
 replace H : (if t122 = true then ((impl_FlightOf.f a0_0 a0_1 a0_2 a0_3 a0_4).bind fun t123 => ((impl_isWithin.f a1 0 t123).bind fun t124 => (some t124))) else (some false)) = some r := H
 have A3 := qgb A30
 clear A30
 by_cases c4 : t122 = true
 ·subst c4
  have H1 : ((impl_FlightOf.f a0_0 a0_1 a0_2 a0_3 a0_4).bind fun t123 => ((impl_isWithin.f a1 0 t123).bind fun t124 => (some t124))) = some r := by rw [if_pos rfl] at H; exact H
  clear H
  have H := H1
  clear H1
  replace H := Option.bind_eq_some_iff.mp H
  obtain ⟨t123, A50, H⟩ := H
  replace H : ((impl_isWithin.f a1 0 t123).bind fun t124 => (some t124)) = some r := H
  have A5 := qgb A50
  clear A50
  replace H := Option.bind_eq_some_iff.mp H
  obtain ⟨t124, A60, H⟩ := H
  replace H : (some t124) = some r := H
  have A6 := qgb A60
  clear A60
  obtain rfl := Option.some.inj H
  go_enter Try.func72, Try.ntmps72
  go_wp2_with (first | ((with_reducible refine qub (N := 2) rfl ?_); refine qhb ?hg (N := 2) ?hd (cs := #[.int .i64 a0_0, .int .i64 a0_1, .int .i64 a0_2, .int .i64 a0_3, .int .i64 a0_4]) (t := 28) ?hr ?_; (case hd => rfl); (case hg => rfl); (case hr => first | (go_simp; done) | (go_simp; rfl)); intro gb121 hg w7 hbox hb; have n0_ := qgb (q9b (by repeat (first | (with_reducible first | exact HB.out | apply q1b | apply q2b | apply q3b) | exact HB.out)) hb); have n1_ := qgb (hbox); have n2_ := qgb ((by rw [hg]; exact (qab (by repeat (first | (with_reducible first | exact HB.out | apply q1b | apply q2b | apply q3b) | exact HB.out))) : w.heap.size ≤ gb121)); have n3_ := qgb ((by rw [hg]; exact (qab (by repeat (first | (with_reducible first | exact HB.out | apply q1b | apply q2b | apply q3b) | exact HB.out))) : w.heap.size ≤ gb121)); clear HB; have HB := n0_; have BK121 := n1_; have GW121 := n2_; have GE121 := n3_; clear n0_ n1_ n2_ n3_; clear hb hbox hg; have hcz8_0 : w7.cell? ⟨gb121, 0, none⟩ = some (.int .i64 a0_0) := (qcb BK121.out 0).trans rfl; have hcz8_1 : w7.cell? ⟨gb121, 1, none⟩ = some (.int .i64 a0_1) := (qcb BK121.out 1).trans rfl; have hcz8_2 : w7.cell? ⟨gb121, 2, none⟩ = some (.int .i64 a0_2) := (qcb BK121.out 2).trans rfl; have hcz8_3 : w7.cell? ⟨gb121, 3, none⟩ = some (.int .i64 a0_3) := (qcb BK121.out 3).trans rfl; have hcz8_4 : w7.cell? ⟨gb121, 4, none⟩ = some (.int .i64 a0_4) := (qcb BK121.out 4).trans rfl; have hfz8_0 := qbb BK121.out 0; have hfz8_1 := qbb BK121.out 1; have hfz8_2 := qbb BK121.out 2; have hfz8_3 := qbb BK121.out 3; have hfz8_4 := qbb BK121.out 4) | ((with_reducible refine qtb (f := 54) rfl ?_); refine goesL_ (some 6) rfl rfl Try.func54 (by kernel_rfl) rfl #[.agg #[.int .i64 a0_0, .int .i64 a0_1, .int .i64 a0_2, .int .i64 a0_3, .int .i64 a0_4]] rfl (by (try simp only [List.map_toArray, List.map_cons, List.map_nil]); first | done | rfl | (simp only [List.length_drop, List.length_take]; rfl)) ?_; (with_reducible refine (impl_IsJet.calls a0_0 a0_1 a0_2 a0_3 a0_4 true _ A3.out).mono ?_); rintro e w9 ⟨rfl, hb⟩; refine ⟨_, rfl, ?_⟩; have n0_ := qgb (q8b (g := gb121) (o := .cells #[.int .i64 a0_0, .int .i64 a0_1, .int .i64 a0_2, .int .i64 a0_3, .int .i64 a0_4] 28 (0, 0)) (by (with_reducible repeat (first | refine q5b ?_ _ | refine q6b ?_ | refine q7b ?_ _)); exact BK121.out) hb); have n1_ := qgb (q9b (by repeat (first | (with_reducible first | exact HB.out | apply q1b | apply q2b | apply q3b | refine q4b ?_ GE121.out) | exact HB.out)) hb); clear BK121; clear HB; have BK121 := n0_; have HB := n1_; clear n0_ n1_; (try clear hb); (try clear hb2); (try clear hk); (try clear hi); have hcz10_0 : w9.cell? ⟨gb121, 0, none⟩ = some (.int .i64 a0_0) := (qcb BK121.out 0).trans rfl; have hcz10_1 : w9.cell? ⟨gb121, 1, none⟩ = some (.int .i64 a0_1) := (qcb BK121.out 1).trans rfl; have hcz10_2 : w9.cell? ⟨gb121, 2, none⟩ = some (.int .i64 a0_2) := (qcb BK121.out 2).trans rfl; have hcz10_3 : w9.cell? ⟨gb121, 3, none⟩ = some (.int .i64 a0_3) := (qcb BK121.out 3).trans rfl; have hcz10_4 : w9.cell? ⟨gb121, 4, none⟩ = some (.int .i64 a0_4) := (qcb BK121.out 4).trans rfl; have hfz10_0 := qbb BK121.out 0; have hfz10_1 := qbb BK121.out 1; have hfz10_2 := qbb BK121.out 2; have hfz10_3 := qbb BK121.out 3; have hfz10_4 := qbb BK121.out 4) | (go_at_call 56; (with_reducible refine (impl_FlightOf.calls a0_0 a0_1 a0_2 a0_3 a0_4 t123 _ A5.out).mono ?_); rintro e w11 ⟨rfl, hb⟩; have n0_ := qgb (q8b (g := gb121) (o := .cells #[.int .i64 a0_0, .int .i64 a0_1, .int .i64 a0_2, .int .i64 a0_3, .int .i64 a0_4] 28 (0, 0)) (by (with_reducible repeat (first | refine q5b ?_ _ | refine q6b ?_ | refine q7b ?_ _)); exact BK121.out) hb); have n1_ := qgb (q9b (by repeat (first | (with_reducible first | exact HB.out | apply q1b | apply q2b | apply q3b | refine q4b ?_ GE121.out) | exact HB.out)) hb); clear BK121; clear HB; have BK121 := n0_; have HB := n1_; clear n0_ n1_; (try clear hb); (try clear hb2); (try clear hk); (try clear hi)) | (go_at_call 79; (with_reducible refine (impl_isWithin.calls a1 0 t123 t124 _ A6.out).mono ?_); rintro e w' ⟨rfl, ⟨nd, rfl⟩⟩))
  go_ret
  exact ⟨by first | rfl | (simp [errW_none, errW_some] <;> rfl) | (simp [*, errW_none, errW_some] <;> rfl), by repeat (first | (with_reducible first | exact HB.out | apply q1b | apply q2b | apply q3b | refine q4b ?_ GE121.out) | exact HB.out)⟩
 ·replace c4 := Bool.eq_false_iff.mpr c4
  subst c4
  have H1 : (some false) = some r := by rw [if_neg (show ¬ (false = true) by decide)] at H; exact H
  clear H
  have H := H1
  clear H1
  obtain rfl := Option.some.inj H
  go_enter Try.func72, Try.ntmps72
  go_wp2_with (first | ((with_reducible refine qub (N := 2) rfl ?_); refine qhb ?hg (N := 2) ?hd (cs := #[.int .i64 a0_0, .int .i64 a0_1, .int .i64 a0_2, .int .i64 a0_3, .int .i64 a0_4]) (t := 28) ?hr ?_; (case hd => rfl); (case hg => rfl); (case hr => first | (go_simp; done) | (go_simp; rfl)); intro gb121 hg w12 hbox hb; have n0_ := qgb (q9b (by repeat (first | (with_reducible first | exact HB.out | apply q1b | apply q2b | apply q3b) | exact HB.out)) hb); have n1_ := qgb (hbox); have n2_ := qgb ((by rw [hg]; exact (qab (by repeat (first | (with_reducible first | exact HB.out | apply q1b | apply q2b | apply q3b) | exact HB.out))) : w.heap.size ≤ gb121)); have n3_ := qgb ((by rw [hg]; exact (qab (by repeat (first | (with_reducible first | exact HB.out | apply q1b | apply q2b | apply q3b) | exact HB.out))) : w.heap.size ≤ gb121)); clear HB; have HB := n0_; have BK121 := n1_; have GW121 := n2_; have GE121 := n3_; clear n0_ n1_ n2_ n3_; clear hb hbox hg; have hcz13_0 : w12.cell? ⟨gb121, 0, none⟩ = some (.int .i64 a0_0) := (qcb BK121.out 0).trans rfl; have hcz13_1 : w12.cell? ⟨gb121, 1, none⟩ = some (.int .i64 a0_1) := (qcb BK121.out 1).trans rfl; have hcz13_2 : w12.cell? ⟨gb121, 2, none⟩ = some (.int .i64 a0_2) := (qcb BK121.out 2).trans rfl; have hcz13_3 : w12.cell? ⟨gb121, 3, none⟩ = some (.int .i64 a0_3) := (qcb BK121.out 3).trans rfl; have hcz13_4 : w12.cell? ⟨gb121, 4, none⟩ = some (.int .i64 a0_4) := (qcb BK121.out 4).trans rfl; have hfz13_0 := qbb BK121.out 0; have hfz13_1 := qbb BK121.out 1; have hfz13_2 := qbb BK121.out 2; have hfz13_3 := qbb BK121.out 3; have hfz13_4 := qbb BK121.out 4) | ((with_reducible refine qtb (f := 54) rfl ?_); refine goesL_ (some 6) rfl rfl Try.func54 (by kernel_rfl) rfl #[.agg #[.int .i64 a0_0, .int .i64 a0_1, .int .i64 a0_2, .int .i64 a0_3, .int .i64 a0_4]] rfl (by (try simp only [List.map_toArray, List.map_cons, List.map_nil]); first | done | rfl | (simp only [List.length_drop, List.length_take]; rfl)) ?_; (with_reducible refine (impl_IsJet.calls a0_0 a0_1 a0_2 a0_3 a0_4 false _ A3.out).mono ?_); rintro e w14 ⟨rfl, hb⟩; refine ⟨_, rfl, ?_⟩; have n0_ := qgb (q8b (g := gb121) (o := .cells #[.int .i64 a0_0, .int .i64 a0_1, .int .i64 a0_2, .int .i64 a0_3, .int .i64 a0_4] 28 (0, 0)) (by (with_reducible repeat (first | refine q5b ?_ _ | refine q6b ?_ | refine q7b ?_ _)); exact BK121.out) hb); have n1_ := qgb (q9b (by repeat (first | (with_reducible first | exact HB.out | apply q1b | apply q2b | apply q3b | refine q4b ?_ GE121.out) | exact HB.out)) hb); clear BK121; clear HB; have BK121 := n0_; have HB := n1_; clear n0_ n1_; (try clear hb); (try clear hb2); (try clear hk); (try clear hi)))
  go_ret
  exact ⟨by first | rfl | (simp [errW_none, errW_some] <;> rfl) | (simp [*, errW_none, errW_some] <;> rfl), by repeat (first | (with_reducible first | exact HB.out | apply q1b | apply q2b | apply q3b | refine q4b ?_ GE121.out) | exact HB.out)⟩
/-! ### impl_IsMeasure: function 98 -/
def impl_IsMeasure.f (a0 : Int) : Option (Bool) := (impl_isWithin.f a0 (-4096) 4096).bind fun t125 => (some t125)
set_option maxHeartbeats 8000000 in
set_option maxRecDepth 100000 in
theorem impl_IsMeasure.calls (a0 : Int) (r : Bool) (w : World) (h : impl_IsMeasure.f a0 = some r) :
 Calls Try.prog 98 #[.int .i64 a0] w fun e w' => e = .returned (.bool r) ∧ Drawn0 w w' := by
 have H : ((impl_isWithin.f a0 (-4096) 4096).bind fun t125 => (some t125)) = some r := h
 clear h
 replace H := Option.bind_eq_some_iff.mp H
 obtain ⟨t125, A20, H⟩ := H
 replace H : (some t125) = some r := H
 have A2 := qgb A20
 clear A20
 obtain rfl := Option.some.inj H
 go_enter Try.func98, Try.ntmps98
 go_wp2_with (first | ((with_reducible refine qtb (f := 79) rfl ?_); refine goesL_ (some 4) rfl rfl Try.func79 (by kernel_rfl) rfl #[.int .i64 a0, .int .i64 (-4096), .int .i64 4096] rfl (by (try simp only [List.map_toArray, List.map_cons, List.map_nil]); first | done | rfl | (simp only [List.length_drop, List.length_take]; rfl)) ?_; (with_reducible refine (impl_isWithin.calls a0 (-4096) 4096 t125 _ A2.out).mono ?_); rintro e w' ⟨rfl, ⟨nd, rfl⟩⟩; refine ⟨_, rfl, ?_⟩))
 go_ret
 exact ⟨by first | rfl | (simp; done) | (simp [*]; done), by repeat (first | exact Drawn0.refl _ | apply Drawn0.step)⟩
/-! ### impl_IsPlace: function 69 -/
def impl_IsPlace.f (a0_0 : Int) (a0_1 : Int) : Option (Bool) := (impl_IsMeasure.f a0_0).bind fun t127 => (if t127 = true then ((impl_IsMeasure.f a0_1).bind fun t128 => (some t128)) else (some false))
set_option maxHeartbeats 8000000 in
set_option maxRecDepth 100000 in
theorem impl_IsPlace.calls (a0_0 : Int) (a0_1 : Int) (r : Bool) (w : World) (h : impl_IsPlace.f a0_0 a0_1 = some r) :
 Calls Try.prog 69 #[.agg #[.int .i64 a0_0, .int .i64 a0_1]] w fun e w' => e = .returned (.bool r) ∧ Below w.heap.size w w' := by
 have hu26 := Try.underlying26
 have HB := qgb (Below.refl w.heap.size w)
 have H : ((impl_IsMeasure.f a0_0).bind fun t127 => (if t127 = true then ((impl_IsMeasure.f a0_1).bind fun t128 => (some t128)) else (some false))) = some r := h
 clear h
 replace H := Option.bind_eq_some_iff.mp H
 obtain ⟨t127, A20, H⟩ := H
 replace H : (if t127 = true then ((impl_IsMeasure.f a0_1).bind fun t128 => (some t128)) else (some false)) = some r := H
 have A2 := qgb A20
 clear A20
 by_cases c3 : t127 = true
 ·subst c3
  have H1 : ((impl_IsMeasure.f a0_1).bind fun t128 => (some t128)) = some r := by rw [if_pos rfl] at H; exact H
  clear H
  have H := H1
  clear H1
  replace H := Option.bind_eq_some_iff.mp H
  obtain ⟨t128, A40, H⟩ := H
  replace H : (some t128) = some r := H
  have A4 := qgb A40
  clear A40
  obtain rfl := Option.some.inj H
  go_enter Try.func69, Try.ntmps69
  go_wp2_with (first | ((with_reducible refine qub (N := 1) rfl ?_); refine qhb ?hg (N := 1) ?hd (cs := #[.int .i64 a0_0, .int .i64 a0_1]) (t := 26) ?hr ?_; (case hd => rfl); (case hg => rfl); (case hr => first | (go_simp; done) | (go_simp; rfl)); intro gb126 hg w5 hbox hb; have n0_ := qgb (q9b (by repeat (first | (with_reducible first | exact HB.out | apply q1b | apply q2b | apply q3b) | exact HB.out)) hb); have n1_ := qgb (hbox); have n2_ := qgb ((by rw [hg]; exact (qab (by repeat (first | (with_reducible first | exact HB.out | apply q1b | apply q2b | apply q3b) | exact HB.out))) : w.heap.size ≤ gb126)); have n3_ := qgb ((by rw [hg]; exact (qab (by repeat (first | (with_reducible first | exact HB.out | apply q1b | apply q2b | apply q3b) | exact HB.out))) : w.heap.size ≤ gb126)); clear HB; have HB := n0_; have BK126 := n1_; have GW126 := n2_; have GE126 := n3_; clear n0_ n1_ n2_ n3_; clear hb hbox hg; have hcz6_0 : w5.cell? ⟨gb126, 0, none⟩ = some (.int .i64 a0_0) := (qcb BK126.out 0).trans rfl; have hcz6_1 : w5.cell? ⟨gb126, 1, none⟩ = some (.int .i64 a0_1) := (qcb BK126.out 1).trans rfl; have hfz6_0 := qbb BK126.out 0; have hfz6_1 := qbb BK126.out 1) | ((with_reducible refine qtb (f := 98) rfl ?_); refine goesL_ (some 5) rfl rfl Try.func98 (by kernel_rfl) rfl #[.int .i64 a0_0] rfl (by (try simp only [List.map_toArray, List.map_cons, List.map_nil]); first | done | rfl | (simp only [List.length_drop, List.length_take]; rfl)) ?_; (with_reducible refine (impl_IsMeasure.calls a0_0 true _ A2.out).mono ?_); rintro e w' ⟨rfl, ⟨nd, rfl⟩⟩; refine ⟨_, rfl, ?_⟩) | (go_at_call 98; (with_reducible refine (impl_IsMeasure.calls a0_1 t128 _ A4.out).mono ?_); rintro e w' ⟨rfl, ⟨nd, rfl⟩⟩))
  go_ret
  exact ⟨by first | rfl | (simp [errW_none, errW_some] <;> rfl) | (simp [*, errW_none, errW_some] <;> rfl), by repeat (first | (with_reducible first | exact HB.out | apply q1b | apply q2b | apply q3b | refine q4b ?_ GE126.out) | exact HB.out)⟩
 ·replace c3 := Bool.eq_false_iff.mpr c3
  subst c3
  have H1 : (some false) = some r := by rw [if_neg (show ¬ (false = true) by decide)] at H; exact H
  clear H
  have H := H1
  clear H1
  obtain rfl := Option.some.inj H
  go_enter Try.func69, Try.ntmps69
  go_wp2_with (first | ((with_reducible refine qub (N := 1) rfl ?_); refine qhb ?hg (N := 1) ?hd (cs := #[.int .i64 a0_0, .int .i64 a0_1]) (t := 26) ?hr ?_; (case hd => rfl); (case hg => rfl); (case hr => first | (go_simp; done) | (go_simp; rfl)); intro gb126 hg w7 hbox hb; have n0_ := qgb (q9b (by repeat (first | (with_reducible first | exact HB.out | apply q1b | apply q2b | apply q3b) | exact HB.out)) hb); have n1_ := qgb (hbox); have n2_ := qgb ((by rw [hg]; exact (qab (by repeat (first | (with_reducible first | exact HB.out | apply q1b | apply q2b | apply q3b) | exact HB.out))) : w.heap.size ≤ gb126)); have n3_ := qgb ((by rw [hg]; exact (qab (by repeat (first | (with_reducible first | exact HB.out | apply q1b | apply q2b | apply q3b) | exact HB.out))) : w.heap.size ≤ gb126)); clear HB; have HB := n0_; have BK126 := n1_; have GW126 := n2_; have GE126 := n3_; clear n0_ n1_ n2_ n3_; clear hb hbox hg; have hcz8_0 : w7.cell? ⟨gb126, 0, none⟩ = some (.int .i64 a0_0) := (qcb BK126.out 0).trans rfl; have hcz8_1 : w7.cell? ⟨gb126, 1, none⟩ = some (.int .i64 a0_1) := (qcb BK126.out 1).trans rfl; have hfz8_0 := qbb BK126.out 0; have hfz8_1 := qbb BK126.out 1) | ((with_reducible refine qtb (f := 98) rfl ?_); refine goesL_ (some 5) rfl rfl Try.func98 (by kernel_rfl) rfl #[.int .i64 a0_0] rfl (by (try simp only [List.map_toArray, List.map_cons, List.map_nil]); first | done | rfl | (simp only [List.length_drop, List.length_take]; rfl)) ?_; (with_reducible refine (impl_IsMeasure.calls a0_0 false _ A2.out).mono ?_); rintro e w' ⟨rfl, ⟨nd, rfl⟩⟩; refine ⟨_, rfl, ?_⟩))
  go_ret
  exact ⟨by first | rfl | (simp [errW_none, errW_some] <;> rfl) | (simp [*, errW_none, errW_some] <;> rfl), by repeat (first | (with_reducible first | exact HB.out | apply q1b | apply q2b | apply q3b | refine q4b ?_ GE126.out) | exact HB.out)⟩
/-! ### impl_checked: function 99 -/
def impl_checked.f (a0_0 : Int) (a0_1 : Int) : Option (Int × Int × Bool) := (impl_IsPlace.f a0_0 a0_1).bind fun t131 => (if t131 = true then (some (a0_0, a0_1, true)) else (some (0, 0, false)))
set_option maxHeartbeats 8000000 in
set_option maxRecDepth 100000 in
theorem impl_checked.calls (a0_0 : Int) (a0_1 : Int) (r1 : Int) (r2 : Int) (r3 : Bool) (w : World) (h : impl_checked.f a0_0 a0_1 = some (r1, r2, r3)) :
 Calls Try.prog 99 #[.agg #[.int .i64 a0_0, .int .i64 a0_1]] w fun e w' => e = .returned (.tuple #[.agg #[.int .i64 r1, .int .i64 r2], .bool r3]) ∧ Below w.heap.size w w' := by
 have hu26 := Try.underlying26
 have HB := qgb (Below.refl w.heap.size w)
 have H : ((impl_IsPlace.f a0_0 a0_1).bind fun t131 => (if t131 = true then (some (a0_0, a0_1, true)) else (some (0, 0, false)))) = some (r1, r2, r3) := h
 clear h
 replace H := Option.bind_eq_some_iff.mp H
 obtain ⟨t131, A20, H⟩ := H
 replace H : (if t131 = true then (some (a0_0, a0_1, true)) else (some (0, 0, false))) = some (r1, r2, r3) := H
 have A2 := qgb A20
 clear A20
 by_cases c3 : t131 = true
 ·subst c3
  have H1 : (some (a0_0, a0_1, true)) = some (r1, r2, r3) := by rw [if_pos rfl] at H; exact H
  clear H
  have H := H1
  clear H1
  simp only [Option.some.injEq, Prod.mk.injEq] at H
  obtain ⟨rfl, rfl, rfl⟩ := H
  go_enter Try.func99, Try.ntmps99
  go_wp2_with (first | ((with_reducible refine qub (N := 1) rfl ?_); refine qhb ?hg (N := 1) ?hd (cs := #[.int .i64 a0_0, .int .i64 a0_1]) (t := 26) ?hr ?_; (case hd => rfl); (case hg => rfl); (case hr => first | (go_simp; done) | (go_simp; rfl)); intro gb129 hg w4 hbox hb; have n0_ := qgb (q9b (by repeat (first | (with_reducible first | exact HB.out | apply q1b | apply q2b | apply q3b) | exact HB.out)) hb); have n1_ := qgb (hbox); have n2_ := qgb ((by rw [hg]; exact (qab (by repeat (first | (with_reducible first | exact HB.out | apply q1b | apply q2b | apply q3b) | exact HB.out))) : w.heap.size ≤ gb129)); have n3_ := qgb ((by rw [hg]; exact (qab (by repeat (first | (with_reducible first | exact HB.out | apply q1b | apply q2b | apply q3b) | exact HB.out))) : w.heap.size ≤ gb129)); clear HB; have HB := n0_; have BK129 := n1_; have GW129 := n2_; have GE129 := n3_; clear n0_ n1_ n2_ n3_; clear hb hbox hg) | ((with_reducible refine qub (N := 2) rfl ?_); refine qhb ?hg (N := 2) ?hd (cs := #[.int .i64 0, .int .i64 0]) (t := 26) ?hr ?_; (case hd => rfl); (case hg => rfl); (case hr => first | (go_simp; done) | (go_simp; rfl)); intro gb130 hg w5 hbox hb; have n0_ := qgb (q8b (g := gb129) (o := .cells #[.int .i64 a0_0, .int .i64 a0_1] 26 (0, 0)) (by (with_reducible repeat (first | refine q5b ?_ _ | refine q6b ?_ | refine q7b ?_ _)); exact BK129.out) hb); have n1_ := qgb (q9b (by repeat (first | (with_reducible first | exact HB.out | apply q1b | apply q2b | apply q3b | refine q4b ?_ GE129.out) | exact HB.out)) hb); have n2_ := qgb (hbox); have n3_ := qgb ((by rw [hg]; exact (qab (by repeat (first | (with_reducible first | exact HB.out | apply q1b | apply q2b | apply q3b | refine q4b ?_ GE129.out) | exact HB.out))) : w.heap.size ≤ gb130)); have n4_ := qgb ((by rw [hg]; exact (qab (by repeat (first | (with_reducible first | exact HB.out | apply q1b | apply q2b | apply q3b | refine q4b ?_ GE129.out) | exact HB.out))) : w.heap.size ≤ gb130)); have n5_ := qgb ((by rw [hg]; exact qvb (qdb (g := gb129) (o := .cells #[.int .i64 a0_0, .int .i64 a0_1] 26 (0, 0)) (by (with_reducible repeat (first | refine q5b ?_ _ | refine q6b ?_ | refine q7b ?_ _)); exact BK129.out)) : gb129 ≠ gb130)); have n6_ := qgb ((by rw [hg]; exact qwb (qdb (g := gb129) (o := .cells #[.int .i64 a0_0, .int .i64 a0_1] 26 (0, 0)) (by (with_reducible repeat (first | refine q5b ?_ _ | refine q6b ?_ | refine q7b ?_ _)); exact BK129.out)) : gb130 ≠ gb129)); clear BK129; clear HB; have BK129 := n0_; have HB := n1_; have BK130 := n2_; have GW130 := n3_; have GE130 := n4_; have NB129_130 := n5_; have NB130_129 := n6_; clear n0_ n1_ n2_ n3_ n4_ n5_ n6_; clear hb hbox hg; have hnb6 := NB129_130.out; have hnc6 := NB130_129.out; have hcz7_0 : w5.cell? ⟨gb129, 0, none⟩ = some (.int .i64 a0_0) := (qcb BK129.out 0).trans rfl; have hcz7_1 : w5.cell? ⟨gb129, 1, none⟩ = some (.int .i64 a0_1) := (qcb BK129.out 1).trans rfl; have hfz7_0 := qbb BK129.out 0; have hfz7_1 := qbb BK129.out 1) | ((with_reducible refine qtb (f := 69) rfl ?_); refine goesL_ (some 5) rfl rfl Try.func69 (by kernel_rfl) rfl #[.agg #[.int .i64 a0_0, .int .i64 a0_1]] rfl (by (try simp only [List.map_toArray, List.map_cons, List.map_nil]); first | done | rfl | (simp only [List.length_drop, List.length_take]; rfl)) ?_; (with_reducible refine (impl_IsPlace.calls a0_0 a0_1 true _ A2.out).mono ?_); rintro e w8 ⟨rfl, hb⟩; refine ⟨_, rfl, ?_⟩; have n0_ := qgb (q8b (g := gb129) (o := .cells #[.int .i64 a0_0, .int .i64 a0_1] 26 (0, 0)) (by (with_reducible repeat (first | refine q5b ?_ _ | refine q6b ?_ | refine q7b ?_ _)); exact BK129.out) hb); have n1_ := qgb (q8b (g := gb130) (o := .cells #[.int .i64 0, .int .i64 0] 26 (0, 0)) (by (with_reducible repeat (first | refine q5b ?_ _ | refine q6b ?_ | refine q7b ?_ _)); exact BK130.out) hb); have n2_ := qgb (q9b (by repeat (first | (with_reducible first | exact HB.out | apply q1b | apply q2b | apply q3b | refine q4b ?_ GE129.out | refine q4b ?_ GE130.out) | exact HB.out)) hb); clear BK129; clear BK130; clear HB; have BK129 := n0_; have BK130 := n1_; have HB := n2_; clear n0_ n1_ n2_; (try clear hb); (try clear hb2); (try clear hk); (try clear hi); have hcz9_0 : w8.cell? ⟨gb129, 0, none⟩ = some (.int .i64 a0_0) := (qcb BK129.out 0).trans rfl; have hcz9_1 : w8.cell? ⟨gb129, 1, none⟩ = some (.int .i64 a0_1) := (qcb BK129.out 1).trans rfl; have hfz9_0 := qbb BK129.out 0; have hfz9_1 := qbb BK129.out 1; have hcz10_0 : w8.cell? ⟨gb130, 0, none⟩ = some (.int .i64 0) := (qcb BK130.out 0).trans rfl; have hcz10_1 : w8.cell? ⟨gb130, 1, none⟩ = some (.int .i64 0) := (qcb BK130.out 1).trans rfl; have hfz10_0 := qbb BK130.out 0; have hfz10_1 := qbb BK130.out 1))
  refine bodyPost_ret (results_ct rfl _ _ gb130 26 #[.int .i64 a0_0, .int .i64 a0_1] (0, 0) _ rfl (by (with_reducible repeat (first | refine q5b ?_ _ | refine q6b ?_ | refine q7b ?_ _)); refine qfb (cs := #[.int .i64 a0_0, .int .i64 0]) ?_ 1 _ rfl; (with_reducible repeat (first | refine q5b ?_ _ | refine q6b ?_ | refine q7b ?_ _)); refine qfb (cs := #[.int .i64 0, .int .i64 0]) ?_ 0 _ rfl; (with_reducible repeat (first | refine q5b ?_ _ | refine q6b ?_ | refine q7b ?_ _)); exact BK130.out) Try.underlying26 rfl (by kernel_rfl)) rfl ?_
  exact ⟨by first | rfl | (simp [errW_none, errW_some] <;> rfl) | (simp [*, errW_none, errW_some] <;> rfl), by repeat (first | (with_reducible first | exact HB.out | apply q1b | apply q2b | apply q3b | refine q4b ?_ GE129.out | refine q4b ?_ GE130.out) | exact HB.out)⟩
 ·replace c3 := Bool.eq_false_iff.mpr c3
  subst c3
  have H1 : (some (0, 0, false)) = some (r1, r2, r3) := by rw [if_neg (show ¬ (false = true) by decide)] at H; exact H
  clear H
  have H := H1
  clear H1
  simp only [Option.some.injEq, Prod.mk.injEq] at H
  obtain ⟨rfl, rfl, rfl⟩ := H
  go_enter Try.func99, Try.ntmps99
  go_wp2_with (first | ((with_reducible refine qub (N := 1) rfl ?_); refine qhb ?hg (N := 1) ?hd (cs := #[.int .i64 a0_0, .int .i64 a0_1]) (t := 26) ?hr ?_; (case hd => rfl); (case hg => rfl); (case hr => first | (go_simp; done) | (go_simp; rfl)); intro gb129 hg w11 hbox hb; have n0_ := qgb (q9b (by repeat (first | (with_reducible first | exact HB.out | apply q1b | apply q2b | apply q3b) | exact HB.out)) hb); have n1_ := qgb (hbox); have n2_ := qgb ((by rw [hg]; exact (qab (by repeat (first | (with_reducible first | exact HB.out | apply q1b | apply q2b | apply q3b) | exact HB.out))) : w.heap.size ≤ gb129)); have n3_ := qgb ((by rw [hg]; exact (qab (by repeat (first | (with_reducible first | exact HB.out | apply q1b | apply q2b | apply q3b) | exact HB.out))) : w.heap.size ≤ gb129)); clear HB; have HB := n0_; have BK129 := n1_; have GW129 := n2_; have GE129 := n3_; clear n0_ n1_ n2_ n3_; clear hb hbox hg) | ((with_reducible refine qub (N := 2) rfl ?_); refine qhb ?hg (N := 2) ?hd (cs := #[.int .i64 0, .int .i64 0]) (t := 26) ?hr ?_; (case hd => rfl); (case hg => rfl); (case hr => first | (go_simp; done) | (go_simp; rfl)); intro gb130 hg w12 hbox hb; have n0_ := qgb (q8b (g := gb129) (o := .cells #[.int .i64 a0_0, .int .i64 a0_1] 26 (0, 0)) (by (with_reducible repeat (first | refine q5b ?_ _ | refine q6b ?_ | refine q7b ?_ _)); exact BK129.out) hb); have n1_ := qgb (q9b (by repeat (first | (with_reducible first | exact HB.out | apply q1b | apply q2b | apply q3b | refine q4b ?_ GE129.out) | exact HB.out)) hb); have n2_ := qgb (hbox); have n3_ := qgb ((by rw [hg]; exact (qab (by repeat (first | (with_reducible first | exact HB.out | apply q1b | apply q2b | apply q3b | refine q4b ?_ GE129.out) | exact HB.out))) : w.heap.size ≤ gb130)); have n4_ := qgb ((by rw [hg]; exact (qab (by repeat (first | (with_reducible first | exact HB.out | apply q1b | apply q2b | apply q3b | refine q4b ?_ GE129.out) | exact HB.out))) : w.heap.size ≤ gb130)); have n5_ := qgb ((by rw [hg]; exact qvb (qdb (g := gb129) (o := .cells #[.int .i64 a0_0, .int .i64 a0_1] 26 (0, 0)) (by (with_reducible repeat (first | refine q5b ?_ _ | refine q6b ?_ | refine q7b ?_ _)); exact BK129.out)) : gb129 ≠ gb130)); have n6_ := qgb ((by rw [hg]; exact qwb (qdb (g := gb129) (o := .cells #[.int .i64 a0_0, .int .i64 a0_1] 26 (0, 0)) (by (with_reducible repeat (first | refine q5b ?_ _ | refine q6b ?_ | refine q7b ?_ _)); exact BK129.out)) : gb130 ≠ gb129)); clear BK129; clear HB; have BK129 := n0_; have HB := n1_; have BK130 := n2_; have GW130 := n3_; have GE130 := n4_; have NB129_130 := n5_; have NB130_129 := n6_; clear n0_ n1_ n2_ n3_ n4_ n5_ n6_; clear hb hbox hg; have hnb13 := NB129_130.out; have hnc13 := NB130_129.out; have hcz14_0 : w12.cell? ⟨gb129, 0, none⟩ = some (.int .i64 a0_0) := (qcb BK129.out 0).trans rfl; have hcz14_1 : w12.cell? ⟨gb129, 1, none⟩ = some (.int .i64 a0_1) := (qcb BK129.out 1).trans rfl; have hfz14_0 := qbb BK129.out 0; have hfz14_1 := qbb BK129.out 1) | ((with_reducible refine qtb (f := 69) rfl ?_); refine goesL_ (some 5) rfl rfl Try.func69 (by kernel_rfl) rfl #[.agg #[.int .i64 a0_0, .int .i64 a0_1]] rfl (by (try simp only [List.map_toArray, List.map_cons, List.map_nil]); first | done | rfl | (simp only [List.length_drop, List.length_take]; rfl)) ?_; (with_reducible refine (impl_IsPlace.calls a0_0 a0_1 false _ A2.out).mono ?_); rintro e w15 ⟨rfl, hb⟩; refine ⟨_, rfl, ?_⟩; have n0_ := qgb (q8b (g := gb129) (o := .cells #[.int .i64 a0_0, .int .i64 a0_1] 26 (0, 0)) (by (with_reducible repeat (first | refine q5b ?_ _ | refine q6b ?_ | refine q7b ?_ _)); exact BK129.out) hb); have n1_ := qgb (q8b (g := gb130) (o := .cells #[.int .i64 0, .int .i64 0] 26 (0, 0)) (by (with_reducible repeat (first | refine q5b ?_ _ | refine q6b ?_ | refine q7b ?_ _)); exact BK130.out) hb); have n2_ := qgb (q9b (by repeat (first | (with_reducible first | exact HB.out | apply q1b | apply q2b | apply q3b | refine q4b ?_ GE129.out | refine q4b ?_ GE130.out) | exact HB.out)) hb); clear BK129; clear BK130; clear HB; have BK129 := n0_; have BK130 := n1_; have HB := n2_; clear n0_ n1_ n2_; (try clear hb); (try clear hb2); (try clear hk); (try clear hi); have hcz16_0 : w15.cell? ⟨gb130, 0, none⟩ = some (.int .i64 0) := (qcb BK130.out 0).trans rfl; have hcz16_1 : w15.cell? ⟨gb130, 1, none⟩ = some (.int .i64 0) := (qcb BK130.out 1).trans rfl; have hfz16_0 := qbb BK130.out 0; have hfz16_1 := qbb BK130.out 1))
  refine bodyPost_ret (results_ct rfl _ _ gb130 26 #[.int .i64 0, .int .i64 0] (0, 0) _ rfl (by (with_reducible repeat (first | refine q5b ?_ _ | refine q6b ?_ | refine q7b ?_ _)); refine qfb (cs := #[.int .i64 0, .int .i64 0]) ?_ 1 _ rfl; (with_reducible repeat (first | refine q5b ?_ _ | refine q6b ?_ | refine q7b ?_ _)); refine qfb (cs := #[.int .i64 0, .int .i64 0]) ?_ 0 _ rfl; (with_reducible repeat (first | refine q5b ?_ _ | refine q6b ?_ | refine q7b ?_ _)); exact BK130.out) Try.underlying26 rfl (by kernel_rfl)) rfl ?_
  exact ⟨by first | rfl | (simp [errW_none, errW_some] <;> rfl) | (simp [*, errW_none, errW_some] <;> rfl), by repeat (first | (with_reducible first | exact HB.out | apply q1b | apply q2b | apply q3b | refine q4b ?_ GE129.out | refine q4b ?_ GE130.out) | exact HB.out)⟩
end Go.Proofs.Ytlmgokicanlcpaa.PFnMovedJet
