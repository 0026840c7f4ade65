-- A printed text, shortened by wip/tools/squeeze.py.
import Derived.Test.YtlmgokicanlcpaaPFnMeetx0
namespace Go.Proofs.Ytlmgokicanlcpaa.PFnMeet
open Go.RowKit Go.Proofs.YtlmgokicanlcpaaW.PrintWords Go.Proofs.YtlmgokicanlcpaaW.PrintLast Go.Proofs.YtlmgokicanlcpaaW.PrintMore
attribute [local go_sem] max2_int min2_int max_two min_two max_three min_three max_four min_four   -- for this text's walks alone
set_option linter.unusedVariables false
set_option linter.unusedSimpArgs false

theorem p1c : type_of% @List.setIfInBounds_toArray := @List.setIfInBounds_toArray
theorem p2c : type_of% @List.set_cons_zero := @List.set_cons_zero
theorem p3c : type_of% @List.set_cons_succ := @List.set_cons_succ
theorem q1c : type_of% @below_alloc := @below_alloc
theorem q2c : type_of% @pw_below_drewN := @pw_below_drewN
theorem q3c : type_of% @below_drew1 := @below_drew1
theorem q4c : type_of% @below_set := @below_set
theorem q5c : type_of% @blk_drewN := @blk_drewN
theorem q6c : type_of% @blk_drew := @blk_drew
theorem q7c : type_of% @blk_alloc := @blk_alloc
theorem q8c : type_of% @blk_below := @blk_below
theorem q9c : type_of% @below_step := @below_step
theorem qac : type_of% @below_size := @below_size
theorem qbc : type_of% @blk_frozen := @blk_frozen
theorem qcc : type_of% @blk_cell := @blk_cell
theorem qdc : type_of% @blk_lt := @blk_lt
theorem qec : type_of% @blk_far := @blk_far
theorem qfc : type_of% @blk_put := @blk_put
theorem qgc : type_of% @Aside0.mk := @Aside0.mk
theorem qhc : type_of% @box_event := @box_event
theorem qtc : type_of% @gate_callee := @gate_callee
theorem quc : type_of% @gate_dst := @gate_dst
theorem qvc : type_of% @Nat.ne_of_lt := @Nat.ne_of_lt
theorem qwc : type_of% @Nat.ne_of_gt := @Nat.ne_of_gt
/-! ### impl_isWithin: function 79 -/
def impl_isWithin.f (a0 : Int) (a1 : Int) (a2 : Int) : Option (Bool) := if a1 ≤ a0 then (some (decide (a0 ≤ a2))) else (some false)
set_option maxHeartbeats 8000000 in
set_option maxRecDepth 100000 in
theorem impl_isWithin.calls (a0 : Int) (a1 : Int) (a2 : Int) (r : Bool) (w : World) (h : impl_isWithin.f a0 a1 a2 = some r) :
 Calls Try.prog 79 #[.int .i64 a0, .int .i64 a1, .int .i64 a2] w fun e w' => e = .returned (.bool r) ∧ Drawn0 w w' := by
 have H : (if a1 ≤ a0 then (some (decide (a0 ≤ a2))) else (some false)) = some r := h
 clear h
 by_cases c4 : a1 ≤ a0
 ·rw [if_pos c4] at H
  have c4b0 : decide (a1 ≤ a0) = true := decide_eq_true c4
  clear c4
  obtain rfl := Option.some.inj H
  go_enter Try.func79, Try.ntmps79
  go_wp2
  go_ret
  exact ⟨by first | rfl | (simp; done) | (simp [*]; done), by repeat (first | exact Drawn0.refl _ | apply Drawn0.step)⟩
 ·rw [if_neg c4] at H
  have c4b0 : decide (a1 ≤ a0) = false := decide_eq_false c4
  clear c4
  obtain rfl := Option.some.inj H
  go_enter Try.func79, Try.ntmps79
  go_wp2
  go_ret
  exact ⟨by first | rfl | (simp; done) | (simp [*]; done), by repeat (first | exact Drawn0.refl _ | apply Drawn0.step)⟩
/-! ### impl_IsHeading: function 91 -/
def impl_IsHeading.f (a0 : Int) : Option (Bool) := (impl_isWithin.f a0 0 3).bind fun t101 => (some t101)
set_option maxHeartbeats 8000000 in
set_option maxRecDepth 100000 in
theorem impl_IsHeading.calls (a0 : Int) (r : Bool) (w : World) (h : impl_IsHeading.f a0 = some r) :
 Calls Try.prog 91 #[.int .i64 a0] w fun e w' => e = .returned (.bool r) ∧ Drawn0 w w' := by
 have H : ((impl_isWithin.f a0 0 3).bind fun t101 => (some t101)) = some r := h
 clear h
 replace H := Option.bind_eq_some_iff.mp H
 obtain ⟨t101, A20, H⟩ := H
 replace H : (some t101) = some r := H
 have A2 := qgc A20
 clear A20
 obtain rfl := Option.some.inj H
 go_enter Try.func91, Try.ntmps91
 go_wp2_with (first | ((with_reducible refine qtc (f := 79) rfl ?_); refine goesL_ (some 4) rfl rfl Try.func79 (by kernel_rfl) rfl #[.int .i64 a0, .int .i64 0, .int .i64 3] rfl (by (try simp only [List.map_toArray, List.map_cons, List.map_nil]); first | done | rfl | (simp only [List.length_drop, List.length_take]; rfl)) ?_; (with_reducible refine (impl_isWithin.calls a0 0 3 t101 _ A2.out).mono ?_); rintro e w' ⟨rfl, ⟨nd, rfl⟩⟩; refine ⟨_, rfl, ?_⟩))
 go_ret
 exact ⟨by first | rfl | (simp; done) | (simp [*]; done), by repeat (first | exact Drawn0.refl _ | apply Drawn0.step)⟩
/-! ### impl_IsJet: function 54 -/
def impl_IsJet.f (a0_0 : Int) (a0_1 : Int) (a0_2 : Int) (a0_3 : Int) (a0_4 : Int) : Option (Bool) := (impl_isWithin.f a0_0 (-1024) 1024).bind fun t103 => (if t103 = true then ((impl_isWithin.f a0_1 (-1024) 1024).bind fun t104 => (if t104 = true then ((impl_IsHeading.f a0_2).bind fun t105 => (if t105 = true then ((impl_isWithin.f a0_3 0 16).bind fun t106 => (if t106 = true then ((impl_isWithin.f a0_4 1 32).bind fun t107 => (some t107)) else (some false))) else (some false))) else (some false))) else (some false))
set_option maxHeartbeats 8000000 in
set_option maxRecDepth 100000 in
theorem impl_IsJet.calls (a0_0 : Int) (a0_1 : Int) (a0_2 : Int) (a0_3 : Int) (a0_4 : Int) (r : Bool) (w : World) (h : impl_IsJet.f a0_0 a0_1 a0_2 a0_3 a0_4 = some r) :
 Calls Try.prog 54 #[.agg #[.int .i64 a0_0, .int .i64 a0_1, .int .i64 a0_2, .int .i64 a0_3, .int .i64 a0_4]] w fun e w' => e = .returned (.bool r) ∧ Below w.heap.size w w' := by
 have hu28 := Try.underlying28
 have HB := qgc (Below.refl w.heap.size w)
 have H : ((impl_isWithin.f a0_0 (-1024) 1024).bind fun t103 => (if t103 = true then ((impl_isWithin.f a0_1 (-1024) 1024).bind fun t104 => (if t104 = true then ((impl_IsHeading.f a0_2).bind fun t105 => (if t105 = true then ((impl_isWithin.f a0_3 0 16).bind fun t106 => (if t106 = true then ((impl_isWithin.f a0_4 1 32).bind fun t107 => (some t107)) else (some false))) else (some false))) else (some false))) else (some false))) = some r := h
 clear h
 replace H := Option.bind_eq_some_iff.mp H
 obtain ⟨t103, A20, H⟩ := H
 replace H : (if t103 = true then ((impl_isWithin.f a0_1 (-1024) 1024).bind fun t104 => (if t104 = true then ((impl_IsHeading.f a0_2).bind fun t105 => (if t105 = true then ((impl_isWithin.f a0_3 0 16).bind fun t106 => (if t106 = true then ((impl_isWithin.f a0_4 1 32).bind fun t107 => (some t107)) else (some false))) else (some false))) else (some false))) else (some false)) = some r := H
 have A2 := qgc A20
 clear A20
 by_cases c3 : t103 = true
 ·subst c3
  have H1 : ((impl_isWithin.f a0_1 (-1024) 1024).bind fun t104 => (if t104 = true then ((impl_IsHeading.f a0_2).bind fun t105 => (if t105 = true then ((impl_isWithin.f a0_3 0 16).bind fun t106 => (if t106 = true then ((impl_isWithin.f a0_4 1 32).bind fun t107 => (some t107)) else (some false))) else (some false))) else (some false))) = some r := by rw [if_pos rfl] at H; exact H
  clear H
  have H := H1
  clear H1
  replace H := Option.bind_eq_some_iff.mp H
  obtain ⟨t104, A40, H⟩ := H
  replace H : (if t104 = true then ((impl_IsHeading.f a0_2).bind fun t105 => (if t105 = true then ((impl_isWithin.f a0_3 0 16).bind fun t106 => (if t106 = true then ((impl_isWithin.f a0_4 1 32).bind fun t107 => (some t107)) else (some false))) else (some false))) else (some false)) = some r := H
  have A4 := qgc A40
  clear A40
  by_cases c5 : t104 = true
  ·subst c5
   have H1 : ((impl_IsHeading.f a0_2).bind fun t105 => (if t105 = true then ((impl_isWithin.f a0_3 0 16).bind fun t106 => (if t106 = true then ((impl_isWithin.f a0_4 1 32).bind fun t107 => (some t107)) else (some false))) else (some false))) = some r := by rw [if_pos rfl] at H; exact H
   clear H
   have H := H1
   clear H1
   replace H := Option.bind_eq_some_iff.mp H
   obtain ⟨t105, A60, H⟩ := H
   replace H : (if t105 = true then ((impl_isWithin.f a0_3 0 16).bind fun t106 => (if t106 = true then ((impl_isWithin.f a0_4 1 32).bind fun t107 => (some t107)) else (some false))) else (some false)) = some r := H
   have A6 := qgc A60
   clear A60
   by_cases c7 : t105 = true
   ·subst c7
    have H1 : ((impl_isWithin.f a0_3 0 16).bind fun t106 => (if t106 = true then ((impl_isWithin.f a0_4 1 32).bind fun t107 => (some t107)) else (some false))) = some r := by rw [if_pos rfl] at H; exact H
    clear H
    have H := H1
    clear H1
    replace H := Option.bind_eq_some_iff.mp H
    obtain ⟨t106, A80, H⟩ := H
    replace H : (if t106 = true then ((impl_isWithin.f a0_4 1 32).bind fun t107 => (some t107)) else (some false)) = some r := H
    have A8 := qgc A80
    clear A80
    by_cases c9 : t106 = true
    ·subst c9
     have H1 : ((impl_isWithin.f a0_4 1 32).bind fun t107 => (some t107)) = some r := by rw [if_pos rfl] at H; exact H
     clear H
     have H := H1
     clear H1
     replace H := Option.bind_eq_some_iff.mp H
     obtain ⟨t107, A100, H⟩ := H
     replace H : (some t107) = some r := H
     have A10 := qgc A100
     clear A100
     obtain rfl := Option.some.inj H
     go_enter Try.func54, Try.ntmps54
     go_wp2_with (first | ((with_reducible refine quc (N := 1) rfl ?_); refine qhc ?hg (N := 1) ?hd (cs := #[.int .i64 a0_0, .int .i64 a0_1, .int .i64 a0_2, .int .i64 a0_3, .int .i64 a0_4]) (t := 28) ?hr ?_; (case hd => rfl); (case hg => rfl); (case hr => first | (go_simp; done) | (go_simp; rfl)); intro gb102 hg w11 hbox hb; have n0_ := qgc (q9c (by repeat (first | (with_reducible first | exact HB.out | apply q1c | apply q2c | apply q3c) | exact HB.out)) hb); have n1_ := qgc (hbox); have n2_ := qgc ((by rw [hg]; exact (qac (by repeat (first | (with_reducible first | exact HB.out | apply q1c | apply q2c | apply q3c) | exact HB.out))) : w.heap.size ≤ gb102)); have n3_ := qgc ((by rw [hg]; exact (qac (by repeat (first | (with_reducible first | exact HB.out | apply q1c | apply q2c | apply q3c) | exact HB.out))) : w.heap.size ≤ gb102)); clear HB; have HB := n0_; have BK102 := n1_; have GW102 := n2_; have GE102 := n3_; clear n0_ n1_ n2_ n3_; clear hb hbox hg; have hcz12_0 : w11.cell? ⟨gb102, 0, none⟩ = some (.int .i64 a0_0) := (qcc BK102.out 0).trans rfl; have hcz12_1 : w11.cell? ⟨gb102, 1, none⟩ = some (.int .i64 a0_1) := (qcc BK102.out 1).trans rfl; have hcz12_2 : w11.cell? ⟨gb102, 2, none⟩ = some (.int .i64 a0_2) := (qcc BK102.out 2).trans rfl; have hcz12_3 : w11.cell? ⟨gb102, 3, none⟩ = some (.int .i64 a0_3) := (qcc BK102.out 3).trans rfl; have hcz12_4 : w11.cell? ⟨gb102, 4, none⟩ = some (.int .i64 a0_4) := (qcc BK102.out 4).trans rfl; have hfz12_0 := qbc BK102.out 0; have hfz12_1 := qbc BK102.out 1; have hfz12_2 := qbc BK102.out 2; have hfz12_3 := qbc BK102.out 3; have hfz12_4 := qbc BK102.out 4) | ((with_reducible refine qtc (f := 79) rfl ?_); refine goesL_ (some 6) rfl rfl Try.func79 (by kernel_rfl) rfl #[.int .i64 a0_0, .int .i64 (-1024), .int .i64 1024] rfl (by (try simp only [List.map_toArray, List.map_cons, List.map_nil]); first | done | rfl | (simp only [List.length_drop, List.length_take]; rfl)) ?_; (with_reducible refine (impl_isWithin.calls a0_0 (-1024) 1024 true _ A2.out).mono ?_); rintro e w' ⟨rfl, ⟨nd, rfl⟩⟩; refine ⟨_, rfl, ?_⟩) | (go_at_call 79; (with_reducible refine (impl_isWithin.calls a0_1 (-1024) 1024 true _ A4.out).mono ?_); rintro e w' ⟨rfl, ⟨nd, rfl⟩⟩) | (go_at_call 91; (with_reducible refine (impl_IsHeading.calls a0_2 true _ A6.out).mono ?_); rintro e w' ⟨rfl, ⟨nd, rfl⟩⟩) | (go_at_call 79; (with_reducible refine (impl_isWithin.calls a0_3 0 16 true _ A8.out).mono ?_); rintro e w' ⟨rfl, ⟨nd, rfl⟩⟩) | (go_at_call 79; (with_reducible refine (impl_isWithin.calls a0_4 1 32 t107 _ A10.out).mono ?_); rintro e w' ⟨rfl, ⟨nd, rfl⟩⟩))
     go_ret
     exact ⟨by first | rfl | (simp [errW_none, errW_some] <;> rfl) | (simp [*, errW_none, errW_some] <;> rfl), by repeat (first | (with_reducible first | exact HB.out | apply q1c | apply q2c | apply q3c | refine q4c ?_ GE102.out) | exact HB.out)⟩
    ·replace c9 := Bool.eq_false_iff.mpr c9
     subst c9
     have H1 : (some false) = some r := by rw [if_neg (show ¬ (false = true) by decide)] at H; exact H
     clear H
     have H := H1
     clear H1
     obtain rfl := Option.some.inj H
     go_enter Try.func54, Try.ntmps54
     go_wp2_with (first | ((with_reducible refine quc (N := 1) rfl ?_); refine qhc ?hg (N := 1) ?hd (cs := #[.int .i64 a0_0, .int .i64 a0_1, .int .i64 a0_2, .int .i64 a0_3, .int .i64 a0_4]) (t := 28) ?hr ?_; (case hd => rfl); (case hg => rfl); (case hr => first | (go_simp; done) | (go_simp; rfl)); intro gb102 hg w13 hbox hb; have n0_ := qgc (q9c (by repeat (first | (with_reducible first | exact HB.out | apply q1c | apply q2c | apply q3c) | exact HB.out)) hb); have n1_ := qgc (hbox); have n2_ := qgc ((by rw [hg]; exact (qac (by repeat (first | (with_reducible first | exact HB.out | apply q1c | apply q2c | apply q3c) | exact HB.out))) : w.heap.size ≤ gb102)); have n3_ := qgc ((by rw [hg]; exact (qac (by repeat (first | (with_reducible first | exact HB.out | apply q1c | apply q2c | apply q3c) | exact HB.out))) : w.heap.size ≤ gb102)); clear HB; have HB := n0_; have BK102 := n1_; have GW102 := n2_; have GE102 := n3_; clear n0_ n1_ n2_ n3_; clear hb hbox hg; have hcz14_0 : w13.cell? ⟨gb102, 0, none⟩ = some (.int .i64 a0_0) := (qcc BK102.out 0).trans rfl; have hcz14_1 : w13.cell? ⟨gb102, 1, none⟩ = some (.int .i64 a0_1) := (qcc BK102.out 1).trans rfl; have hcz14_2 : w13.cell? ⟨gb102, 2, none⟩ = some (.int .i64 a0_2) := (qcc BK102.out 2).trans rfl; have hcz14_3 : w13.cell? ⟨gb102, 3, none⟩ = some (.int .i64 a0_3) := (qcc BK102.out 3).trans rfl; have hcz14_4 : w13.cell? ⟨gb102, 4, none⟩ = some (.int .i64 a0_4) := (qcc BK102.out 4).trans rfl; have hfz14_0 := qbc BK102.out 0; have hfz14_1 := qbc BK102.out 1; have hfz14_2 := qbc BK102.out 2; have hfz14_3 := qbc BK102.out 3; have hfz14_4 := qbc BK102.out 4) | ((with_reducible refine qtc (f := 79) rfl ?_); refine goesL_ (some 6) rfl rfl Try.func79 (by kernel_rfl) rfl #[.int .i64 a0_0, .int .i64 (-1024), .int .i64 1024] rfl (by (try simp only [List.map_toArray, List.map_cons, List.map_nil]); first | done | rfl | (simp only [List.length_drop, List.length_take]; rfl)) ?_; (with_reducible refine (impl_isWithin.calls a0_0 (-1024) 1024 true _ A2.out).mono ?_); rintro e w' ⟨rfl, ⟨nd, rfl⟩⟩; refine ⟨_, rfl, ?_⟩) | (go_at_call 79; (with_reducible refine (impl_isWithin.calls a0_1 (-1024) 1024 true _ A4.out).mono ?_); rintro e w' ⟨rfl, ⟨nd, rfl⟩⟩) | (go_at_call 91; (with_reducible refine (impl_IsHeading.calls a0_2 true _ A6.out).mono ?_); rintro e w' ⟨rfl, ⟨nd, rfl⟩⟩) | (go_at_call 79; (with_reducible refine (impl_isWithin.calls a0_3 0 16 false _ A8.out).mono ?_); rintro e w' ⟨rfl, ⟨nd, rfl⟩⟩))
     go_ret
     exact ⟨by first | rfl | (simp [errW_none, errW_some] <;> rfl) | (simp [*, errW_none, errW_some] <;> rfl), by repeat (first | (with_reducible first | exact HB.out | apply q1c | apply q2c | apply q3c | refine q4c ?_ GE102.out) | exact HB.out)⟩
   ·replace c7 := Bool.eq_false_iff.mpr c7
    subst c7
    have H1 : (some false) = some r := by rw [if_neg (show ¬ (false = true) by decide)] at H; exact H
    clear H
    have H := H1
    clear H1
    obtain rfl := Option.some.inj H
    go_enter Try.func54, Try.ntmps54
    go_wp2_with (first | ((with_reducible refine quc (N := 1) rfl ?_); refine qhc ?hg (N := 1) ?hd (cs := #[.int .i64 a0_0, .int .i64 a0_1, .int .i64 a0_2, .int .i64 a0_3, .int .i64 a0_4]) (t := 28) ?hr ?_; (case hd => rfl); (case hg => rfl); (case hr => first | (go_simp; done) | (go_simp; rfl)); intro gb102 hg w15 hbox hb; have n0_ := qgc (q9c (by repeat (first | (with_reducible first | exact HB.out | apply q1c | apply q2c | apply q3c) | exact HB.out)) hb); have n1_ := qgc (hbox); have n2_ := qgc ((by rw [hg]; exact (qac (by repeat (first | (with_reducible first | exact HB.out | apply q1c | apply q2c | apply q3c) | exact HB.out))) : w.heap.size ≤ gb102)); have n3_ := qgc ((by rw [hg]; exact (qac (by repeat (first | (with_reducible first | exact HB.out | apply q1c | apply q2c | apply q3c) | exact HB.out))) : w.heap.size ≤ gb102)); clear HB; have HB := n0_; have BK102 := n1_; have GW102 := n2_; have GE102 := n3_; clear n0_ n1_ n2_ n3_; clear hb hbox hg; have hcz16_0 : w15.cell? ⟨gb102, 0, none⟩ = some (.int .i64 a0_0) := (qcc BK102.out 0).trans rfl; have hcz16_1 : w15.cell? ⟨gb102, 1, none⟩ = some (.int .i64 a0_1) := (qcc BK102.out 1).trans rfl; have hcz16_2 : w15.cell? ⟨gb102, 2, none⟩ = some (.int .i64 a0_2) := (qcc BK102.out 2).trans rfl; have hcz16_3 : w15.cell? ⟨gb102, 3, none⟩ = some (.int .i64 a0_3) := (qcc BK102.out 3).trans rfl; have hcz16_4 : w15.cell? ⟨gb102, 4, none⟩ = some (.int .i64 a0_4) := (qcc BK102.out 4).trans rfl; have hfz16_0 := qbc BK102.out 0; have hfz16_1 := qbc BK102.out 1; have hfz16_2 := qbc BK102.out 2; have hfz16_3 := qbc BK102.out 3; have hfz16_4 := qbc BK102.out 4) | ((with_reducible refine qtc (f := 79) rfl ?_); refine goesL_ (some 6) rfl rfl Try.func79 (by kernel_rfl) rfl #[.int .i64 a0_0, .int .i64 (-1024), .int .i64 1024] rfl (by (try simp only [List.map_toArray, List.map_cons, List.map_nil]); first | done | rfl | (simp only [List.length_drop, List.length_take]; rfl)) ?_; (with_reducible refine (impl_isWithin.calls a0_0 (-1024) 1024 true _ A2.out).mono ?_); rintro e w' ⟨rfl, ⟨nd, rfl⟩⟩; refine ⟨_, rfl, ?_⟩) | (go_at_call 79; (with_reducible refine (impl_isWithin.calls a0_1 (-1024) 1024 true _ A4.out).mono ?_); rintro e w' ⟨rfl, ⟨nd, rfl⟩⟩) | (go_at_call 91; (with_reducible refine (impl_IsHeading.calls a0_2 false _ A6.out).mono ?_); rintro e w' ⟨rfl, ⟨nd, rfl⟩⟩))
    go_ret
    exact ⟨by first | rfl | (simp [errW_none, errW_some] <;> rfl) | (simp [*, errW_none, errW_some] <;> rfl), by repeat (first | (with_reducible first | exact HB.out | apply q1c | apply q2c | apply q3c | refine q4c ?_ GE102.out) | exact HB.out)⟩
  ·replace c5 := Bool.eq_false_iff.mpr c5
   subst c5
   have H1 : (some false) = some r := by rw [if_neg (show ¬ (false = true) by decide)] at H; exact H
   clear H
   have H := H1
   clear H1
   obtain rfl := Option.some.inj H
   go_enter Try.func54, Try.ntmps54
   go_wp2_with (first | ((with_reducible refine quc (N := 1) rfl ?_); refine qhc ?hg (N := 1) ?hd (cs := #[.int .i64 a0_0, .int .i64 a0_1, .int .i64 a0_2, .int .i64 a0_3, .int .i64 a0_4]) (t := 28) ?hr ?_; (case hd => rfl); (case hg => rfl); (case hr => first | (go_simp; done) | (go_simp; rfl)); intro gb102 hg w17 hbox hb; have n0_ := qgc (q9c (by repeat (first | (with_reducible first | exact HB.out | apply q1c | apply q2c | apply q3c) | exact HB.out)) hb); have n1_ := qgc (hbox); have n2_ := qgc ((by rw [hg]; exact (qac (by repeat (first | (with_reducible first | exact HB.out | apply q1c | apply q2c | apply q3c) | exact HB.out))) : w.heap.size ≤ gb102)); have n3_ := qgc ((by rw [hg]; exact (qac (by repeat (first | (with_reducible first | exact HB.out | apply q1c | apply q2c | apply q3c) | exact HB.out))) : w.heap.size ≤ gb102)); clear HB; have HB := n0_; have BK102 := n1_; have GW102 := n2_; have GE102 := n3_; clear n0_ n1_ n2_ n3_; clear hb hbox hg; have hcz18_0 : w17.cell? ⟨gb102, 0, none⟩ = some (.int .i64 a0_0) := (qcc BK102.out 0).trans rfl; have hcz18_1 : w17.cell? ⟨gb102, 1, none⟩ = some (.int .i64 a0_1) := (qcc BK102.out 1).trans rfl; have hcz18_2 : w17.cell? ⟨gb102, 2, none⟩ = some (.int .i64 a0_2) := (qcc BK102.out 2).trans rfl; have hcz18_3 : w17.cell? ⟨gb102, 3, none⟩ = some (.int .i64 a0_3) := (qcc BK102.out 3).trans rfl; have hcz18_4 : w17.cell? ⟨gb102, 4, none⟩ = some (.int .i64 a0_4) := (qcc BK102.out 4).trans rfl; have hfz18_0 := qbc BK102.out 0; have hfz18_1 := qbc BK102.out 1; have hfz18_2 := qbc BK102.out 2; have hfz18_3 := qbc BK102.out 3; have hfz18_4 := qbc BK102.out 4) | ((with_reducible refine qtc (f := 79) rfl ?_); refine goesL_ (some 6) rfl rfl Try.func79 (by kernel_rfl) rfl #[.int .i64 a0_0, .int .i64 (-1024), .int .i64 1024] rfl (by (try simp only [List.map_toArray, List.map_cons, List.map_nil]); first | done | rfl | (simp only [List.length_drop, List.length_take]; rfl)) ?_; (with_reducible refine (impl_isWithin.calls a0_0 (-1024) 1024 true _ A2.out).mono ?_); rintro e w' ⟨rfl, ⟨nd, rfl⟩⟩; refine ⟨_, rfl, ?_⟩) | (go_at_call 79; (with_reducible refine (impl_isWithin.calls a0_1 (-1024) 1024 false _ A4.out).mono ?_); rintro e w' ⟨rfl, ⟨nd, rfl⟩⟩))
   go_ret
   exact ⟨by first | rfl | (simp [errW_none, errW_some] <;> rfl) | (simp [*, errW_none, errW_some] <;> rfl), by repeat (first | (with_reducible first | exact HB.out | apply q1c | apply q2c | apply q3c | refine q4c ?_ GE102.out) | exact HB.out)⟩
 ·replace c3 := Bool.eq_false_iff.mpr c3
  subst c3
  have H1 : (some false) = some r := by rw [if_neg (show ¬ (false = true) by decide)] at H; exact H
  clear H
  have H := H1
  clear H1
  obtain rfl := Option.some.inj H
  go_enter Try.func54, Try.ntmps54
  go_wp2_with (first | ((with_reducible refine quc (N := 1) rfl ?_); refine qhc ?hg (N := 1) ?hd (cs := #[.int .i64 a0_0, .int .i64 a0_1, .int .i64 a0_2, .int .i64 a0_3, .int .i64 a0_4]) (t := 28) ?hr ?_; (case hd => rfl); (case hg => rfl); (case hr => first | (go_simp; done) | (go_simp; rfl)); intro gb102 hg w19 hbox hb; have n0_ := qgc (q9c (by repeat (first | (with_reducible first | exact HB.out | apply q1c | apply q2c | apply q3c) | exact HB.out)) hb); have n1_ := qgc (hbox); have n2_ := qgc ((by rw [hg]; exact (qac (by repeat (first | (with_reducible first | exact HB.out | apply q1c | apply q2c | apply q3c) | exact HB.out))) : w.heap.size ≤ gb102)); have n3_ := qgc ((by rw [hg]; exact (qac (by repeat (first | (with_reducible first | exact HB.out | apply q1c | apply q2c | apply q3c) | exact HB.out))) : w.heap.size ≤ gb102)); clear HB; have HB := n0_; have BK102 := n1_; have GW102 := n2_; have GE102 := n3_; clear n0_ n1_ n2_ n3_; clear hb hbox hg; have hcz20_0 : w19.cell? ⟨gb102, 0, none⟩ = some (.int .i64 a0_0) := (qcc BK102.out 0).trans rfl; have hcz20_1 : w19.cell? ⟨gb102, 1, none⟩ = some (.int .i64 a0_1) := (qcc BK102.out 1).trans rfl; have hcz20_2 : w19.cell? ⟨gb102, 2, none⟩ = some (.int .i64 a0_2) := (qcc BK102.out 2).trans rfl; have hcz20_3 : w19.cell? ⟨gb102, 3, none⟩ = some (.int .i64 a0_3) := (qcc BK102.out 3).trans rfl; have hcz20_4 : w19.cell? ⟨gb102, 4, none⟩ = some (.int .i64 a0_4) := (qcc BK102.out 4).trans rfl; have hfz20_0 := qbc BK102.out 0; have hfz20_1 := qbc BK102.out 1; have hfz20_2 := qbc BK102.out 2; have hfz20_3 := qbc BK102.out 3; have hfz20_4 := qbc BK102.out 4) | ((with_reducible refine qtc (f := 79) rfl ?_); refine goesL_ (some 6) rfl rfl Try.func79 (by kernel_rfl) rfl #[.int .i64 a0_0, .int .i64 (-1024), .int .i64 1024] rfl (by (try simp only [List.map_toArray, List.map_cons, List.map_nil]); first | done | rfl | (simp only [List.length_drop, List.length_take]; rfl)) ?_; (with_reducible refine (impl_isWithin.calls a0_0 (-1024) 1024 false _ A2.out).mono ?_); rintro e w' ⟨rfl, ⟨nd, rfl⟩⟩; refine ⟨_, rfl, ?_⟩))
  go_ret
  exact ⟨by first | rfl | (simp [errW_none, errW_some] <;> rfl) | (simp [*, errW_none, errW_some] <;> rfl), by repeat (first | (with_reducible first | exact HB.out | apply q1c | apply q2c | apply q3c | refine q4c ?_ GE102.out) | exact HB.out)⟩
/-! ### impl_FlightOf: function 56 -/
def impl_FlightOf.f (a0_0 : Int) (a0_1 : Int) (a0_2 : Int) (a0_3 : Int) (a0_4 : Int) : Option (Int) := (impl_IsJet.f a0_0 a0_1 a0_2 a0_3 a0_4).bind fun t109 => (if t109 = true then (some (wrap64 (a0_4 + 1))) else (some 0))
set_option maxHeartbeats 8000000 in
set_option maxRecDepth 100000 in
theorem impl_FlightOf.calls (a0_0 : Int) (a0_1 : Int) (a0_2 : Int) (a0_3 : Int) (a0_4 : Int) (r : Int) (w : World) (h : impl_FlightOf.f a0_0 a0_1 a0_2 a0_3 a0_4 = some r) :
 Calls Try.prog 56 #[.agg #[.int .i64 a0_0, .int .i64 a0_1, .int .i64 a0_2, .int .i64 a0_3, .int .i64 a0_4]] w fun e w' => e = .returned (.int .i64 r) ∧ Below w.heap.size w w' := by
 have hu28 := Try.underlying28
 have HB := qgc (Below.refl w.heap.size w)
 have H : ((impl_IsJet.f a0_0 a0_1 a0_2 a0_3 a0_4).bind fun t109 => (if t109 = true then (some (wrap64 (a0_4 + 1))) else (some 0))) = some r := h
 clear h
 replace H := Option.bind_eq_some_iff.mp H
 obtain ⟨t109, A20, H⟩ := H
 replace H : (if t109 = true then (some (wrap64 (a0_4 + 1))) else (some 0)) = some r := H
 have A2 := qgc A20
 clear A20
 by_cases c3 : t109 = true
 ·subst c3
  have H1 : (some (wrap64 (a0_4 + 1))) = some r := by rw [if_pos rfl] at H; exact H
  clear H
  have H := H1
  clear H1
  obtain rfl := Option.some.inj H
  go_enter Try.func56, Try.ntmps56
  go_wp2_with (first | ((with_reducible refine quc (N := 1) rfl ?_); refine qhc ?hg (N := 1) ?hd (cs := #[.int .i64 a0_0, .int .i64 a0_1, .int .i64 a0_2, .int .i64 a0_3, .int .i64 a0_4]) (t := 28) ?hr ?_; (case hd => rfl); (case hg => rfl); (case hr => first | (go_simp; done) | (go_simp; rfl)); intro gb108 hg w4 hbox hb; have n0_ := qgc (q9c (by repeat (first | (with_reducible first | exact HB.out | apply q1c | apply q2c | apply q3c) | exact HB.out)) hb); have n1_ := qgc (hbox); have n2_ := qgc ((by rw [hg]; exact (qac (by repeat (first | (with_reducible first | exact HB.out | apply q1c | apply q2c | apply q3c) | exact HB.out))) : w.heap.size ≤ gb108)); have n3_ := qgc ((by rw [hg]; exact (qac (by repeat (first | (with_reducible first | exact HB.out | apply q1c | apply q2c | apply q3c) | exact HB.out))) : w.heap.size ≤ gb108)); clear HB; have HB := n0_; have BK108 := n1_; have GW108 := n2_; have GE108 := n3_; clear n0_ n1_ n2_ n3_; clear hb hbox hg; have hcz5_0 : w4.cell? ⟨gb108, 0, none⟩ = some (.int .i64 a0_0) := (qcc BK108.out 0).trans rfl; have hcz5_1 : w4.cell? ⟨gb108, 1, none⟩ = some (.int .i64 a0_1) := (qcc BK108.out 1).trans rfl; have hcz5_2 : w4.cell? ⟨gb108, 2, none⟩ = some (.int .i64 a0_2) := (qcc BK108.out 2).trans rfl; have hcz5_3 : w4.cell? ⟨gb108, 3, none⟩ = some (.int .i64 a0_3) := (qcc BK108.out 3).trans rfl; have hcz5_4 : w4.cell? ⟨gb108, 4, none⟩ = some (.int .i64 a0_4) := (qcc BK108.out 4).trans rfl; have hfz5_0 := qbc BK108.out 0; have hfz5_1 := qbc BK108.out 1; have hfz5_2 := qbc BK108.out 2; have hfz5_3 := qbc BK108.out 3; have hfz5_4 := qbc BK108.out 4) | ((with_reducible refine qtc (f := 54) rfl ?_); refine goesL_ (some 4) rfl rfl Try.func54 (by kernel_rfl) rfl #[.agg #[.int .i64 a0_0, .int .i64 a0_1, .int .i64 a0_2, .int .i64 a0_3, .int .i64 a0_4]] rfl (by (try simp only [List.map_toArray, List.map_cons, List.map_nil]); first | done | rfl | (simp only [List.length_drop, List.length_take]; rfl)) ?_; (with_reducible refine (impl_IsJet.calls a0_0 a0_1 a0_2 a0_3 a0_4 true _ A2.out).mono ?_); rintro e w6 ⟨rfl, hb⟩; refine ⟨_, rfl, ?_⟩; have n0_ := qgc (q8c (g := gb108) (o := .cells #[.int .i64 a0_0, .int .i64 a0_1, .int .i64 a0_2, .int .i64 a0_3, .int .i64 a0_4] 28 (0, 0)) (by (with_reducible repeat (first | refine q5c ?_ _ | refine q6c ?_ | refine q7c ?_ _)); exact BK108.out) hb); have n1_ := qgc (q9c (by repeat (first | (with_reducible first | exact HB.out | apply q1c | apply q2c | apply q3c | refine q4c ?_ GE108.out) | exact HB.out)) hb); clear BK108; clear HB; have BK108 := n0_; have HB := n1_; clear n0_ n1_; (try clear hb); (try clear hb2); (try clear hk); (try clear hi); have hcz7_0 : w6.cell? ⟨gb108, 0, none⟩ = some (.int .i64 a0_0) := (qcc BK108.out 0).trans rfl; have hcz7_1 : w6.cell? ⟨gb108, 1, none⟩ = some (.int .i64 a0_1) := (qcc BK108.out 1).trans rfl; have hcz7_2 : w6.cell? ⟨gb108, 2, none⟩ = some (.int .i64 a0_2) := (qcc BK108.out 2).trans rfl; have hcz7_3 : w6.cell? ⟨gb108, 3, none⟩ = some (.int .i64 a0_3) := (qcc BK108.out 3).trans rfl; have hcz7_4 : w6.cell? ⟨gb108, 4, none⟩ = some (.int .i64 a0_4) := (qcc BK108.out 4).trans rfl; have hfz7_0 := qbc BK108.out 0; have hfz7_1 := qbc BK108.out 1; have hfz7_2 := qbc BK108.out 2; have hfz7_3 := qbc BK108.out 3; have hfz7_4 := qbc BK108.out 4))
  go_ret
  exact ⟨by first | rfl | (simp [errW_none, errW_some] <;> rfl) | (simp [*, errW_none, errW_some] <;> rfl), by repeat (first | (with_reducible first | exact HB.out | apply q1c | apply q2c | apply q3c | refine q4c ?_ GE108.out) | exact HB.out)⟩
 ·replace c3 := Bool.eq_false_iff.mpr c3
  subst c3
  have H1 : (some 0) = some r := by rw [if_neg (show ¬ (false = true) by decide)] at H; exact H
  clear H
  have H := H1
  clear H1
  obtain rfl := Option.some.inj H
  go_enter Try.func56, Try.ntmps56
  go_wp2_with (first | ((with_reducible refine quc (N := 1) rfl ?_); refine qhc ?hg (N := 1) ?hd (cs := #[.int .i64 a0_0, .int .i64 a0_1, .int .i64 a0_2, .int .i64 a0_3, .int .i64 a0_4]) (t := 28) ?hr ?_; (case hd => rfl); (case hg => rfl); (case hr => first | (go_simp; done) | (go_simp; rfl)); intro gb108 hg w8 hbox hb; have n0_ := qgc (q9c (by repeat (first | (with_reducible first | exact HB.out | apply q1c | apply q2c | apply q3c) | exact HB.out)) hb); have n1_ := qgc (hbox); have n2_ := qgc ((by rw [hg]; exact (qac (by repeat (first | (with_reducible first | exact HB.out | apply q1c | apply q2c | apply q3c) | exact HB.out))) : w.heap.size ≤ gb108)); have n3_ := qgc ((by rw [hg]; exact (qac (by repeat (first | (with_reducible first | exact HB.out | apply q1c | apply q2c | apply q3c) | exact HB.out))) : w.heap.size ≤ gb108)); clear HB; have HB := n0_; have BK108 := n1_; have GW108 := n2_; have GE108 := n3_; clear n0_ n1_ n2_ n3_; clear hb hbox hg; have hcz9_0 : w8.cell? ⟨gb108, 0, none⟩ = some (.int .i64 a0_0) := (qcc BK108.out 0).trans rfl; have hcz9_1 : w8.cell? ⟨gb108, 1, none⟩ = some (.int .i64 a0_1) := (qcc BK108.out 1).trans rfl; have hcz9_2 : w8.cell? ⟨gb108, 2, none⟩ = some (.int .i64 a0_2) := (qcc BK108.out 2).trans rfl; have hcz9_3 : w8.cell? ⟨gb108, 3, none⟩ = some (.int .i64 a0_3) := (qcc BK108.out 3).trans rfl; have hcz9_4 : w8.cell? ⟨gb108, 4, none⟩ = some (.int .i64 a0_4) := (qcc BK108.out 4).trans rfl; have hfz9_0 := qbc BK108.out 0; have hfz9_1 := qbc BK108.out 1; have hfz9_2 := qbc BK108.out 2; have hfz9_3 := qbc BK108.out 3; have hfz9_4 := qbc BK108.out 4) | ((with_reducible refine qtc (f := 54) rfl ?_); refine goesL_ (some 4) rfl rfl Try.func54 (by kernel_rfl) rfl #[.agg #[.int .i64 a0_0, .int .i64 a0_1, .int .i64 a0_2, .int .i64 a0_3, .int .i64 a0_4]] rfl (by (try simp only [List.map_toArray, List.map_cons, List.map_nil]); first | done | rfl | (simp only [List.length_drop, List.length_take]; rfl)) ?_; (with_reducible refine (impl_IsJet.calls a0_0 a0_1 a0_2 a0_3 a0_4 false _ A2.out).mono ?_); rintro e w10 ⟨rfl, hb⟩; refine ⟨_, rfl, ?_⟩; have n0_ := qgc (q8c (g := gb108) (o := .cells #[.int .i64 a0_0, .int .i64 a0_1, .int .i64 a0_2, .int .i64 a0_3, .int .i64 a0_4] 28 (0, 0)) (by (with_reducible repeat (first | refine q5c ?_ _ | refine q6c ?_ | refine q7c ?_ _)); exact BK108.out) hb); have n1_ := qgc (q9c (by repeat (first | (with_reducible first | exact HB.out | apply q1c | apply q2c | apply q3c | refine q4c ?_ GE108.out) | exact HB.out)) hb); clear BK108; clear HB; have BK108 := n0_; have HB := n1_; clear n0_ n1_; (try clear hb); (try clear hb2); (try clear hk); (try clear hi)))
  go_ret
  exact ⟨by first | rfl | (simp [errW_none, errW_some] <;> rfl) | (simp [*, errW_none, errW_some] <;> rfl), by repeat (first | (with_reducible first | exact HB.out | apply q1c | apply q2c | apply q3c | refine q4c ?_ GE108.out) | exact HB.out)⟩
/-! ### impl_isInAir: function 72 -/
def impl_isInAir.f (a0_0 : Int) (a0_1 : Int) (a0_2 : Int) (a0_3 : Int) (a0_4 : Int) (a1 : Int) : Option (Bool) := (impl_IsJet.f a0_0 a0_1 a0_2 a0_3 a0_4).bind fun t111 => (if t111 = true then ((impl_FlightOf.f a0_0 a0_1 a0_2 a0_3 a0_4).bind fun t112 => ((impl_isWithin.f a1 0 t112).bind fun t113 => (some t113))) else (some false))
set_option maxHeartbeats 8000000 in
set_option maxRecDepth 100000 in
theorem impl_isInAir.calls (a0_0 : Int) (a0_1 : Int) (a0_2 : Int) (a0_3 : Int) (a0_4 : Int) (a1 : Int) (r : Bool) (w : World) (h : impl_isInAir.f a0_0 a0_1 a0_2 a0_3 a0_4 a1 = some r) :
 Calls Try.prog 72 #[.agg #[.int .i64 a0_0, .int .i64 a0_1, .int .i64 a0_2, .int .i64 a0_3, .int .i64 a0_4], .int .i64 a1] w fun e w' => e = .returned (.bool r) ∧ Below w.heap.size w w' := by
 have hu28 := Try.underlying28
 have HB := qgc (Below.refl w.heap.size w)
 have H : ((impl_IsJet.f a0_0 a0_1 a0_2 a0_3 a0_4).bind fun t111 => (if t111 = true then ((impl_FlightOf.f a0_0 a0_1 a0_2 a0_3 a0_4).bind fun t112 => ((impl_isWithin.f a1 0 t112).bind fun t113 => (some t113))) else (some false))) = some r := h
 clear h
 replace H := Option.bind_eq_some_iff.mp H
 obtain ⟨t111, A30, H⟩ := H
 replace H : (if t111 = true then ((impl_FlightOf.f a0_0 a0_1 a0_2 a0_3 a0_4).bind fun t112 => ((impl_isWithin.f a1 0 t112).bind fun t113 => (some t113))) else (some false)) = some r := H
 have A3 := qgc A30
 clear A30
 by_cases c4 : t111 = true
 ·subst c4
  have H1 : ((impl_FlightOf.f a0_0 a0_1 a0_2 a0_3 a0_4).bind fun t112 => ((impl_isWithin.f a1 0 t112).bind fun t113 => (some t113))) = some r := by rw [if_pos rfl] at H; exact H
  clear H
  have H := H1
  clear H1
  replace H := Option.bind_eq_some_iff.mp H
  obtain ⟨t112, A50, H⟩ := H
  replace H : ((impl_isWithin.f a1 0 t112).bind fun t113 => (some t113)) = some r := H
  have A5 := qgc A50
  clear A50
  replace H := Option.bind_eq_some_iff.mp H
  obtain ⟨t113, A60, H⟩ := H
  replace H : (some t113) = some r := H
  have A6 := qgc A60
  clear A60
  obtain rfl := Option.some.inj H
  go_enter Try.func72, Try.ntmps72
  go_wp2_with (first | ((with_reducible refine quc (N := 2) rfl ?_); refine qhc ?hg (N := 2) ?hd (cs := #[.int .i64 a0_0, .int .i64 a0_1, .int .i64 a0_2, .int .i64 a0_3, .int .i64 a0_4]) (t := 28) ?hr ?_; (case hd => rfl); (case hg => rfl); (case hr => first | (go_simp; done) | (go_simp; rfl)); intro gb110 hg w7 hbox hb; have n0_ := qgc (q9c (by repeat (first | (with_reducible first | exact HB.out | apply q1c | apply q2c | apply q3c) | exact HB.out)) hb); have n1_ := qgc (hbox); have n2_ := qgc ((by rw [hg]; exact (qac (by repeat (first | (with_reducible first | exact HB.out | apply q1c | apply q2c | apply q3c) | exact HB.out))) : w.heap.size ≤ gb110)); have n3_ := qgc ((by rw [hg]; exact (qac (by repeat (first | (with_reducible first | exact HB.out | apply q1c | apply q2c | apply q3c) | exact HB.out))) : w.heap.size ≤ gb110)); clear HB; have HB := n0_; have BK110 := n1_; have GW110 := n2_; have GE110 := n3_; clear n0_ n1_ n2_ n3_; clear hb hbox hg; have hcz8_0 : w7.cell? ⟨gb110, 0, none⟩ = some (.int .i64 a0_0) := (qcc BK110.out 0).trans rfl; have hcz8_1 : w7.cell? ⟨gb110, 1, none⟩ = some (.int .i64 a0_1) := (qcc BK110.out 1).trans rfl; have hcz8_2 : w7.cell? ⟨gb110, 2, none⟩ = some (.int .i64 a0_2) := (qcc BK110.out 2).trans rfl; have hcz8_3 : w7.cell? ⟨gb110, 3, none⟩ = some (.int .i64 a0_3) := (qcc BK110.out 3).trans rfl; have hcz8_4 : w7.cell? ⟨gb110, 4, none⟩ = some (.int .i64 a0_4) := (qcc BK110.out 4).trans rfl; have hfz8_0 := qbc BK110.out 0; have hfz8_1 := qbc BK110.out 1; have hfz8_2 := qbc BK110.out 2; have hfz8_3 := qbc BK110.out 3; have hfz8_4 := qbc BK110.out 4) | ((with_reducible refine qtc (f := 54) rfl ?_); refine goesL_ (some 6) rfl rfl Try.func54 (by kernel_rfl) rfl #[.agg #[.int .i64 a0_0, .int .i64 a0_1, .int .i64 a0_2, .int .i64 a0_3, .int .i64 a0_4]] rfl (by (try simp only [List.map_toArray, List.map_cons, List.map_nil]); first | done | rfl | (simp only [List.length_drop, List.length_take]; rfl)) ?_; (with_reducible refine (impl_IsJet.calls a0_0 a0_1 a0_2 a0_3 a0_4 true _ A3.out).mono ?_); rintro e w9 ⟨rfl, hb⟩; refine ⟨_, rfl, ?_⟩; have n0_ := qgc (q8c (g := gb110) (o := .cells #[.int .i64 a0_0, .int .i64 a0_1, .int .i64 a0_2, .int .i64 a0_3, .int .i64 a0_4] 28 (0, 0)) (by (with_reducible repeat (first | refine q5c ?_ _ | refine q6c ?_ | refine q7c ?_ _)); exact BK110.out) hb); have n1_ := qgc (q9c (by repeat (first | (with_reducible first | exact HB.out | apply q1c | apply q2c | apply q3c | refine q4c ?_ GE110.out) | exact HB.out)) hb); clear BK110; clear HB; have BK110 := n0_; have HB := n1_; clear n0_ n1_; (try clear hb); (try clear hb2); (try clear hk); (try clear hi); have hcz10_0 : w9.cell? ⟨gb110, 0, none⟩ = some (.int .i64 a0_0) := (qcc BK110.out 0).trans rfl; have hcz10_1 : w9.cell? ⟨gb110, 1, none⟩ = some (.int .i64 a0_1) := (qcc BK110.out 1).trans rfl; have hcz10_2 : w9.cell? ⟨gb110, 2, none⟩ = some (.int .i64 a0_2) := (qcc BK110.out 2).trans rfl; have hcz10_3 : w9.cell? ⟨gb110, 3, none⟩ = some (.int .i64 a0_3) := (qcc BK110.out 3).trans rfl; have hcz10_4 : w9.cell? ⟨gb110, 4, none⟩ = some (.int .i64 a0_4) := (qcc BK110.out 4).trans rfl; have hfz10_0 := qbc BK110.out 0; have hfz10_1 := qbc BK110.out 1; have hfz10_2 := qbc BK110.out 2; have hfz10_3 := qbc BK110.out 3; have hfz10_4 := qbc BK110.out 4) | (go_at_call 56; (with_reducible refine (impl_FlightOf.calls a0_0 a0_1 a0_2 a0_3 a0_4 t112 _ A5.out).mono ?_); rintro e w11 ⟨rfl, hb⟩; have n0_ := qgc (q8c (g := gb110) (o := .cells #[.int .i64 a0_0, .int .i64 a0_1, .int .i64 a0_2, .int .i64 a0_3, .int .i64 a0_4] 28 (0, 0)) (by (with_reducible repeat (first | refine q5c ?_ _ | refine q6c ?_ | refine q7c ?_ _)); exact BK110.out) hb); have n1_ := qgc (q9c (by repeat (first | (with_reducible first | exact HB.out | apply q1c | apply q2c | apply q3c | refine q4c ?_ GE110.out) | exact HB.out)) hb); clear BK110; clear HB; have BK110 := n0_; have HB := n1_; clear n0_ n1_; (try clear hb); (try clear hb2); (try clear hk); (try clear hi)) | (go_at_call 79; (with_reducible refine (impl_isWithin.calls a1 0 t112 t113 _ A6.out).mono ?_); rintro e w' ⟨rfl, ⟨nd, rfl⟩⟩))
  go_ret
  exact ⟨by first | rfl | (simp [errW_none, errW_some] <;> rfl) | (simp [*, errW_none, errW_some] <;> rfl), by repeat (first | (with_reducible first | exact HB.out | apply q1c | apply q2c | apply q3c | refine q4c ?_ GE110.out) | exact HB.out)⟩
 ·replace c4 := Bool.eq_false_iff.mpr c4
  subst c4
  have H1 : (some false) = some r := by rw [if_neg (show ¬ (false = true) by decide)] at H; exact H
  clear H
  have H := H1
  clear H1
  obtain rfl := Option.some.inj H
  go_enter Try.func72, Try.ntmps72
  go_wp2_with (first | ((with_reducible refine quc (N := 2) rfl ?_); refine qhc ?hg (N := 2) ?hd (cs := #[.int .i64 a0_0, .int .i64 a0_1, .int .i64 a0_2, .int .i64 a0_3, .int .i64 a0_4]) (t := 28) ?hr ?_; (case hd => rfl); (case hg => rfl); (case hr => first | (go_simp; done) | (go_simp; rfl)); intro gb110 hg w12 hbox hb; have n0_ := qgc (q9c (by repeat (first | (with_reducible first | exact HB.out | apply q1c | apply q2c | apply q3c) | exact HB.out)) hb); have n1_ := qgc (hbox); have n2_ := qgc ((by rw [hg]; exact (qac (by repeat (first | (with_reducible first | exact HB.out | apply q1c | apply q2c | apply q3c) | exact HB.out))) : w.heap.size ≤ gb110)); have n3_ := qgc ((by rw [hg]; exact (qac (by repeat (first | (with_reducible first | exact HB.out | apply q1c | apply q2c | apply q3c) | exact HB.out))) : w.heap.size ≤ gb110)); clear HB; have HB := n0_; have BK110 := n1_; have GW110 := n2_; have GE110 := n3_; clear n0_ n1_ n2_ n3_; clear hb hbox hg; have hcz13_0 : w12.cell? ⟨gb110, 0, none⟩ = some (.int .i64 a0_0) := (qcc BK110.out 0).trans rfl; have hcz13_1 : w12.cell? ⟨gb110, 1, none⟩ = some (.int .i64 a0_1) := (qcc BK110.out 1).trans rfl; have hcz13_2 : w12.cell? ⟨gb110, 2, none⟩ = some (.int .i64 a0_2) := (qcc BK110.out 2).trans rfl; have hcz13_3 : w12.cell? ⟨gb110, 3, none⟩ = some (.int .i64 a0_3) := (qcc BK110.out 3).trans rfl; have hcz13_4 : w12.cell? ⟨gb110, 4, none⟩ = some (.int .i64 a0_4) := (qcc BK110.out 4).trans rfl; have hfz13_0 := qbc BK110.out 0; have hfz13_1 := qbc BK110.out 1; have hfz13_2 := qbc BK110.out 2; have hfz13_3 := qbc BK110.out 3; have hfz13_4 := qbc BK110.out 4) | ((with_reducible refine qtc (f := 54) rfl ?_); refine goesL_ (some 6) rfl rfl Try.func54 (by kernel_rfl) rfl #[.agg #[.int .i64 a0_0, .int .i64 a0_1, .int .i64 a0_2, .int .i64 a0_3, .int .i64 a0_4]] rfl (by (try simp only [List.map_toArray, List.map_cons, List.map_nil]); first | done | rfl | (simp only [List.length_drop, List.length_take]; rfl)) ?_; (with_reducible refine (impl_IsJet.calls a0_0 a0_1 a0_2 a0_3 a0_4 false _ A3.out).mono ?_); rintro e w14 ⟨rfl, hb⟩; refine ⟨_, rfl, ?_⟩; have n0_ := qgc (q8c (g := gb110) (o := .cells #[.int .i64 a0_0, .int .i64 a0_1, .int .i64 a0_2, .int .i64 a0_3, .int .i64 a0_4] 28 (0, 0)) (by (with_reducible repeat (first | refine q5c ?_ _ | refine q6c ?_ | refine q7c ?_ _)); exact BK110.out) hb); have n1_ := qgc (q9c (by repeat (first | (with_reducible first | exact HB.out | apply q1c | apply q2c | apply q3c | refine q4c ?_ GE110.out) | exact HB.out)) hb); clear BK110; clear HB; have BK110 := n0_; have HB := n1_; clear n0_ n1_; (try clear hb); (try clear hb2); (try clear hk); (try clear hi)))
  go_ret
  exact ⟨by first | rfl | (simp [errW_none, errW_some] <;> rfl) | (simp [*, errW_none, errW_some] <;> rfl), by repeat (first | (with_reducible first | exact HB.out | apply q1c | apply q2c | apply q3c | refine q4c ?_ GE110.out) | exact HB.out)⟩
/-! ### impl_turns: function 96 -/
def impl_turns.f (a0 : Int) : Option (Int) := some (Int.tmod (wrap64 ((Int.tmod a0 4) + 4)) 4)
set_option maxHeartbeats 8000000 in
set_option maxRecDepth 100000 in
theorem impl_turns.calls (a0 : Int) (r : Int) (w : World) (h : impl_turns.f a0 = some r) :
 Calls Try.prog 96 #[.int .i64 a0] w fun e w' => e = .returned (.int .i64 r) ∧ Drawn0 w w' := by
 have H : (some (Int.tmod (wrap64 ((Int.tmod a0 4) + 4)) 4)) = some r := h
 clear h
 obtain rfl := Option.some.inj H
 go_enter Try.func96, Try.ntmps96
 go_wp2
 go_ret
 exact ⟨by first | rfl | (simp; done) | (simp [*]; done), by repeat (first | exact Drawn0.refl _ | apply Drawn0.step)⟩
/-! ### impl_turned: function 64 -/
def impl_turned.l0 : Nat → Int → Int → Int → Int → Option (Int × Int)
  | 0, _, _, _, _ => none
  | k + 1, x6, x7, x115000, x115001 => if x7 < x6 then (impl_turned.l0 k x6 (wrap64 (x7 + 1)) (wrap64 (-x115001)) x115000) else (some (x115000, x115001))
def impl_turned.f (k : Nat) (a0_0 : Int) (a0_1 : Int) (a1 : Int) : Option (Int × Int) := (impl_turns.f a1).bind fun t116 => (impl_turned.l0 k t116 0 a0_0 a0_1)
theorem impl_turned.mono_l : ∀ k, (∀ y0 y1 y2 y3, LeO (impl_turned.l0 k y0 y1 y2 y3) (impl_turned.l0 (k + 1) y0 y1 y2 y3))
  | 0 => fun _ _ _ _ r h => by simp [impl_turned.l0] at h
  | k + 1 => by
    have ih0 := impl_turned.mono_l k
    · intro y0 y1 y2 y3
      unfold impl_turned.l0
      repeat' first
      | (with_reducible exact ih0 _ _ _ _)
      | (with_reducible exact LeO.refl _)
      | (with_reducible exact LeO.none _)
      | (with_reducible refine LeO.ite ?_ ?_)
      | (with_reducible refine LeO.bind ?_ (fun _ => ?_))
      | exact ih0 _ _ _ _
      | exact LeO.none _
      | refine LeO.ite ?_ ?_
      | refine LeO.bind ?_ (fun _ => ?_)
theorem impl_turned.mono : ∀ a0 a1 a2 k, LeO (impl_turned.f k a0 a1 a2) (impl_turned.f (k + 1) a0 a1 a2) := by
  intro a0 a1 a2 k
  have ih0 := impl_turned.mono_l k
  unfold impl_turned.f
  repeat' first
      | (with_reducible exact ih0 _ _ _ _)
      | (with_reducible exact LeO.refl _)
      | (with_reducible exact LeO.none _)
      | (with_reducible refine LeO.ite ?_ ?_)
      | (with_reducible refine LeO.bind ?_ (fun _ => ?_))
      | exact ih0 _ _ _ _
      | exact LeO.none _
      | refine LeO.ite ?_ ?_
      | refine LeO.bind ?_ (fun _ => ?_)
set_option maxHeartbeats 8000000 in
set_option maxRecDepth 100000 in
theorem impl_turned.calls (k : Nat) (a0_0 : Int) (a0_1 : Int) (a1 : Int) (r1 : Int) (r2 : Int) (w : World) (h : impl_turned.f k a0_0 a0_1 a1 = some (r1, r2)) :
 Calls Try.prog 64 #[.agg #[.int .i64 a0_0, .int .i64 a0_1], .int .i64 a1] w fun e w' => e = .returned (.agg #[.int .i64 r1, .int .i64 r2]) ∧ Below w.heap.size w w' := by
 have hu26 := Try.underlying26
 have HB := qgc (Below.refl w.heap.size w)
 have H : ((impl_turns.f a1).bind fun t116 => (impl_turned.l0 k t116 0 a0_0 a0_1)) = some (r1, r2) := h
 clear h
 replace H := Option.bind_eq_some_iff.mp H
 obtain ⟨t116, A30, H⟩ := H
 replace H : (impl_turned.l0 k t116 0 a0_0 a0_1) = some (r1, r2) := H
 have A3 := qgc A30
 clear A30
 have H' := qgc H
 clear H
 go_enter Try.func64, Try.ntmps64
 go_wp2_with (first | ((with_reducible refine quc (N := 2) rfl ?_); refine qhc ?hg (N := 2) ?hd (cs := #[.int .i64 a0_0, .int .i64 a0_1]) (t := 26) ?hr ?_; (case hd => rfl); (case hg => rfl); (case hr => first | (go_simp; done) | (go_simp; rfl)); intro gb114 hg w4 hbox hb; have n0_ := qgc (q9c (by repeat (first | (with_reducible first | exact HB.out | apply q1c | apply q2c | apply q3c) | exact HB.out)) hb); have n1_ := qgc (hbox); have n2_ := qgc ((by rw [hg]; exact (qac (by repeat (first | (with_reducible first | exact HB.out | apply q1c | apply q2c | apply q3c) | exact HB.out))) : w.heap.size ≤ gb114)); have n3_ := qgc ((by rw [hg]; exact (qac (by repeat (first | (with_reducible first | exact HB.out | apply q1c | apply q2c | apply q3c) | exact HB.out))) : w.heap.size ≤ gb114)); clear HB; have HB := n0_; have BK114 := n1_; have GW114 := n2_; have GE114 := n3_; clear n0_ n1_ n2_ n3_; clear hb hbox hg) | ((with_reducible refine quc (N := 4) rfl ?_); refine qhc ?hg (N := 4) ?hd (cs := #[.int .i64 0, .int .i64 0]) (t := 26) ?hr ?_; (case hd => rfl); (case hg => rfl); (case hr => first | (go_simp; done) | (go_simp; rfl)); intro gb115 hg w5 hbox hb; have n0_ := qgc (q8c (g := gb114) (o := .cells #[.int .i64 a0_0, .int .i64 a0_1] 26 (0, 0)) (by (with_reducible repeat (first | refine q5c ?_ _ | refine q6c ?_ | refine q7c ?_ _)); exact BK114.out) hb); have n1_ := qgc (q9c (by repeat (first | (with_reducible first | exact HB.out | apply q1c | apply q2c | apply q3c | refine q4c ?_ GE114.out) | exact HB.out)) hb); have n2_ := qgc (hbox); have n3_ := qgc ((by rw [hg]; exact (qac (by repeat (first | (with_reducible first | exact HB.out | apply q1c | apply q2c | apply q3c | refine q4c ?_ GE114.out) | exact HB.out))) : w.heap.size ≤ gb115)); have n4_ := qgc ((by rw [hg]; exact (qac (by repeat (first | (with_reducible first | exact HB.out | apply q1c | apply q2c | apply q3c | refine q4c ?_ GE114.out) | exact HB.out))) : w.heap.size ≤ gb115)); have n5_ := qgc ((by rw [hg]; exact qvc (qdc (g := gb114) (o := .cells #[.int .i64 a0_0, .int .i64 a0_1] 26 (0, 0)) (by (with_reducible repeat (first | refine q5c ?_ _ | refine q6c ?_ | refine q7c ?_ _)); exact BK114.out)) : gb114 ≠ gb115)); have n6_ := qgc ((by rw [hg]; exact qwc (qdc (g := gb114) (o := .cells #[.int .i64 a0_0, .int .i64 a0_1] 26 (0, 0)) (by (with_reducible repeat (first | refine q5c ?_ _ | refine q6c ?_ | refine q7c ?_ _)); exact BK114.out)) : gb115 ≠ gb114)); clear BK114; clear HB; have BK114 := n0_; have HB := n1_; have BK115 := n2_; have GW115 := n3_; have GE115 := n4_; have NB114_115 := n5_; have NB115_114 := n6_; clear n0_ n1_ n2_ n3_ n4_ n5_ n6_; clear hb hbox hg) | ((with_reducible refine qtc (f := 96) rfl ?_); refine goesL_ (some 6) rfl rfl Try.func96 (by kernel_rfl) rfl #[.int .i64 a1] rfl (by (try simp only [List.map_toArray, List.map_cons, List.map_nil]); first | done | rfl | (simp only [List.length_drop, List.length_take]; rfl)) ?_; (with_reducible refine (impl_turns.calls a1 t116 _ A3.out).mono ?_); rintro e w' ⟨rfl, ⟨nd, rfl⟩⟩; refine ⟨_, rfl, ?_⟩))
 go_loopg [7] k (fun kq v7 w' => ∃ (x7_1 : Int) (x115000_1 : Int) (x115001_1 : Int), v7 = .int .i64 x7_1 ∧ Aside0 (impl_turned.l0 kq t116 x7_1 x115000_1 x115001_1 = some (r1, r2)) ∧ Aside0 (kq ≤ k) ∧ Aside0 (w'.heap[gb114]? = some (.cells #[.int .i64 x115000_1, .int .i64 x115001_1] 26 (0, 0))) ∧ Aside0 (w'.heap[gb115]? = some (.cells #[.int .i64 0, .int .i64 0] 26 (0, 0))) ∧ Aside0 (Below w.heap.size w w'))
 case atStart => exact ⟨(0), (a0_0), (a0_1), (by first | rfl | (simp; done) | (simp [*]; done)), H', ⟨Nat.le_refl _⟩, ⟨by (with_reducible repeat (first | refine q5c ?_ _ | refine q6c ?_ | refine q7c ?_ _)); exact BK114.out⟩, ⟨by (with_reducible repeat (first | refine q5c ?_ _ | refine q6c ?_ | refine q7c ?_ _)); exact BK115.out⟩, ⟨by repeat (first | (with_reducible first | exact HB.out | apply q1c | apply q2c | apply q3c | refine q4c ?_ GE114.out | refine q4c ?_ GE115.out) | exact HB.out)⟩⟩
 case round =>
  clear H'
  try clear p2
  obtain ⟨x7_1, x115000_1, x115001_1, rfl, HA, HK1, BK114, BK115, HB⟩ := hrel
  cases gk with
  | zero => exact absurd HA.out (by simp [impl_turned.l0])
  | succ k1 =>
   have H := HA.out
   clear HA
   simp only [impl_turned.l0] at H
   by_cases c6 : x7_1 < t116
   ·rw [if_pos c6] at H
    have c6b0 : decide (x7_1 < t116) = true := decide_eq_true c6
    clear c6
    have H' := qgc H
    clear H
    have hnb7 := NB114_115.out
    have hnc7 := NB115_114.out
    have hcz8_0 : wr.cell? ⟨gb114, 0, none⟩ = some (.int .i64 x115000_1) := (qcc BK114.out 0).trans rfl
    have hcz8_1 : wr.cell? ⟨gb114, 1, none⟩ = some (.int .i64 x115001_1) := (qcc BK114.out 1).trans rfl
    have hfz8_0 := qbc BK114.out 0
    have hfz8_1 := qbc BK114.out 1
    go_wp2
    go_roundg k1
    case measure => have := HK1.out; omega
    case rel => exact ⟨(wrap64 (x7_1 + 1)), (wrap64 (-x115001_1)), (x115000_1), (by first | rfl | (simp; done) | (simp [*]; done)), H', ⟨by have := HK1.out; omega⟩, ⟨by (with_reducible repeat (first | refine q5c ?_ _ | refine q6c ?_ | refine q7c ?_ _)); refine qfc (cs := #[.int .i64 (wrap64 (-x115001_1)), .int .i64 x115001_1]) ?_ 1 _ rfl; (with_reducible repeat (first | refine q5c ?_ _ | refine q6c ?_ | refine q7c ?_ _)); refine qfc (cs := #[.int .i64 x115000_1, .int .i64 x115001_1]) ?_ 0 _ rfl; (with_reducible repeat (first | refine q5c ?_ _ | refine q6c ?_ | refine q7c ?_ _)); exact BK114.out⟩, ⟨by (with_reducible repeat (first | refine q5c ?_ _ | refine q6c ?_ | refine q7c ?_ _)); refine qec ?_ NB115_114.out _; (with_reducible repeat (first | refine q5c ?_ _ | refine q6c ?_ | refine q7c ?_ _)); refine qec ?_ NB115_114.out _; (with_reducible repeat (first | refine q5c ?_ _ | refine q6c ?_ | refine q7c ?_ _)); exact BK115.out⟩, ⟨by repeat (first | (with_reducible first | exact HB.out | apply q1c | apply q2c | apply q3c | refine q4c ?_ GE114.out | refine q4c ?_ GE115.out) | exact HB.out)⟩⟩
   ·rw [if_neg c6] at H
    have c6b0 : decide (x7_1 < t116) = false := decide_eq_false c6
    clear c6
    simp only [Option.some.injEq, Prod.mk.injEq] at H
    obtain ⟨rfl, rfl⟩ := H
    have hnb9 := NB114_115.out
    have hnc9 := NB115_114.out
    have hcz10_0 : wr.cell? ⟨gb114, 0, none⟩ = some (.int .i64 x115000_1) := (qcc BK114.out 0).trans rfl
    have hcz10_1 : wr.cell? ⟨gb114, 1, none⟩ = some (.int .i64 x115001_1) := (qcc BK114.out 1).trans rfl
    have hfz10_0 := qbc BK114.out 0
    have hfz10_1 := qbc BK114.out 1
    have hcz11_0 : wr.cell? ⟨gb115, 0, none⟩ = some (.int .i64 0) := (qcc BK115.out 0).trans rfl
    have hcz11_1 : wr.cell? ⟨gb115, 1, none⟩ = some (.int .i64 0) := (qcc BK115.out 1).trans rfl
    have hfz11_0 := qbc BK115.out 0
    have hfz11_1 := qbc BK115.out 1
    go_wp2
    refine bodyPost_ret (results_cell_row rfl _ _ gb115 26 #[.int .i64 x115000_1, .int .i64 x115001_1] (0, 0) _ rfl (by (with_reducible repeat (first | refine q5c ?_ _ | refine q6c ?_ | refine q7c ?_ _)); refine qfc (cs := #[.int .i64 x115000_1, .int .i64 0]) ?_ 1 _ rfl; (with_reducible repeat (first | refine q5c ?_ _ | refine q6c ?_ | refine q7c ?_ _)); refine qfc (cs := #[.int .i64 0, .int .i64 0]) ?_ 0 _ rfl; (with_reducible repeat (first | refine q5c ?_ _ | refine q6c ?_ | refine q7c ?_ _)); exact BK115.out) Try.underlying26 rfl (by kernel_rfl)) rfl ?_
    exact ⟨by first | rfl | (simp [errW_none, errW_some] <;> rfl) | (simp [*, errW_none, errW_some] <;> rfl), by repeat (first | (with_reducible first | exact HB.out | apply q1c | apply q2c | apply q3c | refine q4c ?_ GE114.out | refine q4c ?_ GE115.out) | exact HB.out)⟩
/-! ### impl_IsMeasure: function 98 -/
def impl_IsMeasure.f (a0 : Int) : Option (Bool) := (impl_isWithin.f a0 (-4096) 4096).bind fun t117 => (some t117)
set_option maxHeartbeats 8000000 in
set_option maxRecDepth 100000 in
theorem impl_IsMeasure.calls (a0 : Int) (r : Bool) (w : World) (h : impl_IsMeasure.f a0 = some r) :
 Calls Try.prog 98 #[.int .i64 a0] w fun e w' => e = .returned (.bool r) ∧ Drawn0 w w' := by
 have H : ((impl_isWithin.f a0 (-4096) 4096).bind fun t117 => (some t117)) = some r := h
 clear h
 replace H := Option.bind_eq_some_iff.mp H
 obtain ⟨t117, A20, H⟩ := H
 replace H : (some t117) = some r := H
 have A2 := qgc A20
 clear A20
 obtain rfl := Option.some.inj H
 go_enter Try.func98, Try.ntmps98
 go_wp2_with (first | ((with_reducible refine qtc (f := 79) rfl ?_); refine goesL_ (some 4) rfl rfl Try.func79 (by kernel_rfl) rfl #[.int .i64 a0, .int .i64 (-4096), .int .i64 4096] rfl (by (try simp only [List.map_toArray, List.map_cons, List.map_nil]); first | done | rfl | (simp only [List.length_drop, List.length_take]; rfl)) ?_; (with_reducible refine (impl_isWithin.calls a0 (-4096) 4096 t117 _ A2.out).mono ?_); rintro e w' ⟨rfl, ⟨nd, rfl⟩⟩; refine ⟨_, rfl, ?_⟩))
 go_ret
 exact ⟨by first | rfl | (simp; done) | (simp [*]; done), by repeat (first | exact Drawn0.refl _ | apply Drawn0.step)⟩
/-! ### impl_IsPlace: function 69 -/
def impl_IsPlace.f (a0_0 : Int) (a0_1 : Int) : Option (Bool) := (impl_IsMeasure.f a0_0).bind fun t119 => (if t119 = true then ((impl_IsMeasure.f a0_1).bind fun t120 => (some t120)) else (some false))
set_option maxHeartbeats 8000000 in
set_option maxRecDepth 100000 in
theorem impl_IsPlace.calls (a0_0 : Int) (a0_1 : Int) (r : Bool) (w : World) (h : impl_IsPlace.f a0_0 a0_1 = some r) :
 Calls Try.prog 69 #[.agg #[.int .i64 a0_0, .int .i64 a0_1]] w fun e w' => e = .returned (.bool r) ∧ Below w.heap.size w w' := by
 have hu26 := Try.underlying26
 have HB := qgc (Below.refl w.heap.size w)
 have H : ((impl_IsMeasure.f a0_0).bind fun t119 => (if t119 = true then ((impl_IsMeasure.f a0_1).bind fun t120 => (some t120)) else (some false))) = some r := h
 clear h
 replace H := Option.bind_eq_some_iff.mp H
 obtain ⟨t119, A20, H⟩ := H
 replace H : (if t119 = true then ((impl_IsMeasure.f a0_1).bind fun t120 => (some t120)) else (some false)) = some r := H
 have A2 := qgc A20
 clear A20
 by_cases c3 : t119 = true
 ·subst c3
  have H1 : ((impl_IsMeasure.f a0_1).bind fun t120 => (some t120)) = some r := by rw [if_pos rfl] at H; exact H
  clear H
  have H := H1
  clear H1
  replace H := Option.bind_eq_some_iff.mp H
  obtain ⟨t120, A40, H⟩ := H
  replace H : (some t120) = some r := H
  have A4 := qgc A40
  clear A40
  obtain rfl := Option.some.inj H
  go_enter Try.func69, Try.ntmps69
  go_wp2_with (first | ((with_reducible refine quc (N := 1) rfl ?_); refine qhc ?hg (N := 1) ?hd (cs := #[.int .i64 a0_0, .int .i64 a0_1]) (t := 26) ?hr ?_; (case hd => rfl); (case hg => rfl); (case hr => first | (go_simp; done) | (go_simp; rfl)); intro gb118 hg w5 hbox hb; have n0_ := qgc (q9c (by repeat (first | (with_reducible first | exact HB.out | apply q1c | apply q2c | apply q3c) | exact HB.out)) hb); have n1_ := qgc (hbox); have n2_ := qgc ((by rw [hg]; exact (qac (by repeat (first | (with_reducible first | exact HB.out | apply q1c | apply q2c | apply q3c) | exact HB.out))) : w.heap.size ≤ gb118)); have n3_ := qgc ((by rw [hg]; exact (qac (by repeat (first | (with_reducible first | exact HB.out | apply q1c | apply q2c | apply q3c) | exact HB.out))) : w.heap.size ≤ gb118)); clear HB; have HB := n0_; have BK118 := n1_; have GW118 := n2_; have GE118 := n3_; clear n0_ n1_ n2_ n3_; clear hb hbox hg; have hcz6_0 : w5.cell? ⟨gb118, 0, none⟩ = some (.int .i64 a0_0) := (qcc BK118.out 0).trans rfl; have hcz6_1 : w5.cell? ⟨gb118, 1, none⟩ = some (.int .i64 a0_1) := (qcc BK118.out 1).trans rfl; have hfz6_0 := qbc BK118.out 0; have hfz6_1 := qbc BK118.out 1) | ((with_reducible refine qtc (f := 98) rfl ?_); refine goesL_ (some 5) rfl rfl Try.func98 (by kernel_rfl) rfl #[.int .i64 a0_0] rfl (by (try simp only [List.map_toArray, List.map_cons, List.map_nil]); first | done | rfl | (simp only [List.length_drop, List.length_take]; rfl)) ?_; (with_reducible refine (impl_IsMeasure.calls a0_0 true _ A2.out).mono ?_); rintro e w' ⟨rfl, ⟨nd, rfl⟩⟩; refine ⟨_, rfl, ?_⟩) | (go_at_call 98; (with_reducible refine (impl_IsMeasure.calls a0_1 t120 _ A4.out).mono ?_); rintro e w' ⟨rfl, ⟨nd, rfl⟩⟩))
  go_ret
  exact ⟨by first | rfl | (simp [errW_none, errW_some] <;> rfl) | (simp [*, errW_none, errW_some] <;> rfl), by repeat (first | (with_reducible first | exact HB.out | apply q1c | apply q2c | apply q3c | refine q4c ?_ GE118.out) | exact HB.out)⟩
 ·replace c3 := Bool.eq_false_iff.mpr c3
  subst c3
  have H1 : (some false) = some r := by rw [if_neg (show ¬ (false = true) by decide)] at H; exact H
  clear H
  have H := H1
  clear H1
  obtain rfl := Option.some.inj H
  go_enter Try.func69, Try.ntmps69
  go_wp2_with (first | ((with_reducible refine quc (N := 1) rfl ?_); refine qhc ?hg (N := 1) ?hd (cs := #[.int .i64 a0_0, .int .i64 a0_1]) (t := 26) ?hr ?_; (case hd => rfl); (case hg => rfl); (case hr => first | (go_simp; done) | (go_simp; rfl)); intro gb118 hg w7 hbox hb; have n0_ := qgc (q9c (by repeat (first | (with_reducible first | exact HB.out | apply q1c | apply q2c | apply q3c) | exact HB.out)) hb); have n1_ := qgc (hbox); have n2_ := qgc ((by rw [hg]; exact (qac (by repeat (first | (with_reducible first | exact HB.out | apply q1c | apply q2c | apply q3c) | exact HB.out))) : w.heap.size ≤ gb118)); have n3_ := qgc ((by rw [hg]; exact (qac (by repeat (first | (with_reducible first | exact HB.out | apply q1c | apply q2c | apply q3c) | exact HB.out))) : w.heap.size ≤ gb118)); clear HB; have HB := n0_; have BK118 := n1_; have GW118 := n2_; have GE118 := n3_; clear n0_ n1_ n2_ n3_; clear hb hbox hg; have hcz8_0 : w7.cell? ⟨gb118, 0, none⟩ = some (.int .i64 a0_0) := (qcc BK118.out 0).trans rfl; have hcz8_1 : w7.cell? ⟨gb118, 1, none⟩ = some (.int .i64 a0_1) := (qcc BK118.out 1).trans rfl; have hfz8_0 := qbc BK118.out 0; have hfz8_1 := qbc BK118.out 1) | ((with_reducible refine qtc (f := 98) rfl ?_); refine goesL_ (some 5) rfl rfl Try.func98 (by kernel_rfl) rfl #[.int .i64 a0_0] rfl (by (try simp only [List.map_toArray, List.map_cons, List.map_nil]); first | done | rfl | (simp only [List.length_drop, List.length_take]; rfl)) ?_; (with_reducible refine (impl_IsMeasure.calls a0_0 false _ A2.out).mono ?_); rintro e w' ⟨rfl, ⟨nd, rfl⟩⟩; refine ⟨_, rfl, ?_⟩))
  go_ret
  exact ⟨by first | rfl | (simp [errW_none, errW_some] <;> rfl) | (simp [*, errW_none, errW_some] <;> rfl), by repeat (first | (with_reducible first | exact HB.out | apply q1c | apply q2c | apply q3c | refine q4c ?_ GE118.out) | exact HB.out)⟩
/-! ### impl_checked: function 99 -/
def impl_checked.f (a0_0 : Int) (a0_1 : Int) : Option (Int × Int × Bool) := (impl_IsPlace.f a0_0 a0_1).bind fun t123 => (if t123 = true then (some (a0_0, a0_1, true)) else (some (0, 0, false)))
set_option maxHeartbeats 8000000 in
set_option maxRecDepth 100000 in
theorem impl_checked.calls (a0_0 : Int) (a0_1 : Int) (r1 : Int) (r2 : Int) (r3 : Bool) (w : World) (h : impl_checked.f a0_0 a0_1 = some (r1, r2, r3)) :
 Calls Try.prog 99 #[.agg #[.int .i64 a0_0, .int .i64 a0_1]] w fun e w' => e = .returned (.tuple #[.agg #[.int .i64 r1, .int .i64 r2], .bool r3]) ∧ Below w.heap.size w w' := by
 have hu26 := Try.underlying26
 have HB := qgc (Below.refl w.heap.size w)
 have H : ((impl_IsPlace.f a0_0 a0_1).bind fun t123 => (if t123 = true then (some (a0_0, a0_1, true)) else (some (0, 0, false)))) = some (r1, r2, r3) := h
 clear h
 replace H := Option.bind_eq_some_iff.mp H
 obtain ⟨t123, A20, H⟩ := H
 replace H : (if t123 = true then (some (a0_0, a0_1, true)) else (some (0, 0, false))) = some (r1, r2, r3) := H
 have A2 := qgc A20
 clear A20
 by_cases c3 : t123 = true
 ·subst c3
  have H1 : (some (a0_0, a0_1, true)) = some (r1, r2, r3) := by rw [if_pos rfl] at H; exact H
  clear H
  have H := H1
  clear H1
  simp only [Option.some.injEq, Prod.mk.injEq] at H
  obtain ⟨rfl, rfl, rfl⟩ := H
  go_enter Try.func99, Try.ntmps99
  go_wp2_with (first | ((with_reducible refine quc (N := 1) rfl ?_); refine qhc ?hg (N := 1) ?hd (cs := #[.int .i64 a0_0, .int .i64 a0_1]) (t := 26) ?hr ?_; (case hd => rfl); (case hg => rfl); (case hr => first | (go_simp; done) | (go_simp; rfl)); intro gb121 hg w4 hbox hb; have n0_ := qgc (q9c (by repeat (first | (with_reducible first | exact HB.out | apply q1c | apply q2c | apply q3c) | exact HB.out)) hb); have n1_ := qgc (hbox); have n2_ := qgc ((by rw [hg]; exact (qac (by repeat (first | (with_reducible first | exact HB.out | apply q1c | apply q2c | apply q3c) | exact HB.out))) : w.heap.size ≤ gb121)); have n3_ := qgc ((by rw [hg]; exact (qac (by repeat (first | (with_reducible first | exact HB.out | apply q1c | apply q2c | apply q3c) | exact HB.out))) : w.heap.size ≤ gb121)); clear HB; have HB := n0_; have BK121 := n1_; have GW121 := n2_; have GE121 := n3_; clear n0_ n1_ n2_ n3_; clear hb hbox hg) | ((with_reducible refine quc (N := 2) rfl ?_); refine qhc ?hg (N := 2) ?hd (cs := #[.int .i64 0, .int .i64 0]) (t := 26) ?hr ?_; (case hd => rfl); (case hg => rfl); (case hr => first | (go_simp; done) | (go_simp; rfl)); intro gb122 hg w5 hbox hb; have n0_ := qgc (q8c (g := gb121) (o := .cells #[.int .i64 a0_0, .int .i64 a0_1] 26 (0, 0)) (by (with_reducible repeat (first | refine q5c ?_ _ | refine q6c ?_ | refine q7c ?_ _)); exact BK121.out) hb); have n1_ := qgc (q9c (by repeat (first | (with_reducible first | exact HB.out | apply q1c | apply q2c | apply q3c | refine q4c ?_ GE121.out) | exact HB.out)) hb); have n2_ := qgc (hbox); have n3_ := qgc ((by rw [hg]; exact (qac (by repeat (first | (with_reducible first | exact HB.out | apply q1c | apply q2c | apply q3c | refine q4c ?_ GE121.out) | exact HB.out))) : w.heap.size ≤ gb122)); have n4_ := qgc ((by rw [hg]; exact (qac (by repeat (first | (with_reducible first | exact HB.out | apply q1c | apply q2c | apply q3c | refine q4c ?_ GE121.out) | exact HB.out))) : w.heap.size ≤ gb122)); have n5_ := qgc ((by rw [hg]; exact qvc (qdc (g := gb121) (o := .cells #[.int .i64 a0_0, .int .i64 a0_1] 26 (0, 0)) (by (with_reducible repeat (first | refine q5c ?_ _ | refine q6c ?_ | refine q7c ?_ _)); exact BK121.out)) : gb121 ≠ gb122)); have n6_ := qgc ((by rw [hg]; exact qwc (qdc (g := gb121) (o := .cells #[.int .i64 a0_0, .int .i64 a0_1] 26 (0, 0)) (by (with_reducible repeat (first | refine q5c ?_ _ | refine q6c ?_ | refine q7c ?_ _)); exact BK121.out)) : gb122 ≠ gb121)); clear BK121; clear HB; have BK121 := n0_; have HB := n1_; have BK122 := n2_; have GW122 := n3_; have GE122 := n4_; have NB121_122 := n5_; have NB122_121 := n6_; clear n0_ n1_ n2_ n3_ n4_ n5_ n6_; clear hb hbox hg; have hnb6 := NB121_122.out; have hnc6 := NB122_121.out; have hcz7_0 : w5.cell? ⟨gb121, 0, none⟩ = some (.int .i64 a0_0) := (qcc BK121.out 0).trans rfl; have hcz7_1 : w5.cell? ⟨gb121, 1, none⟩ = some (.int .i64 a0_1) := (qcc BK121.out 1).trans rfl; have hfz7_0 := qbc BK121.out 0; have hfz7_1 := qbc BK121.out 1) | ((with_reducible refine qtc (f := 69) rfl ?_); refine goesL_ (some 5) rfl rfl Try.func69 (by kernel_rfl) rfl #[.agg #[.int .i64 a0_0, .int .i64 a0_1]] rfl (by (try simp only [List.map_toArray, List.map_cons, List.map_nil]); first | done | rfl | (simp only [List.length_drop, List.length_take]; rfl)) ?_; (with_reducible refine (impl_IsPlace.calls a0_0 a0_1 true _ A2.out).mono ?_); rintro e w8 ⟨rfl, hb⟩; refine ⟨_, rfl, ?_⟩; have n0_ := qgc (q8c (g := gb121) (o := .cells #[.int .i64 a0_0, .int .i64 a0_1] 26 (0, 0)) (by (with_reducible repeat (first | refine q5c ?_ _ | refine q6c ?_ | refine q7c ?_ _)); exact BK121.out) hb); have n1_ := qgc (q8c (g := gb122) (o := .cells #[.int .i64 0, .int .i64 0] 26 (0, 0)) (by (with_reducible repeat (first | refine q5c ?_ _ | refine q6c ?_ | refine q7c ?_ _)); exact BK122.out) hb); have n2_ := qgc (q9c (by repeat (first | (with_reducible first | exact HB.out | apply q1c | apply q2c | apply q3c | refine q4c ?_ GE121.out | refine q4c ?_ GE122.out) | exact HB.out)) hb); clear BK121; clear BK122; clear HB; have BK121 := n0_; have BK122 := n1_; have HB := n2_; clear n0_ n1_ n2_; (try clear hb); (try clear hb2); (try clear hk); (try clear hi); have hcz9_0 : w8.cell? ⟨gb121, 0, none⟩ = some (.int .i64 a0_0) := (qcc BK121.out 0).trans rfl; have hcz9_1 : w8.cell? ⟨gb121, 1, none⟩ = some (.int .i64 a0_1) := (qcc BK121.out 1).trans rfl; have hfz9_0 := qbc BK121.out 0; have hfz9_1 := qbc BK121.out 1; have hcz10_0 : w8.cell? ⟨gb122, 0, none⟩ = some (.int .i64 0) := (qcc BK122.out 0).trans rfl; have hcz10_1 : w8.cell? ⟨gb122, 1, none⟩ = some (.int .i64 0) := (qcc BK122.out 1).trans rfl; have hfz10_0 := qbc BK122.out 0; have hfz10_1 := qbc BK122.out 1))
  refine bodyPost_ret (results_ct rfl _ _ gb122 26 #[.int .i64 a0_0, .int .i64 a0_1] (0, 0) _ rfl (by (with_reducible repeat (first | refine q5c ?_ _ | refine q6c ?_ | refine q7c ?_ _)); refine qfc (cs := #[.int .i64 a0_0, .int .i64 0]) ?_ 1 _ rfl; (with_reducible repeat (first | refine q5c ?_ _ | refine q6c ?_ | refine q7c ?_ _)); refine qfc (cs := #[.int .i64 0, .int .i64 0]) ?_ 0 _ rfl; (with_reducible repeat (first | refine q5c ?_ _ | refine q6c ?_ | refine q7c ?_ _)); exact BK122.out) Try.underlying26 rfl (by kernel_rfl)) rfl ?_
  exact ⟨by first | rfl | (simp [errW_none, errW_some] <;> rfl) | (simp [*, errW_none, errW_some] <;> rfl), by repeat (first | (with_reducible first | exact HB.out | apply q1c | apply q2c | apply q3c | refine q4c ?_ GE121.out | refine q4c ?_ GE122.out) | exact HB.out)⟩
 ·replace c3 := Bool.eq_false_iff.mpr c3
  subst c3
  have H1 : (some (0, 0, false)) = some (r1, r2, r3) := by rw [if_neg (show ¬ (false = true) by decide)] at H; exact H
  clear H
  have H := H1
  clear H1
  simp only [Option.some.injEq, Prod.mk.injEq] at H
  obtain ⟨rfl, rfl, rfl⟩ := H
  go_enter Try.func99, Try.ntmps99
  go_wp2_with (first | ((with_reducible refine quc (N := 1) rfl ?_); refine qhc ?hg (N := 1) ?hd (cs := #[.int .i64 a0_0, .int .i64 a0_1]) (t := 26) ?hr ?_; (case hd => rfl); (case hg => rfl); (case hr => first | (go_simp; done) | (go_simp; rfl)); intro gb121 hg w11 hbox hb; have n0_ := qgc (q9c (by repeat (first | (with_reducible first | exact HB.out | apply q1c | apply q2c | apply q3c) | exact HB.out)) hb); have n1_ := qgc (hbox); have n2_ := qgc ((by rw [hg]; exact (qac (by repeat (first | (with_reducible first | exact HB.out | apply q1c | apply q2c | apply q3c) | exact HB.out))) : w.heap.size ≤ gb121)); have n3_ := qgc ((by rw [hg]; exact (qac (by repeat (first | (with_reducible first | exact HB.out | apply q1c | apply q2c | apply q3c) | exact HB.out))) : w.heap.size ≤ gb121)); clear HB; have HB := n0_; have BK121 := n1_; have GW121 := n2_; have GE121 := n3_; clear n0_ n1_ n2_ n3_; clear hb hbox hg) | ((with_reducible refine quc (N := 2) rfl ?_); refine qhc ?hg (N := 2) ?hd (cs := #[.int .i64 0, .int .i64 0]) (t := 26) ?hr ?_; (case hd => rfl); (case hg => rfl); (case hr => first | (go_simp; done) | (go_simp; rfl)); intro gb122 hg w12 hbox hb; have n0_ := qgc (q8c (g := gb121) (o := .cells #[.int .i64 a0_0, .int .i64 a0_1] 26 (0, 0)) (by (with_reducible repeat (first | refine q5c ?_ _ | refine q6c ?_ | refine q7c ?_ _)); exact BK121.out) hb); have n1_ := qgc (q9c (by repeat (first | (with_reducible first | exact HB.out | apply q1c | apply q2c | apply q3c | refine q4c ?_ GE121.out) | exact HB.out)) hb); have n2_ := qgc (hbox); have n3_ := qgc ((by rw [hg]; exact (qac (by repeat (first | (with_reducible first | exact HB.out | apply q1c | apply q2c | apply q3c | refine q4c ?_ GE121.out) | exact HB.out))) : w.heap.size ≤ gb122)); have n4_ := qgc ((by rw [hg]; exact (qac (by repeat (first | (with_reducible first | exact HB.out | apply q1c | apply q2c | apply q3c | refine q4c ?_ GE121.out) | exact HB.out))) : w.heap.size ≤ gb122)); have n5_ := qgc ((by rw [hg]; exact qvc (qdc (g := gb121) (o := .cells #[.int .i64 a0_0, .int .i64 a0_1] 26 (0, 0)) (by (with_reducible repeat (first | refine q5c ?_ _ | refine q6c ?_ | refine q7c ?_ _)); exact BK121.out)) : gb121 ≠ gb122)); have n6_ := qgc ((by rw [hg]; exact qwc (qdc (g := gb121) (o := .cells #[.int .i64 a0_0, .int .i64 a0_1] 26 (0, 0)) (by (with_reducible repeat (first | refine q5c ?_ _ | refine q6c ?_ | refine q7c ?_ _)); exact BK121.out)) : gb122 ≠ gb121)); clear BK121; clear HB; have BK121 := n0_; have HB := n1_; have BK122 := n2_; have GW122 := n3_; have GE122 := n4_; have NB121_122 := n5_; have NB122_121 := n6_; clear n0_ n1_ n2_ n3_ n4_ n5_ n6_; clear hb hbox hg; have hnb13 := NB121_122.out; have hnc13 := NB122_121.out; have hcz14_0 : w12.cell? ⟨gb121, 0, none⟩ = some (.int .i64 a0_0) := (qcc BK121.out 0).trans rfl; have hcz14_1 : w12.cell? ⟨gb121, 1, none⟩ = some (.int .i64 a0_1) := (qcc BK121.out 1).trans rfl; have hfz14_0 := qbc BK121.out 0; have hfz14_1 := qbc BK121.out 1) | ((with_reducible refine qtc (f := 69) rfl ?_); refine goesL_ (some 5) rfl rfl Try.func69 (by kernel_rfl) rfl #[.agg #[.int .i64 a0_0, .int .i64 a0_1]] rfl (by (try simp only [List.map_toArray, List.map_cons, List.map_nil]); first | done | rfl | (simp only [List.length_drop, List.length_take]; rfl)) ?_; (with_reducible refine (impl_IsPlace.calls a0_0 a0_1 false _ A2.out).mono ?_); rintro e w15 ⟨rfl, hb⟩; refine ⟨_, rfl, ?_⟩; have n0_ := qgc (q8c (g := gb121) (o := .cells #[.int .i64 a0_0, .int .i64 a0_1] 26 (0, 0)) (by (with_reducible repeat (first | refine q5c ?_ _ | refine q6c ?_ | refine q7c ?_ _)); exact BK121.out) hb); have n1_ := qgc (q8c (g := gb122) (o := .cells #[.int .i64 0, .int .i64 0] 26 (0, 0)) (by (with_reducible repeat (first | refine q5c ?_ _ | refine q6c ?_ | refine q7c ?_ _)); exact BK122.out) hb); have n2_ := qgc (q9c (by repeat (first | (with_reducible first | exact HB.out | apply q1c | apply q2c | apply q3c | refine q4c ?_ GE121.out | refine q4c ?_ GE122.out) | exact HB.out)) hb); clear BK121; clear BK122; clear HB; have BK121 := n0_; have BK122 := n1_; have HB := n2_; clear n0_ n1_ n2_; (try clear hb); (try clear hb2); (try clear hk); (try clear hi); have hcz16_0 : w15.cell? ⟨gb122, 0, none⟩ = some (.int .i64 0) := (qcc BK122.out 0).trans rfl; have hcz16_1 : w15.cell? ⟨gb122, 1, none⟩ = some (.int .i64 0) := (qcc BK122.out 1).trans rfl; have hfz16_0 := qbc BK122.out 0; have hfz16_1 := qbc BK122.out 1))
  refine bodyPost_ret (results_ct rfl _ _ gb122 26 #[.int .i64 0, .int .i64 0] (0, 0) _ rfl (by (with_reducible repeat (first | refine q5c ?_ _ | refine q6c ?_ | refine q7c ?_ _)); refine qfc (cs := #[.int .i64 0, .int .i64 0]) ?_ 1 _ rfl; (with_reducible repeat (first | refine q5c ?_ _ | refine q6c ?_ | refine q7c ?_ _)); refine qfc (cs := #[.int .i64 0, .int .i64 0]) ?_ 0 _ rfl; (with_reducible repeat (first | refine q5c ?_ _ | refine q6c ?_ | refine q7c ?_ _)); exact BK122.out) Try.underlying26 rfl (by kernel_rfl)) rfl ?_
  exact ⟨by first | rfl | (simp [errW_none, errW_some] <;> rfl) | (simp [*, errW_none, errW_some] <;> rfl), by repeat (first | (with_reducible first | exact HB.out | apply q1c | apply q2c | apply q3c | refine q4c ?_ GE121.out | refine q4c ?_ GE122.out) | exact HB.out)⟩
/-! ### impl_StepFrom: function 73 -/
def impl_StepFrom.j0 : Nat → Int → Int → Bool → Int → Int → Option (Int × Int × Bool)
  | 0, _, _, _, _, _ => none
  | k + 1, x1, x2, x21, x125000, x125001 => if x21 = true then (some (0, 0, false)) else ((impl_turned.f k x2 0 x1).bind fun bt129 => ((impl_checked.f (wrap64 (x125000 + bt129.1)) (wrap64 (x125001 + bt129.2))).bind fun bt132 => (some (bt132.1, bt132.2.1, bt132.2.2))))
def impl_StepFrom.f (k : Nat) (a0_0 : Int) (a0_1 : Int) (a1 : Int) (a2 : Int) : Option (Int × Int × Bool) := (impl_IsPlace.f a0_0 a0_1).bind fun t126 => (if t126 = true then ((impl_IsHeading.f a1).bind fun t127 => (if t127 = true then ((impl_IsMeasure.f a2).bind fun t128 => (impl_StepFrom.j0 k a1 a2 (!t128) a0_0 a0_1)) else (impl_StepFrom.j0 k a1 a2 true a0_0 a0_1))) else (impl_StepFrom.j0 k a1 a2 true a0_0 a0_1))
theorem impl_StepFrom.mono_l : ∀ k, (∀ y0 y1 y2 y3 y4, LeO (impl_StepFrom.j0 k y0 y1 y2 y3 y4) (impl_StepFrom.j0 (k + 1) y0 y1 y2 y3 y4))
  | 0 => fun _ _ _ _ _ r h => by simp [impl_StepFrom.j0] at h
  | k + 1 => by
    have ih0 := impl_StepFrom.mono_l k
    · intro y0 y1 y2 y3 y4
      unfold impl_StepFrom.j0
      repeat' first
      | (with_reducible exact ih0 _ _ _ _ _)
      | (with_reducible exact impl_turned.mono _ _ _ _)
      | (with_reducible exact LeO.refl _)
      | (with_reducible exact LeO.none _)
      | (with_reducible refine LeO.ite ?_ ?_)
      | (with_reducible refine LeO.bind ?_ (fun _ => ?_))
      | exact ih0 _ _ _ _ _
      | exact impl_turned.mono _ _ _ _
      | exact LeO.none _
      | refine LeO.ite ?_ ?_
      | refine LeO.bind ?_ (fun _ => ?_)
theorem impl_StepFrom.mono : ∀ a0 a1 a2 a3 k, LeO (impl_StepFrom.f k a0 a1 a2 a3) (impl_StepFrom.f (k + 1) a0 a1 a2 a3) := by
  intro a0 a1 a2 a3 k
  have ih0 := impl_StepFrom.mono_l k
  unfold impl_StepFrom.f
  repeat' first
      | (with_reducible exact ih0 _ _ _ _ _)
      | (with_reducible exact impl_turned.mono _ _ _ _)
      | (with_reducible exact LeO.refl _)
      | (with_reducible exact LeO.none _)
      | (with_reducible refine LeO.ite ?_ ?_)
      | (with_reducible refine LeO.bind ?_ (fun _ => ?_))
      | exact ih0 _ _ _ _ _
      | exact impl_turned.mono _ _ _ _
      | exact LeO.none _
      | refine LeO.ite ?_ ?_
      | refine LeO.bind ?_ (fun _ => ?_)
set_option maxHeartbeats 8000000 in
set_option maxRecDepth 100000 in
theorem impl_StepFrom.calls (k : Nat) (a0_0 : Int) (a0_1 : Int) (a1 : Int) (a2 : Int) (r1 : Int) (r2 : Int) (r3 : Bool) (w : World) (h : impl_StepFrom.f k a0_0 a0_1 a1 a2 = some (r1, r2, r3)) :
 Calls Try.prog 73 #[.agg #[.int .i64 a0_0, .int .i64 a0_1], .int .i64 a1, .int .i64 a2] w fun e w' => e = .returned (.tuple #[.agg #[.int .i64 r1, .int .i64 r2], .bool r3]) ∧ Below w.heap.size w w' := by
 have hu26 := Try.underlying26
 have HB := qgc (Below.refl w.heap.size w)
 have H : ((impl_IsPlace.f a0_0 a0_1).bind fun t126 => (if t126 = true then ((impl_IsHeading.f a1).bind fun t127 => (if t127 = true then ((impl_IsMeasure.f a2).bind fun t128 => (impl_StepFrom.j0 k a1 a2 (!t128) a0_0 a0_1)) else (impl_StepFrom.j0 k a1 a2 true a0_0 a0_1))) else (impl_StepFrom.j0 k a1 a2 true a0_0 a0_1))) = some (r1, r2, r3) := h
 clear h
 have HC4 := qgc H
 clear H
 go_enter Try.func73, Try.ntmps73
 go_upto_region 1 with (first | ((with_reducible refine quc (N := 3) rfl ?_); refine qhc ?hg (N := 3) ?hd (cs := #[.int .i64 a0_0, .int .i64 a0_1]) (t := 26) ?hr ?_; (case hd => rfl); (case hg => rfl); (case hr => first | (go_simp; done) | (go_simp; rfl)); intro gb124 hg w5 hbox hb; have n0_ := qgc (q9c (by repeat (first | (with_reducible first | exact HB.out | apply q1c | apply q2c | apply q3c) | exact HB.out)) hb); have n1_ := qgc (hbox); have n2_ := qgc ((by rw [hg]; exact (qac (by repeat (first | (with_reducible first | exact HB.out | apply q1c | apply q2c | apply q3c) | exact HB.out))) : w.heap.size ≤ gb124)); have n3_ := qgc ((by rw [hg]; exact (qac (by repeat (first | (with_reducible first | exact HB.out | apply q1c | apply q2c | apply q3c) | exact HB.out))) : w.heap.size ≤ gb124)); clear HB; have HB := n0_; have BK124 := n1_; have GW124 := n2_; have GE124 := n3_; clear n0_ n1_ n2_ n3_; clear hb hbox hg) | ((with_reducible refine quc (N := 6) rfl ?_); refine qhc ?hg (N := 6) ?hd (cs := #[.int .i64 0, .int .i64 0]) (t := 26) ?hr ?_; (case hd => rfl); (case hg => rfl); (case hr => first | (go_simp; done) | (go_simp; rfl)); intro gb125 hg w6 hbox hb; have n0_ := qgc (q8c (g := gb124) (o := .cells #[.int .i64 a0_0, .int .i64 a0_1] 26 (0, 0)) (by (with_reducible repeat (first | refine q5c ?_ _ | refine q6c ?_ | refine q7c ?_ _)); exact BK124.out) hb); have n1_ := qgc (q9c (by repeat (first | (with_reducible first | exact HB.out | apply q1c | apply q2c | apply q3c | refine q4c ?_ GE124.out) | exact HB.out)) hb); have n2_ := qgc (hbox); have n3_ := qgc ((by rw [hg]; exact (qac (by repeat (first | (with_reducible first | exact HB.out | apply q1c | apply q2c | apply q3c | refine q4c ?_ GE124.out) | exact HB.out))) : w.heap.size ≤ gb125)); have n4_ := qgc ((by rw [hg]; exact (qac (by repeat (first | (with_reducible first | exact HB.out | apply q1c | apply q2c | apply q3c | refine q4c ?_ GE124.out) | exact HB.out))) : w.heap.size ≤ gb125)); have n5_ := qgc ((by rw [hg]; exact qvc (qdc (g := gb124) (o := .cells #[.int .i64 a0_0, .int .i64 a0_1] 26 (0, 0)) (by (with_reducible repeat (first | refine q5c ?_ _ | refine q6c ?_ | refine q7c ?_ _)); exact BK124.out)) : gb124 ≠ gb125)); have n6_ := qgc ((by rw [hg]; exact qwc (qdc (g := gb124) (o := .cells #[.int .i64 a0_0, .int .i64 a0_1] 26 (0, 0)) (by (with_reducible repeat (first | refine q5c ?_ _ | refine q6c ?_ | refine q7c ?_ _)); exact BK124.out)) : gb125 ≠ gb124)); clear BK124; clear HB; have BK124 := n0_; have HB := n1_; have BK125 := n2_; have GW125 := n3_; have GE125 := n4_; have NB124_125 := n5_; have NB125_124 := n6_; clear n0_ n1_ n2_ n3_ n4_ n5_ n6_; clear hb hbox hg))
 (try simp only [Act.put, p1c, p2c, p3c])
 go_cut [21] (fun v21 wc => ∃ (kq : Nat) (x21_3 : Bool), v21 = .bool x21_3 ∧ Aside0 (impl_StepFrom.j0 kq a1 a2 x21_3 a0_0 a0_1 = some (r1, r2, r3)) ∧ Aside0 (kq ≤ k) ∧ Aside0 (wc.heap[gb124]? = some (.cells #[.int .i64 a0_0, .int .i64 a0_1] 26 (0, 0))) ∧ Aside0 (wc.heap[gb125]? = some (.cells #[.int .i64 0, .int .i64 0] 26 (0, 0))) ∧ Aside0 (Below w.heap.size w wc))
 case first =>
  have H := HC4.out
  clear HC4
  replace H := Option.bind_eq_some_iff.mp H
  obtain ⟨t126, A70, H⟩ := H
  replace H : (if t126 = true then ((impl_IsHeading.f a1).bind fun t127 => (if t127 = true then ((impl_IsMeasure.f a2).bind fun t128 => (impl_StepFrom.j0 k a1 a2 (!t128) a0_0 a0_1)) else (impl_StepFrom.j0 k a1 a2 true a0_0 a0_1))) else (impl_StepFrom.j0 k a1 a2 true a0_0 a0_1)) = some (r1, r2, r3) := H
  have A7 := qgc A70
  clear A70
  by_cases c8 : t126 = true
  ·subst c8
   have H1 : ((impl_IsHeading.f a1).bind fun t127 => (if t127 = true then ((impl_IsMeasure.f a2).bind fun t128 => (impl_StepFrom.j0 k a1 a2 (!t128) a0_0 a0_1)) else (impl_StepFrom.j0 k a1 a2 true a0_0 a0_1))) = some (r1, r2, r3) := by rw [if_pos rfl] at H; exact H
   clear H
   have H := H1
   clear H1
   replace H := Option.bind_eq_some_iff.mp H
   obtain ⟨t127, A90, H⟩ := H
   replace H : (if t127 = true then ((impl_IsMeasure.f a2).bind fun t128 => (impl_StepFrom.j0 k a1 a2 (!t128) a0_0 a0_1)) else (impl_StepFrom.j0 k a1 a2 true a0_0 a0_1)) = some (r1, r2, r3) := H
   have A9 := qgc A90
   clear A90
   by_cases c10 : t127 = true
   ·subst c10
    have H1 : ((impl_IsMeasure.f a2).bind fun t128 => (impl_StepFrom.j0 k a1 a2 (!t128) a0_0 a0_1)) = some (r1, r2, r3) := by rw [if_pos rfl] at H; exact H
    clear H
    have H := H1
    clear H1
    replace H := Option.bind_eq_some_iff.mp H
    obtain ⟨t128, A110, H⟩ := H
    replace H : (impl_StepFrom.j0 k a1 a2 (!t128) a0_0 a0_1) = some (r1, r2, r3) := H
    have A11 := qgc A110
    clear A110
    have H' := qgc H
    clear H
    have hnb12 := NB124_125.out
    have hnc12 := NB125_124.out
    have hcz13_0 : w6.cell? ⟨gb124, 0, none⟩ = some (.int .i64 a0_0) := (qcc BK124.out 0).trans rfl
    have hcz13_1 : w6.cell? ⟨gb124, 1, none⟩ = some (.int .i64 a0_1) := (qcc BK124.out 1).trans rfl
    have hfz13_0 := qbc BK124.out 0
    have hfz13_1 := qbc BK124.out 1
    go_wp2_with (first | ((with_reducible refine qtc (f := 69) rfl ?_); refine goesL_ (some 10) rfl rfl Try.func69 (by kernel_rfl) rfl #[.agg #[.int .i64 a0_0, .int .i64 a0_1]] rfl (by (try simp only [List.map_toArray, List.map_cons, List.map_nil]); first | done | rfl | (simp only [List.length_drop, List.length_take]; rfl)) ?_; (with_reducible refine (impl_IsPlace.calls a0_0 a0_1 true _ A7.out).mono ?_); rintro e w14 ⟨rfl, hb⟩; refine ⟨_, rfl, ?_⟩; have n0_ := qgc (q8c (g := gb124) (o := .cells #[.int .i64 a0_0, .int .i64 a0_1] 26 (0, 0)) (by (with_reducible repeat (first | refine q5c ?_ _ | refine q6c ?_ | refine q7c ?_ _)); exact BK124.out) hb); have n1_ := qgc (q8c (g := gb125) (o := .cells #[.int .i64 0, .int .i64 0] 26 (0, 0)) (by (with_reducible repeat (first | refine q5c ?_ _ | refine q6c ?_ | refine q7c ?_ _)); exact BK125.out) hb); have n2_ := qgc (q9c (by repeat (first | (with_reducible first | exact HB.out | apply q1c | apply q2c | apply q3c | refine q4c ?_ GE124.out | refine q4c ?_ GE125.out) | exact HB.out)) hb); clear BK124; clear BK125; clear HB; have BK124 := n0_; have BK125 := n1_; have HB := n2_; clear n0_ n1_ n2_; (try clear hb); (try clear hb2); (try clear hk); (try clear hi)) | (go_at_call 91; (with_reducible refine (impl_IsHeading.calls a1 true _ A9.out).mono ?_); rintro e w' ⟨rfl, ⟨nd, rfl⟩⟩) | (go_at_call 98; (with_reducible refine (impl_IsMeasure.calls a2 t128 _ A11.out).mono ?_); rintro e w' ⟨rfl, ⟨nd, rfl⟩⟩))
    go_meet
    case rel => exact ⟨_, (!t128), (by first | rfl | (simp; done) | (simp [*]; done)), H', ⟨by first | omega | exact Nat.le_refl _⟩, ⟨by (with_reducible repeat (first | refine q5c ?_ _ | refine q6c ?_ | refine q7c ?_ _)); exact BK124.out⟩, ⟨by (with_reducible repeat (first | refine q5c ?_ _ | refine q6c ?_ | refine q7c ?_ _)); exact BK125.out⟩, ⟨by repeat (first | (with_reducible first | exact HB.out | apply q1c | apply q2c | apply q3c | refine q4c ?_ GE124.out | refine q4c ?_ GE125.out) | exact HB.out)⟩⟩
   ·replace c10 := Bool.eq_false_iff.mpr c10
    subst c10
    have H1 : (impl_StepFrom.j0 k a1 a2 true a0_0 a0_1) = some (r1, r2, r3) := by rw [if_neg (show ¬ (false = true) by decide)] at H; exact H
    clear H
    have H := H1
    clear H1
    have H' := qgc H
    clear H
    have hnb15 := NB124_125.out
    have hnc15 := NB125_124.out
    have hcz16_0 : w6.cell? ⟨gb124, 0, none⟩ = some (.int .i64 a0_0) := (qcc BK124.out 0).trans rfl
    have hcz16_1 : w6.cell? ⟨gb124, 1, none⟩ = some (.int .i64 a0_1) := (qcc BK124.out 1).trans rfl
    have hfz16_0 := qbc BK124.out 0
    have hfz16_1 := qbc BK124.out 1
    go_wp2_with (first | ((with_reducible refine qtc (f := 69) rfl ?_); refine goesL_ (some 10) rfl rfl Try.func69 (by kernel_rfl) rfl #[.agg #[.int .i64 a0_0, .int .i64 a0_1]] rfl (by (try simp only [List.map_toArray, List.map_cons, List.map_nil]); first | done | rfl | (simp only [List.length_drop, List.length_take]; rfl)) ?_; (with_reducible refine (impl_IsPlace.calls a0_0 a0_1 true _ A7.out).mono ?_); rintro e w17 ⟨rfl, hb⟩; refine ⟨_, rfl, ?_⟩; have n0_ := qgc (q8c (g := gb124) (o := .cells #[.int .i64 a0_0, .int .i64 a0_1] 26 (0, 0)) (by (with_reducible repeat (first | refine q5c ?_ _ | refine q6c ?_ | refine q7c ?_ _)); exact BK124.out) hb); have n1_ := qgc (q8c (g := gb125) (o := .cells #[.int .i64 0, .int .i64 0] 26 (0, 0)) (by (with_reducible repeat (first | refine q5c ?_ _ | refine q6c ?_ | refine q7c ?_ _)); exact BK125.out) hb); have n2_ := qgc (q9c (by repeat (first | (with_reducible first | exact HB.out | apply q1c | apply q2c | apply q3c | refine q4c ?_ GE124.out | refine q4c ?_ GE125.out) | exact HB.out)) hb); clear BK124; clear BK125; clear HB; have BK124 := n0_; have BK125 := n1_; have HB := n2_; clear n0_ n1_ n2_; (try clear hb); (try clear hb2); (try clear hk); (try clear hi)) | (go_at_call 91; (with_reducible refine (impl_IsHeading.calls a1 false _ A9.out).mono ?_); rintro e w' ⟨rfl, ⟨nd, rfl⟩⟩))
    go_meet
    case rel => exact ⟨_, (true), (by first | rfl | (simp; done) | (simp [*]; done)), H', ⟨by first | omega | exact Nat.le_refl _⟩, ⟨by (with_reducible repeat (first | refine q5c ?_ _ | refine q6c ?_ | refine q7c ?_ _)); exact BK124.out⟩, ⟨by (with_reducible repeat (first | refine q5c ?_ _ | refine q6c ?_ | refine q7c ?_ _)); exact BK125.out⟩, ⟨by repeat (first | (with_reducible first | exact HB.out | apply q1c | apply q2c | apply q3c | refine q4c ?_ GE124.out | refine q4c ?_ GE125.out) | exact HB.out)⟩⟩
  ·replace c8 := Bool.eq_false_iff.mpr c8
   subst c8
   have H1 : (impl_StepFrom.j0 k a1 a2 true a0_0 a0_1) = some (r1, r2, r3) := by rw [if_neg (show ¬ (false = true) by decide)] at H; exact H
   clear H
   have H := H1
   clear H1
   have H' := qgc H
   clear H
   have hnb18 := NB124_125.out
   have hnc18 := NB125_124.out
   have hcz19_0 : w6.cell? ⟨gb124, 0, none⟩ = some (.int .i64 a0_0) := (qcc BK124.out 0).trans rfl
   have hcz19_1 : w6.cell? ⟨gb124, 1, none⟩ = some (.int .i64 a0_1) := (qcc BK124.out 1).trans rfl
   have hfz19_0 := qbc BK124.out 0
   have hfz19_1 := qbc BK124.out 1
   go_wp2_with (first | ((with_reducible refine qtc (f := 69) rfl ?_); refine goesL_ (some 10) rfl rfl Try.func69 (by kernel_rfl) rfl #[.agg #[.int .i64 a0_0, .int .i64 a0_1]] rfl (by (try simp only [List.map_toArray, List.map_cons, List.map_nil]); first | done | rfl | (simp only [List.length_drop, List.length_take]; rfl)) ?_; (with_reducible refine (impl_IsPlace.calls a0_0 a0_1 false _ A7.out).mono ?_); rintro e w20 ⟨rfl, hb⟩; refine ⟨_, rfl, ?_⟩; have n0_ := qgc (q8c (g := gb124) (o := .cells #[.int .i64 a0_0, .int .i64 a0_1] 26 (0, 0)) (by (with_reducible repeat (first | refine q5c ?_ _ | refine q6c ?_ | refine q7c ?_ _)); exact BK124.out) hb); have n1_ := qgc (q8c (g := gb125) (o := .cells #[.int .i64 0, .int .i64 0] 26 (0, 0)) (by (with_reducible repeat (first | refine q5c ?_ _ | refine q6c ?_ | refine q7c ?_ _)); exact BK125.out) hb); have n2_ := qgc (q9c (by repeat (first | (with_reducible first | exact HB.out | apply q1c | apply q2c | apply q3c | refine q4c ?_ GE124.out | refine q4c ?_ GE125.out) | exact HB.out)) hb); clear BK124; clear BK125; clear HB; have BK124 := n0_; have BK125 := n1_; have HB := n2_; clear n0_ n1_ n2_; (try clear hb); (try clear hb2); (try clear hk); (try clear hi)))
   go_meet
   case rel => exact ⟨_, (true), (by first | rfl | (simp; done) | (simp [*]; done)), H', ⟨by first | omega | exact Nat.le_refl _⟩, ⟨by (with_reducible repeat (first | refine q5c ?_ _ | refine q6c ?_ | refine q7c ?_ _)); exact BK124.out⟩, ⟨by (with_reducible repeat (first | refine q5c ?_ _ | refine q6c ?_ | refine q7c ?_ _)); exact BK125.out⟩, ⟨by repeat (first | (with_reducible first | exact HB.out | apply q1c | apply q2c | apply q3c | refine q4c ?_ GE124.out | refine q4c ?_ GE125.out) | exact HB.out)⟩⟩
 case rest =>
  clear HC4
  try clear c1
  try clear p2
  try clear c6
  try clear c7
  try clear c8
  try clear c10
  try clear c12
  try clear c15
  try clear c18
  try clear hcz13_0
  try clear hcz13_1
  try clear hcz16_0
  try clear hcz16_1
  try clear hcz19_0
  try clear hcz19_1
  try clear hfz13_0
  try clear hfz13_1
  try clear hfz16_0
  try clear hfz16_1
  try clear hfz19_0
  try clear hfz19_1
  obtain ⟨kq, x21_3, rfl, HA, HJ3, BK124, BK125, HB⟩ := hcut
  cases kq with
  | zero => exact absurd HA.out (by simp [impl_StepFrom.j0])
  | succ kj3 =>
   have H := HA.out
   clear HA
   simp only [impl_StepFrom.j0] at H
   by_cases c21 : x21_3 = true
   ·subst c21
    have H1 : (some (0, 0, false)) = some (r1, r2, r3) := by rw [if_pos rfl] at H; exact H
    clear H
    have H := H1
    clear H1
    simp only [Option.some.injEq, Prod.mk.injEq] at H
    obtain ⟨rfl, rfl, rfl⟩ := H
    have hnb22 := NB125_124.out
    have hnc22 := NB124_125.out
    have hcz23_0 : wc.cell? ⟨gb125, 0, none⟩ = some (.int .i64 0) := (qcc BK125.out 0).trans rfl
    have hcz23_1 : wc.cell? ⟨gb125, 1, none⟩ = some (.int .i64 0) := (qcc BK125.out 1).trans rfl
    have hfz23_0 := qbc BK125.out 0
    have hfz23_1 := qbc BK125.out 1
    go_wp2
    refine bodyPost_ret (results_ct rfl _ _ gb125 26 #[.int .i64 0, .int .i64 0] (0, 0) _ rfl (by (with_reducible repeat (first | refine q5c ?_ _ | refine q6c ?_ | refine q7c ?_ _)); refine qfc (cs := #[.int .i64 0, .int .i64 0]) ?_ 1 _ rfl; (with_reducible repeat (first | refine q5c ?_ _ | refine q6c ?_ | refine q7c ?_ _)); refine qfc (cs := #[.int .i64 0, .int .i64 0]) ?_ 0 _ rfl; (with_reducible repeat (first | refine q5c ?_ _ | refine q6c ?_ | refine q7c ?_ _)); exact BK125.out) Try.underlying26 rfl (by kernel_rfl)) rfl ?_
    exact ⟨by first | rfl | (simp [errW_none, errW_some] <;> rfl) | (simp [*, errW_none, errW_some] <;> rfl), by repeat (first | (with_reducible first | exact HB.out | apply q1c | apply q2c | apply q3c | refine q4c ?_ GE124.out | refine q4c ?_ GE125.out) | exact HB.out)⟩
   ·replace c21 := Bool.eq_false_iff.mpr c21
    subst c21
    have H1 : ((impl_turned.f kj3 a2 0 a1).bind fun bt129 => ((impl_checked.f (wrap64 (a0_0 + bt129.1)) (wrap64 (a0_1 + bt129.2))).bind fun bt132 => (some (bt132.1, bt132.2.1, bt132.2.2)))) = some (r1, r2, r3) := by rw [if_neg (show ¬ (false = true) by decide)] at H; exact H
    clear H
    have H := H1
    clear H1
    replace H := Option.bind_eq_some_iff.mp H
    obtain ⟨⟨t129, t130⟩, A240, H⟩ := H
    replace H : ((impl_checked.f (wrap64 (a0_0 + t129)) (wrap64 (a0_1 + t130))).bind fun bt132 => (some (bt132.1, bt132.2.1, bt132.2.2))) = some (r1, r2, r3) := H
    have A24 := qgc A240
    clear A240
    replace H := Option.bind_eq_some_iff.mp H
    obtain ⟨⟨t132, t133, t134⟩, A250, H⟩ := H
    replace H : (some (t132, t133, t134)) = some (r1, r2, r3) := H
    have A25 := qgc A250
    clear A250
    simp only [Option.some.injEq, Prod.mk.injEq] at H
    obtain ⟨rfl, rfl, rfl⟩ := H
    go_wp2_with (first | ((with_reducible refine qtc (f := 64) rfl ?_); refine goesL_ (some 26) rfl rfl Try.func64 (by kernel_rfl) rfl #[.agg #[.int .i64 a2, .int .i64 0], .int .i64 a1] rfl (by (try simp only [List.map_toArray, List.map_cons, List.map_nil]); first | done | rfl | (simp only [List.length_drop, List.length_take]; rfl)) ?_; (with_reducible refine (impl_turned.calls kj3 a2 0 a1 t129 t130 _ A24.out).mono ?_); rintro e w26 ⟨rfl, hb⟩; refine ⟨_, rfl, ?_⟩; have n0_ := qgc (q8c (g := gb124) (o := .cells #[.int .i64 a0_0, .int .i64 a0_1] 26 (0, 0)) (by (with_reducible repeat (first | refine q5c ?_ _ | refine q6c ?_ | refine q7c ?_ _)); exact BK124.out) hb); have n1_ := qgc (q8c (g := gb125) (o := .cells #[.int .i64 0, .int .i64 0] 26 (0, 0)) (by (with_reducible repeat (first | refine q5c ?_ _ | refine q6c ?_ | refine q7c ?_ _)); exact BK125.out) hb); have n2_ := qgc (q9c (by repeat (first | (with_reducible first | exact HB.out | apply q1c | apply q2c | apply q3c | refine q4c ?_ GE124.out | refine q4c ?_ GE125.out) | exact HB.out)) hb); clear BK124; clear BK125; clear HB; have BK124 := n0_; have BK125 := n1_; have HB := n2_; clear n0_ n1_ n2_; (try clear hb); (try clear hb2); (try clear hk); (try clear hi)) | ((with_reducible refine quc (N := 8) rfl ?_); refine qhc ?hg (N := 8) ?hd (cs := #[.int .i64 0, .int .i64 0]) (t := 26) ?hr ?_; (case hd => rfl); (case hg => rfl); (case hr => first | (go_simp; done) | (go_simp; rfl)); intro gb131 hg w27 hbox hb; have n0_ := qgc (q8c (g := gb124) (o := .cells #[.int .i64 a0_0, .int .i64 a0_1] 26 (0, 0)) (by (with_reducible repeat (first | refine q5c ?_ _ | refine q6c ?_ | refine q7c ?_ _)); exact BK124.out) hb); have n1_ := qgc (q8c (g := gb125) (o := .cells #[.int .i64 0, .int .i64 0] 26 (0, 0)) (by (with_reducible repeat (first | refine q5c ?_ _ | refine q6c ?_ | refine q7c ?_ _)); exact BK125.out) hb); have n2_ := qgc (q9c (by repeat (first | (with_reducible first | exact HB.out | apply q1c | apply q2c | apply q3c | refine q4c ?_ GE124.out | refine q4c ?_ GE125.out) | exact HB.out)) hb); have n3_ := qgc (hbox); have n4_ := qgc ((by rw [hg]; exact (qac (by repeat (first | (with_reducible first | exact HB.out | apply q1c | apply q2c | apply q3c | refine q4c ?_ GE124.out | refine q4c ?_ GE125.out) | exact HB.out))) : w.heap.size ≤ gb131)); have n5_ := qgc ((by rw [hg]; exact (qac (by repeat (first | (with_reducible first | exact HB.out | apply q1c | apply q2c | apply q3c | refine q4c ?_ GE124.out | refine q4c ?_ GE125.out) | exact HB.out))) : w.heap.size ≤ gb131)); have n6_ := qgc ((by rw [hg]; exact qvc (qdc (g := gb124) (o := .cells #[.int .i64 a0_0, .int .i64 a0_1] 26 (0, 0)) (by (with_reducible repeat (first | refine q5c ?_ _ | refine q6c ?_ | refine q7c ?_ _)); exact BK124.out)) : gb124 ≠ gb131)); have n7_ := qgc ((by rw [hg]; exact qwc (qdc (g := gb124) (o := .cells #[.int .i64 a0_0, .int .i64 a0_1] 26 (0, 0)) (by (with_reducible repeat (first | refine q5c ?_ _ | refine q6c ?_ | refine q7c ?_ _)); exact BK124.out)) : gb131 ≠ gb124)); have n8_ := qgc ((by rw [hg]; exact qvc (qdc (g := gb125) (o := .cells #[.int .i64 0, .int .i64 0] 26 (0, 0)) (by (with_reducible repeat (first | refine q5c ?_ _ | refine q6c ?_ | refine q7c ?_ _)); exact BK125.out)) : gb125 ≠ gb131)); have n9_ := qgc ((by rw [hg]; exact qwc (qdc (g := gb125) (o := .cells #[.int .i64 0, .int .i64 0] 26 (0, 0)) (by (with_reducible repeat (first | refine q5c ?_ _ | refine q6c ?_ | refine q7c ?_ _)); exact BK125.out)) : gb131 ≠ gb125)); clear BK124; clear BK125; clear HB; have BK124 := n0_; have BK125 := n1_; have HB := n2_; have BK131 := n3_; have GW131 := n4_; have GE131 := n5_; have NB124_131 := n6_; have NB131_124 := n7_; have NB125_131 := n8_; have NB131_125 := n9_; clear n0_ n1_ n2_ n3_ n4_ n5_ n6_ n7_ n8_ n9_; clear hb hbox hg; have hnb28 := NB131_124.out; have hnc28 := NB124_131.out; have hnb29 := NB131_125.out; have hnc29 := NB125_131.out; have hcz30_0 : w27.cell? ⟨gb131, 0, none⟩ = some (.int .i64 0) := (qcc BK131.out 0).trans rfl; have hcz30_1 : w27.cell? ⟨gb131, 1, none⟩ = some (.int .i64 0) := (qcc BK131.out 1).trans rfl; have hfz30_0 := qbc BK131.out 0; have hfz30_1 := qbc BK131.out 1; have hnb31 := NB124_125.out; have hnc31 := NB125_124.out; have hcz32_0 : w27.cell? ⟨gb124, 0, none⟩ = some (.int .i64 a0_0) := (qcc BK124.out 0).trans rfl; have hcz32_1 : w27.cell? ⟨gb124, 1, none⟩ = some (.int .i64 a0_1) := (qcc BK124.out 1).trans rfl; have hfz32_0 := qbc BK124.out 0; have hfz32_1 := qbc BK124.out 1) | ((with_reducible refine qtc (f := 99) rfl ?_); refine goesL_ (some 38) rfl rfl Try.func99 (by kernel_rfl) rfl #[.agg #[.int .i64 (wrap64 (a0_0 + t129)), .int .i64 (wrap64 (a0_1 + t130))]] rfl (by (try simp only [List.map_toArray, List.map_cons, List.map_nil]); first | done | rfl | (simp only [List.length_drop, List.length_take]; rfl)) ?_; (with_reducible refine (impl_checked.calls (wrap64 (a0_0 + t129)) (wrap64 (a0_1 + t130)) t132 t133 t134 _ A25.out).mono ?_); rintro e w33 ⟨rfl, hb⟩; refine ⟨_, rfl, ?_⟩; have n0_ := qgc (q8c (g := gb124) (o := .cells #[.int .i64 a0_0, .int .i64 a0_1] 26 (0, 0)) (by (with_reducible repeat (first | refine q5c ?_ _ | refine q6c ?_ | refine q7c ?_ _)); refine qec ?_ NB124_131.out _; (with_reducible repeat (first | refine q5c ?_ _ | refine q6c ?_ | refine q7c ?_ _)); refine qec ?_ NB124_131.out _; (with_reducible repeat (first | refine q5c ?_ _ | refine q6c ?_ | refine q7c ?_ _)); exact BK124.out) hb); have n1_ := qgc (q8c (g := gb125) (o := .cells #[.int .i64 0, .int .i64 0] 26 (0, 0)) (by (with_reducible repeat (first | refine q5c ?_ _ | refine q6c ?_ | refine q7c ?_ _)); refine qec ?_ NB125_131.out _; (with_reducible repeat (first | refine q5c ?_ _ | refine q6c ?_ | refine q7c ?_ _)); refine qec ?_ NB125_131.out _; (with_reducible repeat (first | refine q5c ?_ _ | refine q6c ?_ | refine q7c ?_ _)); exact BK125.out) hb); have n2_ := qgc (q8c (g := gb131) (o := .cells #[.int .i64 t129, .int .i64 t130] 26 (0, 0)) (by (with_reducible repeat (first | refine q5c ?_ _ | refine q6c ?_ | refine q7c ?_ _)); refine qfc (cs := #[.int .i64 t129, .int .i64 0]) ?_ 1 _ rfl; (with_reducible repeat (first | refine q5c ?_ _ | refine q6c ?_ | refine q7c ?_ _)); refine qfc (cs := #[.int .i64 0, .int .i64 0]) ?_ 0 _ rfl; (with_reducible repeat (first | refine q5c ?_ _ | refine q6c ?_ | refine q7c ?_ _)); exact BK131.out) hb); have n3_ := qgc (q9c (by repeat (first | (with_reducible first | exact HB.out | apply q1c | apply q2c | apply q3c | refine q4c ?_ GE124.out | refine q4c ?_ GE125.out | refine q4c ?_ GE131.out) | exact HB.out)) hb); clear BK124; clear BK125; clear BK131; clear HB; have BK124 := n0_; have BK125 := n1_; have BK131 := n2_; have HB := n3_; clear n0_ n1_ n2_ n3_; (try clear hb); (try clear hb2); (try clear hk); (try clear hi); have hcz34_0 : w33.cell? ⟨gb125, 0, none⟩ = some (.int .i64 0) := (qcc BK125.out 0).trans rfl; have hcz34_1 : w33.cell? ⟨gb125, 1, none⟩ = some (.int .i64 0) := (qcc BK125.out 1).trans rfl; have hfz34_0 := qbc BK125.out 0; have hfz34_1 := qbc BK125.out 1))
    refine bodyPost_ret (results_ct rfl _ _ gb125 26 #[.int .i64 t132, .int .i64 t133] (0, 0) _ rfl (by (with_reducible repeat (first | refine q5c ?_ _ | refine q6c ?_ | refine q7c ?_ _)); refine qfc (cs := #[.int .i64 t132, .int .i64 0]) ?_ 1 _ rfl; (with_reducible repeat (first | refine q5c ?_ _ | refine q6c ?_ | refine q7c ?_ _)); refine qfc (cs := #[.int .i64 0, .int .i64 0]) ?_ 0 _ rfl; (with_reducible repeat (first | refine q5c ?_ _ | refine q6c ?_ | refine q7c ?_ _)); exact BK125.out) Try.underlying26 rfl (by kernel_rfl)) rfl ?_
    exact ⟨by first | rfl | (simp [errW_none, errW_some] <;> rfl) | (simp [*, errW_none, errW_some] <;> rfl), by repeat (first | (with_reducible first | exact HB.out | apply q1c | apply q2c | apply q3c | refine q4c ?_ GE124.out | refine q4c ?_ GE125.out | refine q4c ?_ GE131.out) | exact HB.out)⟩
/-! ### impl_PlaceAt: function 26 -/
def impl_PlaceAt.f (k : Nat) (a0_0 : Int) (a0_1 : Int) (a0_2 : Int) (a0_3 : Int) (a0_4 : Int) (a1 : Int) : Option (Int × Int × Bool) := (impl_isInAir.f a0_0 a0_1 a0_2 a0_3 a0_4 a1).bind fun t137 => (if t137 = true then ((impl_StepFrom.f k a0_0 a0_1 a0_2 (wrap64 (a1 * a0_3))).bind fun bt138 => (some (bt138.1, bt138.2.1, bt138.2.2))) else (some (0, 0, false)))
theorem impl_PlaceAt.mono : ∀ a0 a1 a2 a3 a4 a5 k, LeO (impl_PlaceAt.f k a0 a1 a2 a3 a4 a5) (impl_PlaceAt.f (k + 1) a0 a1 a2 a3 a4 a5) := by
  intro a0 a1 a2 a3 a4 a5 k
  unfold impl_PlaceAt.f
  repeat' first
      | (with_reducible exact impl_StepFrom.mono _ _ _ _ _)
      | (with_reducible exact LeO.refl _)
      | (with_reducible exact LeO.none _)
      | (with_reducible refine LeO.ite ?_ ?_)
      | (with_reducible refine LeO.bind ?_ (fun _ => ?_))
      | exact impl_StepFrom.mono _ _ _ _ _
      | exact LeO.none _
      | refine LeO.ite ?_ ?_
      | refine LeO.bind ?_ (fun _ => ?_)
set_option maxHeartbeats 8000000 in
set_option maxRecDepth 100000 in
theorem impl_PlaceAt.calls (k : Nat) (a0_0 : Int) (a0_1 : Int) (a0_2 : Int) (a0_3 : Int) (a0_4 : Int) (a1 : Int) (r1 : Int) (r2 : Int) (r3 : Bool) (w : World) (h : impl_PlaceAt.f k a0_0 a0_1 a0_2 a0_3 a0_4 a1 = some (r1, r2, r3)) :
 Calls Try.prog 26 #[.agg #[.int .i64 a0_0, .int .i64 a0_1, .int .i64 a0_2, .int .i64 a0_3, .int .i64 a0_4], .int .i64 a1] w fun e w' => e = .returned (.tuple #[.agg #[.int .i64 r1, .int .i64 r2], .bool r3]) ∧ Below w.heap.size w w' := by
 have hu28 := Try.underlying28
 have hu26 := Try.underlying26
 have HB := qgc (Below.refl w.heap.size w)
 have H : ((impl_isInAir.f a0_0 a0_1 a0_2 a0_3 a0_4 a1).bind fun t137 => (if t137 = true then ((impl_StepFrom.f k a0_0 a0_1 a0_2 (wrap64 (a1 * a0_3))).bind fun bt138 => (some (bt138.1, bt138.2.1, bt138.2.2))) else (some (0, 0, false)))) = some (r1, r2, r3) := h
 clear h
 replace H := Option.bind_eq_some_iff.mp H
 obtain ⟨t137, A30, H⟩ := H
 replace H : (if t137 = true then ((impl_StepFrom.f k a0_0 a0_1 a0_2 (wrap64 (a1 * a0_3))).bind fun bt138 => (some (bt138.1, bt138.2.1, bt138.2.2))) else (some (0, 0, false))) = some (r1, r2, r3) := H
 have A3 := qgc A30
 clear A30
 by_cases c4 : t137 = true
 ·subst c4
  have H1 : ((impl_StepFrom.f k a0_0 a0_1 a0_2 (wrap64 (a1 * a0_3))).bind fun bt138 => (some (bt138.1, bt138.2.1, bt138.2.2))) = some (r1, r2, r3) := by rw [if_pos rfl] at H; exact H
  clear H
  have H := H1
  clear H1
  replace H := Option.bind_eq_some_iff.mp H
  obtain ⟨⟨t138, t139, t140⟩, A50, H⟩ := H
  replace H : (some (t138, t139, t140)) = some (r1, r2, r3) := H
  have A5 := qgc A50
  clear A50
  simp only [Option.some.injEq, Prod.mk.injEq] at H
  obtain ⟨rfl, rfl, rfl⟩ := H
  go_enter Try.func26, Try.ntmps26
  go_wp2_with (first | ((with_reducible refine quc (N := 2) rfl ?_); refine qhc ?hg (N := 2) ?hd (cs := #[.int .i64 a0_0, .int .i64 a0_1, .int .i64 a0_2, .int .i64 a0_3, .int .i64 a0_4]) (t := 28) ?hr ?_; (case hd => rfl); (case hg => rfl); (case hr => first | (go_simp; done) | (go_simp; rfl)); intro gb135 hg w6 hbox hb; have n0_ := qgc (q9c (by repeat (first | (with_reducible first | exact HB.out | apply q1c | apply q2c | apply q3c) | exact HB.out)) hb); have n1_ := qgc (hbox); have n2_ := qgc ((by rw [hg]; exact (qac (by repeat (first | (with_reducible first | exact HB.out | apply q1c | apply q2c | apply q3c) | exact HB.out))) : w.heap.size ≤ gb135)); have n3_ := qgc ((by rw [hg]; exact (qac (by repeat (first | (with_reducible first | exact HB.out | apply q1c | apply q2c | apply q3c) | exact HB.out))) : w.heap.size ≤ gb135)); clear HB; have HB := n0_; have BK135 := n1_; have GW135 := n2_; have GE135 := n3_; clear n0_ n1_ n2_ n3_; clear hb hbox hg) | ((with_reducible refine quc (N := 4) rfl ?_); refine qhc ?hg (N := 4) ?hd (cs := #[.int .i64 0, .int .i64 0]) (t := 26) ?hr ?_; (case hd => rfl); (case hg => rfl); (case hr => first | (go_simp; done) | (go_simp; rfl)); intro gb136 hg w7 hbox hb; have n0_ := qgc (q8c (g := gb135) (o := .cells #[.int .i64 a0_0, .int .i64 a0_1, .int .i64 a0_2, .int .i64 a0_3, .int .i64 a0_4] 28 (0, 0)) (by (with_reducible repeat (first | refine q5c ?_ _ | refine q6c ?_ | refine q7c ?_ _)); exact BK135.out) hb); have n1_ := qgc (q9c (by repeat (first | (with_reducible first | exact HB.out | apply q1c | apply q2c | apply q3c | refine q4c ?_ GE135.out) | exact HB.out)) hb); have n2_ := qgc (hbox); have n3_ := qgc ((by rw [hg]; exact (qac (by repeat (first | (with_reducible first | exact HB.out | apply q1c | apply q2c | apply q3c | refine q4c ?_ GE135.out) | exact HB.out))) : w.heap.size ≤ gb136)); have n4_ := qgc ((by rw [hg]; exact (qac (by repeat (first | (with_reducible first | exact HB.out | apply q1c | apply q2c | apply q3c | refine q4c ?_ GE135.out) | exact HB.out))) : w.heap.size ≤ gb136)); have n5_ := qgc ((by rw [hg]; exact qvc (qdc (g := gb135) (o := .cells #[.int .i64 a0_0, .int .i64 a0_1, .int .i64 a0_2, .int .i64 a0_3, .int .i64 a0_4] 28 (0, 0)) (by (with_reducible repeat (first | refine q5c ?_ _ | refine q6c ?_ | refine q7c ?_ _)); exact BK135.out)) : gb135 ≠ gb136)); have n6_ := qgc ((by rw [hg]; exact qwc (qdc (g := gb135) (o := .cells #[.int .i64 a0_0, .int .i64 a0_1, .int .i64 a0_2, .int .i64 a0_3, .int .i64 a0_4] 28 (0, 0)) (by (with_reducible repeat (first | refine q5c ?_ _ | refine q6c ?_ | refine q7c ?_ _)); exact BK135.out)) : gb136 ≠ gb135)); clear BK135; clear HB; have BK135 := n0_; have HB := n1_; have BK136 := n2_; have GW136 := n3_; have GE136 := n4_; have NB135_136 := n5_; have NB136_135 := n6_; clear n0_ n1_ n2_ n3_ n4_ n5_ n6_; clear hb hbox hg; have hnb8 := NB135_136.out; have hnc8 := NB136_135.out; have hcz9_0 : w7.cell? ⟨gb135, 0, none⟩ = some (.int .i64 a0_0) := (qcc BK135.out 0).trans rfl; have hcz9_1 : w7.cell? ⟨gb135, 1, none⟩ = some (.int .i64 a0_1) := (qcc BK135.out 1).trans rfl; have hcz9_2 : w7.cell? ⟨gb135, 2, none⟩ = some (.int .i64 a0_2) := (qcc BK135.out 2).trans rfl; have hcz9_3 : w7.cell? ⟨gb135, 3, none⟩ = some (.int .i64 a0_3) := (qcc BK135.out 3).trans rfl; have hcz9_4 : w7.cell? ⟨gb135, 4, none⟩ = some (.int .i64 a0_4) := (qcc BK135.out 4).trans rfl; have hfz9_0 := qbc BK135.out 0; have hfz9_1 := qbc BK135.out 1; have hfz9_2 := qbc BK135.out 2; have hfz9_3 := qbc BK135.out 3; have hfz9_4 := qbc BK135.out 4) | ((with_reducible refine qtc (f := 72) rfl ?_); refine goesL_ (some 8) rfl rfl Try.func72 (by kernel_rfl) rfl #[.agg #[.int .i64 a0_0, .int .i64 a0_1, .int .i64 a0_2, .int .i64 a0_3, .int .i64 a0_4], .int .i64 a1] rfl (by (try simp only [List.map_toArray, List.map_cons, List.map_nil]); first | done | rfl | (simp only [List.length_drop, List.length_take]; rfl)) ?_; (with_reducible refine (impl_isInAir.calls a0_0 a0_1 a0_2 a0_3 a0_4 a1 true _ A3.out).mono ?_); rintro e w10 ⟨rfl, hb⟩; refine ⟨_, rfl, ?_⟩; have n0_ := qgc (q8c (g := gb135) (o := .cells #[.int .i64 a0_0, .int .i64 a0_1, .int .i64 a0_2, .int .i64 a0_3, .int .i64 a0_4] 28 (0, 0)) (by (with_reducible repeat (first | refine q5c ?_ _ | refine q6c ?_ | refine q7c ?_ _)); exact BK135.out) hb); have n1_ := qgc (q8c (g := gb136) (o := .cells #[.int .i64 0, .int .i64 0] 26 (0, 0)) (by (with_reducible repeat (first | refine q5c ?_ _ | refine q6c ?_ | refine q7c ?_ _)); exact BK136.out) hb); have n2_ := qgc (q9c (by repeat (first | (with_reducible first | exact HB.out | apply q1c | apply q2c | apply q3c | refine q4c ?_ GE135.out | refine q4c ?_ GE136.out) | exact HB.out)) hb); clear BK135; clear BK136; clear HB; have BK135 := n0_; have BK136 := n1_; have HB := n2_; clear n0_ n1_ n2_; (try clear hb); (try clear hb2); (try clear hk); (try clear hi); have hcz11_0 : w10.cell? ⟨gb135, 0, none⟩ = some (.int .i64 a0_0) := (qcc BK135.out 0).trans rfl; have hcz11_1 : w10.cell? ⟨gb135, 1, none⟩ = some (.int .i64 a0_1) := (qcc BK135.out 1).trans rfl; have hcz11_2 : w10.cell? ⟨gb135, 2, none⟩ = some (.int .i64 a0_2) := (qcc BK135.out 2).trans rfl; have hcz11_3 : w10.cell? ⟨gb135, 3, none⟩ = some (.int .i64 a0_3) := (qcc BK135.out 3).trans rfl; have hcz11_4 : w10.cell? ⟨gb135, 4, none⟩ = some (.int .i64 a0_4) := (qcc BK135.out 4).trans rfl; have hfz11_0 := qbc BK135.out 0; have hfz11_1 := qbc BK135.out 1; have hfz11_2 := qbc BK135.out 2; have hfz11_3 := qbc BK135.out 3; have hfz11_4 := qbc BK135.out 4) | ((with_reducible refine qtc (f := 73) rfl ?_); refine goesL_ (some 19) rfl rfl Try.func73 (by kernel_rfl) rfl #[.agg #[.int .i64 a0_0, .int .i64 a0_1], .int .i64 a0_2, .int .i64 (wrap64 (a1 * a0_3))] rfl (by (try simp only [List.map_toArray, List.map_cons, List.map_nil]); first | done | rfl | (simp only [List.length_drop, List.length_take]; rfl)) ?_; (with_reducible refine (impl_StepFrom.calls k a0_0 a0_1 a0_2 (wrap64 (a1 * a0_3)) t138 t139 t140 _ A5.out).mono ?_); rintro e w12 ⟨rfl, hb⟩; refine ⟨_, rfl, ?_⟩; have n0_ := qgc (q8c (g := gb135) (o := .cells #[.int .i64 a0_0, .int .i64 a0_1, .int .i64 a0_2, .int .i64 a0_3, .int .i64 a0_4] 28 (0, 0)) (by (with_reducible repeat (first | refine q5c ?_ _ | refine q6c ?_ | refine q7c ?_ _)); exact BK135.out) hb); have n1_ := qgc (q8c (g := gb136) (o := .cells #[.int .i64 0, .int .i64 0] 26 (0, 0)) (by (with_reducible repeat (first | refine q5c ?_ _ | refine q6c ?_ | refine q7c ?_ _)); exact BK136.out) hb); have n2_ := qgc (q9c (by repeat (first | (with_reducible first | exact HB.out | apply q1c | apply q2c | apply q3c | refine q4c ?_ GE135.out | refine q4c ?_ GE136.out) | exact HB.out)) hb); clear BK135; clear BK136; clear HB; have BK135 := n0_; have BK136 := n1_; have HB := n2_; clear n0_ n1_ n2_; (try clear hb); (try clear hb2); (try clear hk); (try clear hi); have hcz13_0 : w12.cell? ⟨gb136, 0, none⟩ = some (.int .i64 0) := (qcc BK136.out 0).trans rfl; have hcz13_1 : w12.cell? ⟨gb136, 1, none⟩ = some (.int .i64 0) := (qcc BK136.out 1).trans rfl; have hfz13_0 := qbc BK136.out 0; have hfz13_1 := qbc BK136.out 1))
  refine bodyPost_ret (results_ct rfl _ _ gb136 26 #[.int .i64 t138, .int .i64 t139] (0, 0) _ rfl (by (with_reducible repeat (first | refine q5c ?_ _ | refine q6c ?_ | refine q7c ?_ _)); refine qfc (cs := #[.int .i64 t138, .int .i64 0]) ?_ 1 _ rfl; (with_reducible repeat (first | refine q5c ?_ _ | refine q6c ?_ | refine q7c ?_ _)); refine qfc (cs := #[.int .i64 0, .int .i64 0]) ?_ 0 _ rfl; (with_reducible repeat (first | refine q5c ?_ _ | refine q6c ?_ | refine q7c ?_ _)); exact BK136.out) Try.underlying26 rfl (by kernel_rfl)) rfl ?_
  exact ⟨by first | rfl | (simp [errW_none, errW_some] <;> rfl) | (simp [*, errW_none, errW_some] <;> rfl), by repeat (first | (with_reducible first | exact HB.out | apply q1c | apply q2c | apply q3c | refine q4c ?_ GE135.out | refine q4c ?_ GE136.out) | exact HB.out)⟩
 ·replace c4 := Bool.eq_false_iff.mpr c4
  subst c4
  have H1 : (some (0, 0, false)) = some (r1, r2, r3) := by rw [if_neg (show ¬ (false = true) by decide)] at H; exact H
  clear H
  have H := H1
  clear H1
  simp only [Option.some.injEq, Prod.mk.injEq] at H
  obtain ⟨rfl, rfl, rfl⟩ := H
  go_enter Try.func26, Try.ntmps26
  go_wp2_with (first | ((with_reducible refine quc (N := 2) rfl ?_); refine qhc ?hg (N := 2) ?hd (cs := #[.int .i64 a0_0, .int .i64 a0_1, .int .i64 a0_2, .int .i64 a0_3, .int .i64 a0_4]) (t := 28) ?hr ?_; (case hd => rfl); (case hg => rfl); (case hr => first | (go_simp; done) | (go_simp; rfl)); intro gb135 hg w14 hbox hb; have n0_ := qgc (q9c (by repeat (first | (with_reducible first | exact HB.out | apply q1c | apply q2c | apply q3c) | exact HB.out)) hb); have n1_ := qgc (hbox); have n2_ := qgc ((by rw [hg]; exact (qac (by repeat (first | (with_reducible first | exact HB.out | apply q1c | apply q2c | apply q3c) | exact HB.out))) : w.heap.size ≤ gb135)); have n3_ := qgc ((by rw [hg]; exact (qac (by repeat (first | (with_reducible first | exact HB.out | apply q1c | apply q2c | apply q3c) | exact HB.out))) : w.heap.size ≤ gb135)); clear HB; have HB := n0_; have BK135 := n1_; have GW135 := n2_; have GE135 := n3_; clear n0_ n1_ n2_ n3_; clear hb hbox hg) | ((with_reducible refine quc (N := 4) rfl ?_); refine qhc ?hg (N := 4) ?hd (cs := #[.int .i64 0, .int .i64 0]) (t := 26) ?hr ?_; (case hd => rfl); (case hg => rfl); (case hr => first | (go_simp; done) | (go_simp; rfl)); intro gb136 hg w15 hbox hb; have n0_ := qgc (q8c (g := gb135) (o := .cells #[.int .i64 a0_0, .int .i64 a0_1, .int .i64 a0_2, .int .i64 a0_3, .int .i64 a0_4] 28 (0, 0)) (by (with_reducible repeat (first | refine q5c ?_ _ | refine q6c ?_ | refine q7c ?_ _)); exact BK135.out) hb); have n1_ := qgc (q9c (by repeat (first | (with_reducible first | exact HB.out | apply q1c | apply q2c | apply q3c | refine q4c ?_ GE135.out) | exact HB.out)) hb); have n2_ := qgc (hbox); have n3_ := qgc ((by rw [hg]; exact (qac (by repeat (first | (with_reducible first | exact HB.out | apply q1c | apply q2c | apply q3c | refine q4c ?_ GE135.out) | exact HB.out))) : w.heap.size ≤ gb136)); have n4_ := qgc ((by rw [hg]; exact (qac (by repeat (first | (with_reducible first | exact HB.out | apply q1c | apply q2c | apply q3c | refine q4c ?_ GE135.out) | exact HB.out))) : w.heap.size ≤ gb136)); have n5_ := qgc ((by rw [hg]; exact qvc (qdc (g := gb135) (o := .cells #[.int .i64 a0_0, .int .i64 a0_1, .int .i64 a0_2, .int .i64 a0_3, .int .i64 a0_4] 28 (0, 0)) (by (with_reducible repeat (first | refine q5c ?_ _ | refine q6c ?_ | refine q7c ?_ _)); exact BK135.out)) : gb135 ≠ gb136)); have n6_ := qgc ((by rw [hg]; exact qwc (qdc (g := gb135) (o := .cells #[.int .i64 a0_0, .int .i64 a0_1, .int .i64 a0_2, .int .i64 a0_3, .int .i64 a0_4] 28 (0, 0)) (by (with_reducible repeat (first | refine q5c ?_ _ | refine q6c ?_ | refine q7c ?_ _)); exact BK135.out)) : gb136 ≠ gb135)); clear BK135; clear HB; have BK135 := n0_; have HB := n1_; have BK136 := n2_; have GW136 := n3_; have GE136 := n4_; have NB135_136 := n5_; have NB136_135 := n6_; clear n0_ n1_ n2_ n3_ n4_ n5_ n6_; clear hb hbox hg; have hnb16 := NB135_136.out; have hnc16 := NB136_135.out; have hcz17_0 : w15.cell? ⟨gb135, 0, none⟩ = some (.int .i64 a0_0) := (qcc BK135.out 0).trans rfl; have hcz17_1 : w15.cell? ⟨gb135, 1, none⟩ = some (.int .i64 a0_1) := (qcc BK135.out 1).trans rfl; have hcz17_2 : w15.cell? ⟨gb135, 2, none⟩ = some (.int .i64 a0_2) := (qcc BK135.out 2).trans rfl; have hcz17_3 : w15.cell? ⟨gb135, 3, none⟩ = some (.int .i64 a0_3) := (qcc BK135.out 3).trans rfl; have hcz17_4 : w15.cell? ⟨gb135, 4, none⟩ = some (.int .i64 a0_4) := (qcc BK135.out 4).trans rfl; have hfz17_0 := qbc BK135.out 0; have hfz17_1 := qbc BK135.out 1; have hfz17_2 := qbc BK135.out 2; have hfz17_3 := qbc BK135.out 3; have hfz17_4 := qbc BK135.out 4) | ((with_reducible refine qtc (f := 72) rfl ?_); refine goesL_ (some 8) rfl rfl Try.func72 (by kernel_rfl) rfl #[.agg #[.int .i64 a0_0, .int .i64 a0_1, .int .i64 a0_2, .int .i64 a0_3, .int .i64 a0_4], .int .i64 a1] rfl (by (try simp only [List.map_toArray, List.map_cons, List.map_nil]); first | done | rfl | (simp only [List.length_drop, List.length_take]; rfl)) ?_; (with_reducible refine (impl_isInAir.calls a0_0 a0_1 a0_2 a0_3 a0_4 a1 false _ A3.out).mono ?_); rintro e w18 ⟨rfl, hb⟩; refine ⟨_, rfl, ?_⟩; have n0_ := qgc (q8c (g := gb135) (o := .cells #[.int .i64 a0_0, .int .i64 a0_1, .int .i64 a0_2, .int .i64 a0_3, .int .i64 a0_4] 28 (0, 0)) (by (with_reducible repeat (first | refine q5c ?_ _ | refine q6c ?_ | refine q7c ?_ _)); exact BK135.out) hb); have n1_ := qgc (q8c (g := gb136) (o := .cells #[.int .i64 0, .int .i64 0] 26 (0, 0)) (by (with_reducible repeat (first | refine q5c ?_ _ | refine q6c ?_ | refine q7c ?_ _)); exact BK136.out) hb); have n2_ := qgc (q9c (by repeat (first | (with_reducible first | exact HB.out | apply q1c | apply q2c | apply q3c | refine q4c ?_ GE135.out | refine q4c ?_ GE136.out) | exact HB.out)) hb); clear BK135; clear BK136; clear HB; have BK135 := n0_; have BK136 := n1_; have HB := n2_; clear n0_ n1_ n2_; (try clear hb); (try clear hb2); (try clear hk); (try clear hi); have hcz19_0 : w18.cell? ⟨gb136, 0, none⟩ = some (.int .i64 0) := (qcc BK136.out 0).trans rfl; have hcz19_1 : w18.cell? ⟨gb136, 1, none⟩ = some (.int .i64 0) := (qcc BK136.out 1).trans rfl; have hfz19_0 := qbc BK136.out 0; have hfz19_1 := qbc BK136.out 1))
  refine bodyPost_ret (results_ct rfl _ _ gb136 26 #[.int .i64 0, .int .i64 0] (0, 0) _ rfl (by (with_reducible repeat (first | refine q5c ?_ _ | refine q6c ?_ | refine q7c ?_ _)); refine qfc (cs := #[.int .i64 0, .int .i64 0]) ?_ 1 _ rfl; (with_reducible repeat (first | refine q5c ?_ _ | refine q6c ?_ | refine q7c ?_ _)); refine qfc (cs := #[.int .i64 0, .int .i64 0]) ?_ 0 _ rfl; (with_reducible repeat (first | refine q5c ?_ _ | refine q6c ?_ | refine q7c ?_ _)); exact BK136.out) Try.underlying26 rfl (by kernel_rfl)) rfl ?_
  exact ⟨by first | rfl | (simp [errW_none, errW_some] <;> rfl) | (simp [*, errW_none, errW_some] <;> rfl), by repeat (first | (with_reducible first | exact HB.out | apply q1c | apply q2c | apply q3c | refine q4c ?_ GE135.out | refine q4c ?_ GE136.out) | exact HB.out)⟩
/-! ### impl_HeightAt: function 53 -/
def impl_HeightAt.f (a0_0 : Int) (a0_1 : Int) (a0_2 : Int) (a0_3 : Int) (a0_4 : Int) (a1 : Int) : Option (Int) := (impl_isInAir.f a0_0 a0_1 a0_2 a0_3 a0_4 a1).bind fun t142 => (if t142 = true then (some (wrap64 (a1 * (wrap64 ((wrap64 (a0_4 + 1)) - a1))))) else (some 0))
set_option maxHeartbeats 8000000 in
set_option maxRecDepth 100000 in
theorem impl_HeightAt.calls (a0_0 : Int) (a0_1 : Int) (a0_2 : Int) (a0_3 : Int) (a0_4 : Int) (a1 : Int) (r : Int) (w : World) (h : impl_HeightAt.f a0_0 a0_1 a0_2 a0_3 a0_4 a1 = some r) :
 Calls Try.prog 53 #[.agg #[.int .i64 a0_0, .int .i64 a0_1, .int .i64 a0_2, .int .i64 a0_3, .int .i64 a0_4], .int .i64 a1] w fun e w' => e = .returned (.int .i64 r) ∧ Below w.heap.size w w' := by
 have hu28 := Try.underlying28
 have HB := qgc (Below.refl w.heap.size w)
 have H : ((impl_isInAir.f a0_0 a0_1 a0_2 a0_3 a0_4 a1).bind fun t142 => (if t142 = true then (some (wrap64 (a1 * (wrap64 ((wrap64 (a0_4 + 1)) - a1))))) else (some 0))) = some r := h
 clear h
 replace H := Option.bind_eq_some_iff.mp H
 obtain ⟨t142, A30, H⟩ := H
 replace H : (if t142 = true then (some (wrap64 (a1 * (wrap64 ((wrap64 (a0_4 + 1)) - a1))))) else (some 0)) = some r := H
 have A3 := qgc A30
 clear A30
 by_cases c4 : t142 = true
 ·subst c4
  have H1 : (some (wrap64 (a1 * (wrap64 ((wrap64 (a0_4 + 1)) - a1))))) = some r := by rw [if_pos rfl] at H; exact H
  clear H
  have H := H1
  clear H1
  obtain rfl := Option.some.inj H
  go_enter Try.func53, Try.ntmps53
  go_wp2_with (first | ((with_reducible refine quc (N := 2) rfl ?_); refine qhc ?hg (N := 2) ?hd (cs := #[.int .i64 a0_0, .int .i64 a0_1, .int .i64 a0_2, .int .i64 a0_3, .int .i64 a0_4]) (t := 28) ?hr ?_; (case hd => rfl); (case hg => rfl); (case hr => first | (go_simp; done) | (go_simp; rfl)); intro gb141 hg w5 hbox hb; have n0_ := qgc (q9c (by repeat (first | (with_reducible first | exact HB.out | apply q1c | apply q2c | apply q3c) | exact HB.out)) hb); have n1_ := qgc (hbox); have n2_ := qgc ((by rw [hg]; exact (qac (by repeat (first | (with_reducible first | exact HB.out | apply q1c | apply q2c | apply q3c) | exact HB.out))) : w.heap.size ≤ gb141)); have n3_ := qgc ((by rw [hg]; exact (qac (by repeat (first | (with_reducible first | exact HB.out | apply q1c | apply q2c | apply q3c) | exact HB.out))) : w.heap.size ≤ gb141)); clear HB; have HB := n0_; have BK141 := n1_; have GW141 := n2_; have GE141 := n3_; clear n0_ n1_ n2_ n3_; clear hb hbox hg; have hcz6_0 : w5.cell? ⟨gb141, 0, none⟩ = some (.int .i64 a0_0) := (qcc BK141.out 0).trans rfl; have hcz6_1 : w5.cell? ⟨gb141, 1, none⟩ = some (.int .i64 a0_1) := (qcc BK141.out 1).trans rfl; have hcz6_2 : w5.cell? ⟨gb141, 2, none⟩ = some (.int .i64 a0_2) := (qcc BK141.out 2).trans rfl; have hcz6_3 : w5.cell? ⟨gb141, 3, none⟩ = some (.int .i64 a0_3) := (qcc BK141.out 3).trans rfl; have hcz6_4 : w5.cell? ⟨gb141, 4, none⟩ = some (.int .i64 a0_4) := (qcc BK141.out 4).trans rfl; have hfz6_0 := qbc BK141.out 0; have hfz6_1 := qbc BK141.out 1; have hfz6_2 := qbc BK141.out 2; have hfz6_3 := qbc BK141.out 3; have hfz6_4 := qbc BK141.out 4) | ((with_reducible refine qtc (f := 72) rfl ?_); refine goesL_ (some 7) rfl rfl Try.func72 (by kernel_rfl) rfl #[.agg #[.int .i64 a0_0, .int .i64 a0_1, .int .i64 a0_2, .int .i64 a0_3, .int .i64 a0_4], .int .i64 a1] rfl (by (try simp only [List.map_toArray, List.map_cons, List.map_nil]); first | done | rfl | (simp only [List.length_drop, List.length_take]; rfl)) ?_; (with_reducible refine (impl_isInAir.calls a0_0 a0_1 a0_2 a0_3 a0_4 a1 true _ A3.out).mono ?_); rintro e w7 ⟨rfl, hb⟩; refine ⟨_, rfl, ?_⟩; have n0_ := qgc (q8c (g := gb141) (o := .cells #[.int .i64 a0_0, .int .i64 a0_1, .int .i64 a0_2, .int .i64 a0_3, .int .i64 a0_4] 28 (0, 0)) (by (with_reducible repeat (first | refine q5c ?_ _ | refine q6c ?_ | refine q7c ?_ _)); exact BK141.out) hb); have n1_ := qgc (q9c (by repeat (first | (with_reducible first | exact HB.out | apply q1c | apply q2c | apply q3c | refine q4c ?_ GE141.out) | exact HB.out)) hb); clear BK141; clear HB; have BK141 := n0_; have HB := n1_; clear n0_ n1_; (try clear hb); (try clear hb2); (try clear hk); (try clear hi); have hcz8_0 : w7.cell? ⟨gb141, 0, none⟩ = some (.int .i64 a0_0) := (qcc BK141.out 0).trans rfl; have hcz8_1 : w7.cell? ⟨gb141, 1, none⟩ = some (.int .i64 a0_1) := (qcc BK141.out 1).trans rfl; have hcz8_2 : w7.cell? ⟨gb141, 2, none⟩ = some (.int .i64 a0_2) := (qcc BK141.out 2).trans rfl; have hcz8_3 : w7.cell? ⟨gb141, 3, none⟩ = some (.int .i64 a0_3) := (qcc BK141.out 3).trans rfl; have hcz8_4 : w7.cell? ⟨gb141, 4, none⟩ = some (.int .i64 a0_4) := (qcc BK141.out 4).trans rfl; have hfz8_0 := qbc BK141.out 0; have hfz8_1 := qbc BK141.out 1; have hfz8_2 := qbc BK141.out 2; have hfz8_3 := qbc BK141.out 3; have hfz8_4 := qbc BK141.out 4))
  go_ret
  exact ⟨by first | rfl | (simp [errW_none, errW_some] <;> rfl) | (simp [*, errW_none, errW_some] <;> rfl), by repeat (first | (with_reducible first | exact HB.out | apply q1c | apply q2c | apply q3c | refine q4c ?_ GE141.out) | exact HB.out)⟩
 ·replace c4 := Bool.eq_false_iff.mpr c4
  subst c4
  have H1 : (some 0) = some r := by rw [if_neg (show ¬ (false = true) by decide)] at H; exact H
  clear H
  have H := H1
  clear H1
  obtain rfl := Option.some.inj H
  go_enter Try.func53, Try.ntmps53
  go_wp2_with (first | ((with_reducible refine quc (N := 2) rfl ?_); refine qhc ?hg (N := 2) ?hd (cs := #[.int .i64 a0_0, .int .i64 a0_1, .int .i64 a0_2, .int .i64 a0_3, .int .i64 a0_4]) (t := 28) ?hr ?_; (case hd => rfl); (case hg => rfl); (case hr => first | (go_simp; done) | (go_simp; rfl)); intro gb141 hg w9 hbox hb; have n0_ := qgc (q9c (by repeat (first | (with_reducible first | exact HB.out | apply q1c | apply q2c | apply q3c) | exact HB.out)) hb); have n1_ := qgc (hbox); have n2_ := qgc ((by rw [hg]; exact (qac (by repeat (first | (with_reducible first | exact HB.out | apply q1c | apply q2c | apply q3c) | exact HB.out))) : w.heap.size ≤ gb141)); have n3_ := qgc ((by rw [hg]; exact (qac (by repeat (first | (with_reducible first | exact HB.out | apply q1c | apply q2c | apply q3c) | exact HB.out))) : w.heap.size ≤ gb141)); clear HB; have HB := n0_; have BK141 := n1_; have GW141 := n2_; have GE141 := n3_; clear n0_ n1_ n2_ n3_; clear hb hbox hg; have hcz10_0 : w9.cell? ⟨gb141, 0, none⟩ = some (.int .i64 a0_0) := (qcc BK141.out 0).trans rfl; have hcz10_1 : w9.cell? ⟨gb141, 1, none⟩ = some (.int .i64 a0_1) := (qcc BK141.out 1).trans rfl; have hcz10_2 : w9.cell? ⟨gb141, 2, none⟩ = some (.int .i64 a0_2) := (qcc BK141.out 2).trans rfl; have hcz10_3 : w9.cell? ⟨gb141, 3, none⟩ = some (.int .i64 a0_3) := (qcc BK141.out 3).trans rfl; have hcz10_4 : w9.cell? ⟨gb141, 4, none⟩ = some (.int .i64 a0_4) := (qcc BK141.out 4).trans rfl; have hfz10_0 := qbc BK141.out 0; have hfz10_1 := qbc BK141.out 1; have hfz10_2 := qbc BK141.out 2; have hfz10_3 := qbc BK141.out 3; have hfz10_4 := qbc BK141.out 4) | ((with_reducible refine qtc (f := 72) rfl ?_); refine goesL_ (some 7) rfl rfl Try.func72 (by kernel_rfl) rfl #[.agg #[.int .i64 a0_0, .int .i64 a0_1, .int .i64 a0_2, .int .i64 a0_3, .int .i64 a0_4], .int .i64 a1] rfl (by (try simp only [List.map_toArray, List.map_cons, List.map_nil]); first | done | rfl | (simp only [List.length_drop, List.length_take]; rfl)) ?_; (with_reducible refine (impl_isInAir.calls a0_0 a0_1 a0_2 a0_3 a0_4 a1 false _ A3.out).mono ?_); rintro e w11 ⟨rfl, hb⟩; refine ⟨_, rfl, ?_⟩; have n0_ := qgc (q8c (g := gb141) (o := .cells #[.int .i64 a0_0, .int .i64 a0_1, .int .i64 a0_2, .int .i64 a0_3, .int .i64 a0_4] 28 (0, 0)) (by (with_reducible repeat (first | refine q5c ?_ _ | refine q6c ?_ | refine q7c ?_ _)); exact BK141.out) hb); have n1_ := qgc (q9c (by repeat (first | (with_reducible first | exact HB.out | apply q1c | apply q2c | apply q3c | refine q4c ?_ GE141.out) | exact HB.out)) hb); clear BK141; clear HB; have BK141 := n0_; have HB := n1_; clear n0_ n1_; (try clear hb); (try clear hb2); (try clear hk); (try clear hi)))
  go_ret
  exact ⟨by first | rfl | (simp [errW_none, errW_some] <;> rfl) | (simp [*, errW_none, errW_some] <;> rfl), by repeat (first | (with_reducible first | exact HB.out | apply q1c | apply q2c | apply q3c | refine q4c ?_ GE141.out) | exact HB.out)⟩
end Go.Proofs.Ytlmgokicanlcpaa.PFnMeet
