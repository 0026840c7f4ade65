/- Plain functions and walks of the law FnMeet: each function answers as its plain function does. No condition beside. Out of the print, turned by program (wip/tools/fixnew). -/
import Derived.Test.YtlmgokicanlcpaaPFnMeetx0
namespace Go.Proofs.Ytlmgokicanlcpaa.PFnMeet
open Go.RowKit Go.Proofs.YtlmgokicanlcpaaW.PrintWords Go.Proofs.YtlmgokicanlcpaaW.PrintLast Go.Proofs.YtlmgokicanlcpaaW.PrintMore
attribute [local go_sem] max2_int min2_int max_two min_two max_three min_three max_four min_four   -- for this text's walks alone
set_option linter.unusedVariables false
set_option linter.unusedSimpArgs false

theorem p1e : type_of% @List.setIfInBounds_toArray := @List.setIfInBounds_toArray
theorem p2e : type_of% @List.set_cons_zero := @List.set_cons_zero
theorem p3e : type_of% @List.set_cons_succ := @List.set_cons_succ
theorem q1e : type_of% @below_alloc := @below_alloc
theorem q2e : type_of% @pw_below_drewN := @pw_below_drewN
theorem q3e : type_of% @below_drew1 := @below_drew1
theorem q4e : type_of% @below_set := @below_set
theorem q5e : type_of% @blk_drewN := @blk_drewN
theorem q6e : type_of% @blk_drew := @blk_drew
theorem q7e : type_of% @blk_alloc := @blk_alloc
theorem q8e : type_of% @blk_below := @blk_below
theorem q9e : type_of% @below_step := @below_step
theorem qae : type_of% @below_size := @below_size
theorem qbe : type_of% @blk_frozen := @blk_frozen
theorem qce : type_of% @blk_cell := @blk_cell
theorem qde : type_of% @blk_lt := @blk_lt
theorem qee : type_of% @blk_far := @blk_far
theorem qfe : type_of% @blk_put := @blk_put
theorem qge : type_of% @Aside0.mk := @Aside0.mk
theorem qhe : type_of% @box_event := @box_event
theorem qie : type_of% @cell_far := @cell_far
theorem qte : type_of% @gate_callee := @gate_callee
theorem que : type_of% @gate_dst := @gate_dst
theorem qve : type_of% @Nat.ne_of_lt := @Nat.ne_of_lt
theorem qwe : type_of% @Nat.ne_of_gt := @Nat.ne_of_gt
/-! ### laws_big: function 50 -/
def laws_big.f (l0 : List Int) : Option (Bool) := some (decide ((l0.length : Int) > 4096))
set_option maxHeartbeats 8000000 in
set_option maxRecDepth 100000 in
theorem laws_big.calls (A0 : Option Addr) (c0 : Nat) (l0 : List Int) (r : Bool) (w : World) (hr0 : Kd.C (Kd.int .u8) w A0 l0.length l0) (hc0 : l0.length ≤ c0) (h : laws_big.f l0 = some r) :
 Calls Try.prog 50 #[.slice A0 l0.length c0] w fun e w' => e = .returned (.bool r) ∧ Drawn0 w w' := by
 have HR0 := qge hr0
 have HC0 := qge hc0
 clear hr0 hc0
 have H : (some (decide ((l0.length : Int) > 4096))) = some r := h
 clear h
 obtain rfl := Option.some.inj H
 go_enter Try.func50, Try.ntmps50
 go_wp2
 go_ret
 exact ⟨by first | rfl | (simp; done) | (simp [*]; done), by repeat (first | exact Drawn0.refl _ | apply Drawn0.step)⟩
/-! ### spec_l1In: function 77 -/
def spec_l1In.f (a0 : Int) (a1 : Int) (a2 : Int) : Option (Bool) := if a0 ≥ a1 then (some (decide (a0 ≤ a2))) else (some false)
set_option maxHeartbeats 8000000 in
set_option maxRecDepth 100000 in
theorem spec_l1In.calls (a0 : Int) (a1 : Int) (a2 : Int) (r : Bool) (w : World) (h : spec_l1In.f a0 a1 a2 = some r) :
 Calls Try.prog 77 #[.int .i64 a0, .int .i64 a1, .int .i64 a2] w fun e w' => e = .returned (.bool r) ∧ Drawn0 w w' := by
 have H : (if a0 ≥ a1 then (some (decide (a0 ≤ a2))) else (some false)) = some r := h
 clear h
 by_cases c4 : a0 ≥ a1
 ·rw [if_pos c4] at H
  have c4b0 : decide (a1 ≤ a0) = true := decide_eq_true c4
  clear c4
  obtain rfl := Option.some.inj H
  go_enter Try.func77, Try.ntmps77
  go_wp2
  go_ret
  exact ⟨by first | rfl | (simp; done) | (simp [*]; done), by repeat (first | exact Drawn0.refl _ | apply Drawn0.step)⟩
 ·rw [if_neg c4] at H
  have c4b0 : decide (a1 ≤ a0) = false := decide_eq_false c4
  clear c4
  obtain rfl := Option.some.inj H
  go_enter Try.func77, Try.ntmps77
  go_wp2
  go_ret
  exact ⟨by first | rfl | (simp; done) | (simp [*]; done), by repeat (first | exact Drawn0.refl _ | apply Drawn0.step)⟩
/-! ### spec_IsHeading: function 92 -/
def spec_IsHeading.f (a0 : Int) : Option (Bool) := if a0 ≥ 0 then (some (decide (a0 ≤ 3))) else (some false)
set_option maxHeartbeats 8000000 in
set_option maxRecDepth 100000 in
theorem spec_IsHeading.calls (a0 : Int) (r : Bool) (w : World) (h : spec_IsHeading.f a0 = some r) :
 Calls Try.prog 92 #[.int .i64 a0] w fun e w' => e = .returned (.bool r) ∧ Drawn0 w w' := by
 have H : (if a0 ≥ 0 then (some (decide (a0 ≤ 3))) else (some false)) = some r := h
 clear h
 by_cases c2 : a0 ≥ 0
 ·rw [if_pos c2] at H
  have c2b0 : decide (0 ≤ a0) = true := decide_eq_true c2
  clear c2
  obtain rfl := Option.some.inj H
  go_enter Try.func92, Try.ntmps92
  go_wp2
  go_ret
  exact ⟨by first | rfl | (simp; done) | (simp [*]; done), by repeat (first | exact Drawn0.refl _ | apply Drawn0.step)⟩
 ·rw [if_neg c2] at H
  have c2b0 : decide (0 ≤ a0) = false := decide_eq_false c2
  clear c2
  obtain rfl := Option.some.inj H
  go_enter Try.func92, Try.ntmps92
  go_wp2
  go_ret
  exact ⟨by first | rfl | (simp; done) | (simp [*]; done), by repeat (first | exact Drawn0.refl _ | apply Drawn0.step)⟩
/-! ### spec_IsJet: function 55 -/
def spec_IsJet.f (a0_0 : Int) (a0_1 : Int) (a0_2 : Int) (a0_3 : Int) (a0_4 : Int) : Option (Bool) := (spec_l1In.f a0_0 (-1024) 1024).bind fun t166 => (if t166 = true then ((spec_l1In.f a0_1 (-1024) 1024).bind fun t167 => (if t167 = true then ((spec_IsHeading.f a0_2).bind fun t168 => (if t168 = true then ((spec_l1In.f a0_3 0 16).bind fun t169 => (if t169 = true then ((spec_l1In.f a0_4 1 32).bind fun t170 => (some t170)) else (some false))) else (some false))) else (some false))) else (some false))
set_option maxHeartbeats 8000000 in
set_option maxRecDepth 100000 in
theorem spec_IsJet.calls (a0_0 : Int) (a0_1 : Int) (a0_2 : Int) (a0_3 : Int) (a0_4 : Int) (r : Bool) (w : World) (h : spec_IsJet.f a0_0 a0_1 a0_2 a0_3 a0_4 = some r) :
 Calls Try.prog 55 #[.agg #[.int .i64 a0_0, .int .i64 a0_1, .int .i64 a0_2, .int .i64 a0_3, .int .i64 a0_4]] w fun e w' => e = .returned (.bool r) ∧ Below w.heap.size w w' := by
 have hu28 := Try.underlying28
 have HB := qge (Below.refl w.heap.size w)
 have H : ((spec_l1In.f a0_0 (-1024) 1024).bind fun t166 => (if t166 = true then ((spec_l1In.f a0_1 (-1024) 1024).bind fun t167 => (if t167 = true then ((spec_IsHeading.f a0_2).bind fun t168 => (if t168 = true then ((spec_l1In.f a0_3 0 16).bind fun t169 => (if t169 = true then ((spec_l1In.f a0_4 1 32).bind fun t170 => (some t170)) else (some false))) else (some false))) else (some false))) else (some false))) = some r := h
 clear h
 replace H := Option.bind_eq_some_iff.mp H
 obtain ⟨t166, A20, H⟩ := H
 replace H : (if t166 = true then ((spec_l1In.f a0_1 (-1024) 1024).bind fun t167 => (if t167 = true then ((spec_IsHeading.f a0_2).bind fun t168 => (if t168 = true then ((spec_l1In.f a0_3 0 16).bind fun t169 => (if t169 = true then ((spec_l1In.f a0_4 1 32).bind fun t170 => (some t170)) else (some false))) else (some false))) else (some false))) else (some false)) = some r := H
 have A2 := qge A20
 clear A20
 by_cases c3 : t166 = true
 ·subst c3
  have H1 : ((spec_l1In.f a0_1 (-1024) 1024).bind fun t167 => (if t167 = true then ((spec_IsHeading.f a0_2).bind fun t168 => (if t168 = true then ((spec_l1In.f a0_3 0 16).bind fun t169 => (if t169 = true then ((spec_l1In.f a0_4 1 32).bind fun t170 => (some t170)) else (some false))) else (some false))) else (some false))) = some r := by rw [if_pos rfl] at H; exact H
  clear H
  have H := H1
  clear H1
  replace H := Option.bind_eq_some_iff.mp H
  obtain ⟨t167, A40, H⟩ := H
  replace H : (if t167 = true then ((spec_IsHeading.f a0_2).bind fun t168 => (if t168 = true then ((spec_l1In.f a0_3 0 16).bind fun t169 => (if t169 = true then ((spec_l1In.f a0_4 1 32).bind fun t170 => (some t170)) else (some false))) else (some false))) else (some false)) = some r := H
  have A4 := qge A40
  clear A40
  by_cases c5 : t167 = true
  ·subst c5
   have H1 : ((spec_IsHeading.f a0_2).bind fun t168 => (if t168 = true then ((spec_l1In.f a0_3 0 16).bind fun t169 => (if t169 = true then ((spec_l1In.f a0_4 1 32).bind fun t170 => (some t170)) else (some false))) else (some false))) = some r := by rw [if_pos rfl] at H; exact H
   clear H
   have H := H1
   clear H1
   replace H := Option.bind_eq_some_iff.mp H
   obtain ⟨t168, A60, H⟩ := H
   replace H : (if t168 = true then ((spec_l1In.f a0_3 0 16).bind fun t169 => (if t169 = true then ((spec_l1In.f a0_4 1 32).bind fun t170 => (some t170)) else (some false))) else (some false)) = some r := H
   have A6 := qge A60
   clear A60
   by_cases c7 : t168 = true
   ·subst c7
    have H1 : ((spec_l1In.f a0_3 0 16).bind fun t169 => (if t169 = true then ((spec_l1In.f a0_4 1 32).bind fun t170 => (some t170)) else (some false))) = some r := by rw [if_pos rfl] at H; exact H
    clear H
    have H := H1
    clear H1
    replace H := Option.bind_eq_some_iff.mp H
    obtain ⟨t169, A80, H⟩ := H
    replace H : (if t169 = true then ((spec_l1In.f a0_4 1 32).bind fun t170 => (some t170)) else (some false)) = some r := H
    have A8 := qge A80
    clear A80
    by_cases c9 : t169 = true
    ·subst c9
     have H1 : ((spec_l1In.f a0_4 1 32).bind fun t170 => (some t170)) = some r := by rw [if_pos rfl] at H; exact H
     clear H
     have H := H1
     clear H1
     replace H := Option.bind_eq_some_iff.mp H
     obtain ⟨t170, A100, H⟩ := H
     replace H : (some t170) = some r := H
     have A10 := qge A100
     clear A100
     obtain rfl := Option.some.inj H
     go_enter Try.func55, Try.ntmps55
     go_wp2_with (first | ((with_reducible refine que (N := 1) rfl ?_); refine qhe ?hg (N := 1) ?hd (cs := #[.int .i64 a0_0, .int .i64 a0_1, .int .i64 a0_2, .int .i64 a0_3, .int .i64 a0_4]) (t := 28) ?hr ?_; (case hd => rfl); (case hg => rfl); (case hr => first | (go_simp; done) | (go_simp; rfl)); intro gb165 hg w11 hbox hb; have n0_ := qge (q9e (by repeat (first | (with_reducible first | exact HB.out | apply q1e | apply q2e | apply q3e) | exact HB.out)) hb); have n1_ := qge (hbox); have n2_ := qge ((by rw [hg]; exact (qae (by repeat (first | (with_reducible first | exact HB.out | apply q1e | apply q2e | apply q3e) | exact HB.out))) : w.heap.size ≤ gb165)); have n3_ := qge ((by rw [hg]; exact (qae (by repeat (first | (with_reducible first | exact HB.out | apply q1e | apply q2e | apply q3e) | exact HB.out))) : w.heap.size ≤ gb165)); clear HB; have HB := n0_; have BK165 := n1_; have GW165 := n2_; have GE165 := n3_; clear n0_ n1_ n2_ n3_; clear hb hbox hg; have hcz12_0 : w11.cell? ⟨gb165, 0, none⟩ = some (.int .i64 a0_0) := (qce BK165.out 0).trans rfl; have hcz12_1 : w11.cell? ⟨gb165, 1, none⟩ = some (.int .i64 a0_1) := (qce BK165.out 1).trans rfl; have hcz12_2 : w11.cell? ⟨gb165, 2, none⟩ = some (.int .i64 a0_2) := (qce BK165.out 2).trans rfl; have hcz12_3 : w11.cell? ⟨gb165, 3, none⟩ = some (.int .i64 a0_3) := (qce BK165.out 3).trans rfl; have hcz12_4 : w11.cell? ⟨gb165, 4, none⟩ = some (.int .i64 a0_4) := (qce BK165.out 4).trans rfl; have hfz12_0 := qbe BK165.out 0; have hfz12_1 := qbe BK165.out 1; have hfz12_2 := qbe BK165.out 2; have hfz12_3 := qbe BK165.out 3; have hfz12_4 := qbe BK165.out 4) | ((with_reducible refine qte (f := 77) rfl ?_); refine goesL_ (some 7) rfl rfl Try.func77 (by kernel_rfl) rfl #[.int .i64 a0_0, .int .i64 (-1024), .int .i64 1024] rfl (by (try simp only [List.map_toArray, List.map_cons, List.map_nil]); first | done | rfl | (simp only [List.length_drop, List.length_take]; rfl)) ?_; (with_reducible refine (spec_l1In.calls a0_0 (-1024) 1024 true _ A2.out).mono ?_); rintro e w' ⟨rfl, ⟨nd, rfl⟩⟩; refine ⟨_, rfl, ?_⟩) | (go_at_call 77; (with_reducible refine (spec_l1In.calls a0_1 (-1024) 1024 true _ A4.out).mono ?_); rintro e w' ⟨rfl, ⟨nd, rfl⟩⟩) | (go_at_call 92; (with_reducible refine (spec_IsHeading.calls a0_2 true _ A6.out).mono ?_); rintro e w' ⟨rfl, ⟨nd, rfl⟩⟩) | (go_at_call 77; (with_reducible refine (spec_l1In.calls a0_3 0 16 true _ A8.out).mono ?_); rintro e w' ⟨rfl, ⟨nd, rfl⟩⟩) | (go_at_call 77; (with_reducible refine (spec_l1In.calls a0_4 1 32 t170 _ A10.out).mono ?_); rintro e w' ⟨rfl, ⟨nd, rfl⟩⟩))
     go_ret
     exact ⟨by first | rfl | (simp [errW_none, errW_some] <;> rfl) | (simp [*, errW_none, errW_some] <;> rfl), by repeat (first | (with_reducible first | exact HB.out | apply q1e | apply q2e | apply q3e | refine q4e ?_ GE165.out) | exact HB.out)⟩
    ·replace c9 := Bool.eq_false_iff.mpr c9
     subst c9
     have H1 : (some false) = some r := by rw [if_neg (show ¬ (false = true) by decide)] at H; exact H
     clear H
     have H := H1
     clear H1
     obtain rfl := Option.some.inj H
     go_enter Try.func55, Try.ntmps55
     go_wp2_with (first | ((with_reducible refine que (N := 1) rfl ?_); refine qhe ?hg (N := 1) ?hd (cs := #[.int .i64 a0_0, .int .i64 a0_1, .int .i64 a0_2, .int .i64 a0_3, .int .i64 a0_4]) (t := 28) ?hr ?_; (case hd => rfl); (case hg => rfl); (case hr => first | (go_simp; done) | (go_simp; rfl)); intro gb165 hg w13 hbox hb; have n0_ := qge (q9e (by repeat (first | (with_reducible first | exact HB.out | apply q1e | apply q2e | apply q3e) | exact HB.out)) hb); have n1_ := qge (hbox); have n2_ := qge ((by rw [hg]; exact (qae (by repeat (first | (with_reducible first | exact HB.out | apply q1e | apply q2e | apply q3e) | exact HB.out))) : w.heap.size ≤ gb165)); have n3_ := qge ((by rw [hg]; exact (qae (by repeat (first | (with_reducible first | exact HB.out | apply q1e | apply q2e | apply q3e) | exact HB.out))) : w.heap.size ≤ gb165)); clear HB; have HB := n0_; have BK165 := n1_; have GW165 := n2_; have GE165 := n3_; clear n0_ n1_ n2_ n3_; clear hb hbox hg; have hcz14_0 : w13.cell? ⟨gb165, 0, none⟩ = some (.int .i64 a0_0) := (qce BK165.out 0).trans rfl; have hcz14_1 : w13.cell? ⟨gb165, 1, none⟩ = some (.int .i64 a0_1) := (qce BK165.out 1).trans rfl; have hcz14_2 : w13.cell? ⟨gb165, 2, none⟩ = some (.int .i64 a0_2) := (qce BK165.out 2).trans rfl; have hcz14_3 : w13.cell? ⟨gb165, 3, none⟩ = some (.int .i64 a0_3) := (qce BK165.out 3).trans rfl; have hcz14_4 : w13.cell? ⟨gb165, 4, none⟩ = some (.int .i64 a0_4) := (qce BK165.out 4).trans rfl; have hfz14_0 := qbe BK165.out 0; have hfz14_1 := qbe BK165.out 1; have hfz14_2 := qbe BK165.out 2; have hfz14_3 := qbe BK165.out 3; have hfz14_4 := qbe BK165.out 4) | ((with_reducible refine qte (f := 77) rfl ?_); refine goesL_ (some 7) rfl rfl Try.func77 (by kernel_rfl) rfl #[.int .i64 a0_0, .int .i64 (-1024), .int .i64 1024] rfl (by (try simp only [List.map_toArray, List.map_cons, List.map_nil]); first | done | rfl | (simp only [List.length_drop, List.length_take]; rfl)) ?_; (with_reducible refine (spec_l1In.calls a0_0 (-1024) 1024 true _ A2.out).mono ?_); rintro e w' ⟨rfl, ⟨nd, rfl⟩⟩; refine ⟨_, rfl, ?_⟩) | (go_at_call 77; (with_reducible refine (spec_l1In.calls a0_1 (-1024) 1024 true _ A4.out).mono ?_); rintro e w' ⟨rfl, ⟨nd, rfl⟩⟩) | (go_at_call 92; (with_reducible refine (spec_IsHeading.calls a0_2 true _ A6.out).mono ?_); rintro e w' ⟨rfl, ⟨nd, rfl⟩⟩) | (go_at_call 77; (with_reducible refine (spec_l1In.calls a0_3 0 16 false _ A8.out).mono ?_); rintro e w' ⟨rfl, ⟨nd, rfl⟩⟩))
     go_ret
     exact ⟨by first | rfl | (simp [errW_none, errW_some] <;> rfl) | (simp [*, errW_none, errW_some] <;> rfl), by repeat (first | (with_reducible first | exact HB.out | apply q1e | apply q2e | apply q3e | refine q4e ?_ GE165.out) | exact HB.out)⟩
   ·replace c7 := Bool.eq_false_iff.mpr c7
    subst c7
    have H1 : (some false) = some r := by rw [if_neg (show ¬ (false = true) by decide)] at H; exact H
    clear H
    have H := H1
    clear H1
    obtain rfl := Option.some.inj H
    go_enter Try.func55, Try.ntmps55
    go_wp2_with (first | ((with_reducible refine que (N := 1) rfl ?_); refine qhe ?hg (N := 1) ?hd (cs := #[.int .i64 a0_0, .int .i64 a0_1, .int .i64 a0_2, .int .i64 a0_3, .int .i64 a0_4]) (t := 28) ?hr ?_; (case hd => rfl); (case hg => rfl); (case hr => first | (go_simp; done) | (go_simp; rfl)); intro gb165 hg w15 hbox hb; have n0_ := qge (q9e (by repeat (first | (with_reducible first | exact HB.out | apply q1e | apply q2e | apply q3e) | exact HB.out)) hb); have n1_ := qge (hbox); have n2_ := qge ((by rw [hg]; exact (qae (by repeat (first | (with_reducible first | exact HB.out | apply q1e | apply q2e | apply q3e) | exact HB.out))) : w.heap.size ≤ gb165)); have n3_ := qge ((by rw [hg]; exact (qae (by repeat (first | (with_reducible first | exact HB.out | apply q1e | apply q2e | apply q3e) | exact HB.out))) : w.heap.size ≤ gb165)); clear HB; have HB := n0_; have BK165 := n1_; have GW165 := n2_; have GE165 := n3_; clear n0_ n1_ n2_ n3_; clear hb hbox hg; have hcz16_0 : w15.cell? ⟨gb165, 0, none⟩ = some (.int .i64 a0_0) := (qce BK165.out 0).trans rfl; have hcz16_1 : w15.cell? ⟨gb165, 1, none⟩ = some (.int .i64 a0_1) := (qce BK165.out 1).trans rfl; have hcz16_2 : w15.cell? ⟨gb165, 2, none⟩ = some (.int .i64 a0_2) := (qce BK165.out 2).trans rfl; have hcz16_3 : w15.cell? ⟨gb165, 3, none⟩ = some (.int .i64 a0_3) := (qce BK165.out 3).trans rfl; have hcz16_4 : w15.cell? ⟨gb165, 4, none⟩ = some (.int .i64 a0_4) := (qce BK165.out 4).trans rfl; have hfz16_0 := qbe BK165.out 0; have hfz16_1 := qbe BK165.out 1; have hfz16_2 := qbe BK165.out 2; have hfz16_3 := qbe BK165.out 3; have hfz16_4 := qbe BK165.out 4) | ((with_reducible refine qte (f := 77) rfl ?_); refine goesL_ (some 7) rfl rfl Try.func77 (by kernel_rfl) rfl #[.int .i64 a0_0, .int .i64 (-1024), .int .i64 1024] rfl (by (try simp only [List.map_toArray, List.map_cons, List.map_nil]); first | done | rfl | (simp only [List.length_drop, List.length_take]; rfl)) ?_; (with_reducible refine (spec_l1In.calls a0_0 (-1024) 1024 true _ A2.out).mono ?_); rintro e w' ⟨rfl, ⟨nd, rfl⟩⟩; refine ⟨_, rfl, ?_⟩) | (go_at_call 77; (with_reducible refine (spec_l1In.calls a0_1 (-1024) 1024 true _ A4.out).mono ?_); rintro e w' ⟨rfl, ⟨nd, rfl⟩⟩) | (go_at_call 92; (with_reducible refine (spec_IsHeading.calls a0_2 false _ A6.out).mono ?_); rintro e w' ⟨rfl, ⟨nd, rfl⟩⟩))
    go_ret
    exact ⟨by first | rfl | (simp [errW_none, errW_some] <;> rfl) | (simp [*, errW_none, errW_some] <;> rfl), by repeat (first | (with_reducible first | exact HB.out | apply q1e | apply q2e | apply q3e | refine q4e ?_ GE165.out) | exact HB.out)⟩
  ·replace c5 := Bool.eq_false_iff.mpr c5
   subst c5
   have H1 : (some false) = some r := by rw [if_neg (show ¬ (false = true) by decide)] at H; exact H
   clear H
   have H := H1
   clear H1
   obtain rfl := Option.some.inj H
   go_enter Try.func55, Try.ntmps55
   go_wp2_with (first | ((with_reducible refine que (N := 1) rfl ?_); refine qhe ?hg (N := 1) ?hd (cs := #[.int .i64 a0_0, .int .i64 a0_1, .int .i64 a0_2, .int .i64 a0_3, .int .i64 a0_4]) (t := 28) ?hr ?_; (case hd => rfl); (case hg => rfl); (case hr => first | (go_simp; done) | (go_simp; rfl)); intro gb165 hg w17 hbox hb; have n0_ := qge (q9e (by repeat (first | (with_reducible first | exact HB.out | apply q1e | apply q2e | apply q3e) | exact HB.out)) hb); have n1_ := qge (hbox); have n2_ := qge ((by rw [hg]; exact (qae (by repeat (first | (with_reducible first | exact HB.out | apply q1e | apply q2e | apply q3e) | exact HB.out))) : w.heap.size ≤ gb165)); have n3_ := qge ((by rw [hg]; exact (qae (by repeat (first | (with_reducible first | exact HB.out | apply q1e | apply q2e | apply q3e) | exact HB.out))) : w.heap.size ≤ gb165)); clear HB; have HB := n0_; have BK165 := n1_; have GW165 := n2_; have GE165 := n3_; clear n0_ n1_ n2_ n3_; clear hb hbox hg; have hcz18_0 : w17.cell? ⟨gb165, 0, none⟩ = some (.int .i64 a0_0) := (qce BK165.out 0).trans rfl; have hcz18_1 : w17.cell? ⟨gb165, 1, none⟩ = some (.int .i64 a0_1) := (qce BK165.out 1).trans rfl; have hcz18_2 : w17.cell? ⟨gb165, 2, none⟩ = some (.int .i64 a0_2) := (qce BK165.out 2).trans rfl; have hcz18_3 : w17.cell? ⟨gb165, 3, none⟩ = some (.int .i64 a0_3) := (qce BK165.out 3).trans rfl; have hcz18_4 : w17.cell? ⟨gb165, 4, none⟩ = some (.int .i64 a0_4) := (qce BK165.out 4).trans rfl; have hfz18_0 := qbe BK165.out 0; have hfz18_1 := qbe BK165.out 1; have hfz18_2 := qbe BK165.out 2; have hfz18_3 := qbe BK165.out 3; have hfz18_4 := qbe BK165.out 4) | ((with_reducible refine qte (f := 77) rfl ?_); refine goesL_ (some 7) rfl rfl Try.func77 (by kernel_rfl) rfl #[.int .i64 a0_0, .int .i64 (-1024), .int .i64 1024] rfl (by (try simp only [List.map_toArray, List.map_cons, List.map_nil]); first | done | rfl | (simp only [List.length_drop, List.length_take]; rfl)) ?_; (with_reducible refine (spec_l1In.calls a0_0 (-1024) 1024 true _ A2.out).mono ?_); rintro e w' ⟨rfl, ⟨nd, rfl⟩⟩; refine ⟨_, rfl, ?_⟩) | (go_at_call 77; (with_reducible refine (spec_l1In.calls a0_1 (-1024) 1024 false _ A4.out).mono ?_); rintro e w' ⟨rfl, ⟨nd, rfl⟩⟩))
   go_ret
   exact ⟨by first | rfl | (simp [errW_none, errW_some] <;> rfl) | (simp [*, errW_none, errW_some] <;> rfl), by repeat (first | (with_reducible first | exact HB.out | apply q1e | apply q2e | apply q3e | refine q4e ?_ GE165.out) | exact HB.out)⟩
 ·replace c3 := Bool.eq_false_iff.mpr c3
  subst c3
  have H1 : (some false) = some r := by rw [if_neg (show ¬ (false = true) by decide)] at H; exact H
  clear H
  have H := H1
  clear H1
  obtain rfl := Option.some.inj H
  go_enter Try.func55, Try.ntmps55
  go_wp2_with (first | ((with_reducible refine que (N := 1) rfl ?_); refine qhe ?hg (N := 1) ?hd (cs := #[.int .i64 a0_0, .int .i64 a0_1, .int .i64 a0_2, .int .i64 a0_3, .int .i64 a0_4]) (t := 28) ?hr ?_; (case hd => rfl); (case hg => rfl); (case hr => first | (go_simp; done) | (go_simp; rfl)); intro gb165 hg w19 hbox hb; have n0_ := qge (q9e (by repeat (first | (with_reducible first | exact HB.out | apply q1e | apply q2e | apply q3e) | exact HB.out)) hb); have n1_ := qge (hbox); have n2_ := qge ((by rw [hg]; exact (qae (by repeat (first | (with_reducible first | exact HB.out | apply q1e | apply q2e | apply q3e) | exact HB.out))) : w.heap.size ≤ gb165)); have n3_ := qge ((by rw [hg]; exact (qae (by repeat (first | (with_reducible first | exact HB.out | apply q1e | apply q2e | apply q3e) | exact HB.out))) : w.heap.size ≤ gb165)); clear HB; have HB := n0_; have BK165 := n1_; have GW165 := n2_; have GE165 := n3_; clear n0_ n1_ n2_ n3_; clear hb hbox hg; have hcz20_0 : w19.cell? ⟨gb165, 0, none⟩ = some (.int .i64 a0_0) := (qce BK165.out 0).trans rfl; have hcz20_1 : w19.cell? ⟨gb165, 1, none⟩ = some (.int .i64 a0_1) := (qce BK165.out 1).trans rfl; have hcz20_2 : w19.cell? ⟨gb165, 2, none⟩ = some (.int .i64 a0_2) := (qce BK165.out 2).trans rfl; have hcz20_3 : w19.cell? ⟨gb165, 3, none⟩ = some (.int .i64 a0_3) := (qce BK165.out 3).trans rfl; have hcz20_4 : w19.cell? ⟨gb165, 4, none⟩ = some (.int .i64 a0_4) := (qce BK165.out 4).trans rfl; have hfz20_0 := qbe BK165.out 0; have hfz20_1 := qbe BK165.out 1; have hfz20_2 := qbe BK165.out 2; have hfz20_3 := qbe BK165.out 3; have hfz20_4 := qbe BK165.out 4) | ((with_reducible refine qte (f := 77) rfl ?_); refine goesL_ (some 7) rfl rfl Try.func77 (by kernel_rfl) rfl #[.int .i64 a0_0, .int .i64 (-1024), .int .i64 1024] rfl (by (try simp only [List.map_toArray, List.map_cons, List.map_nil]); first | done | rfl | (simp only [List.length_drop, List.length_take]; rfl)) ?_; (with_reducible refine (spec_l1In.calls a0_0 (-1024) 1024 false _ A2.out).mono ?_); rintro e w' ⟨rfl, ⟨nd, rfl⟩⟩; refine ⟨_, rfl, ?_⟩))
  go_ret
  exact ⟨by first | rfl | (simp [errW_none, errW_some] <;> rfl) | (simp [*, errW_none, errW_some] <;> rfl), by repeat (first | (with_reducible first | exact HB.out | apply q1e | apply q2e | apply q3e | refine q4e ?_ GE165.out) | exact HB.out)⟩
/-! ### spec_FlightOf: function 70 -/
def spec_FlightOf.l0 : Nat → Int → Int → Int → Option (Int)
  | 0, _, _, _ => none
  | k + 1, x3, x4, x5 => if x4 > 0 then (spec_FlightOf.l0 k (wrap64 (x3 + 1)) (wrap64 (x4 + x5)) (wrap64 (x5 - 2))) else (some x3)
def spec_FlightOf.f (k : Nat) (a0_0 : Int) (a0_1 : Int) (a0_2 : Int) (a0_3 : Int) (a0_4 : Int) : Option (Int) := (spec_IsJet.f a0_0 a0_1 a0_2 a0_3 a0_4).bind fun t172 => (if t172 = true then (spec_FlightOf.l0 k 1 a0_4 (wrap64 (a0_4 - 2))) else (some 0))
theorem spec_FlightOf.mono_l : ∀ k, (∀ y0 y1 y2, LeO (spec_FlightOf.l0 k y0 y1 y2) (spec_FlightOf.l0 (k + 1) y0 y1 y2))
  | 0 => fun _ _ _ r h => by simp [spec_FlightOf.l0] at h
  | k + 1 => by
    have ih0 := spec_FlightOf.mono_l k
    · intro y0 y1 y2
      unfold spec_FlightOf.l0
      repeat' first
      | (with_reducible exact ih0 _ _ _)
      | (with_reducible exact LeO.refl _)
      | (with_reducible exact LeO.none _)
      | (with_reducible refine LeO.ite ?_ ?_)
      | (with_reducible refine LeO.bind ?_ (fun _ => ?_))
      | exact ih0 _ _ _
      | exact LeO.none _
      | refine LeO.ite ?_ ?_
      | refine LeO.bind ?_ (fun _ => ?_)
theorem spec_FlightOf.mono : ∀ a0 a1 a2 a3 a4 k, LeO (spec_FlightOf.f k a0 a1 a2 a3 a4) (spec_FlightOf.f (k + 1) a0 a1 a2 a3 a4) := by
  intro a0 a1 a2 a3 a4 k
  have ih0 := spec_FlightOf.mono_l k
  unfold spec_FlightOf.f
  repeat' first
      | (with_reducible exact ih0 _ _ _)
      | (with_reducible exact LeO.refl _)
      | (with_reducible exact LeO.none _)
      | (with_reducible refine LeO.ite ?_ ?_)
      | (with_reducible refine LeO.bind ?_ (fun _ => ?_))
      | exact ih0 _ _ _
      | exact LeO.none _
      | refine LeO.ite ?_ ?_
      | refine LeO.bind ?_ (fun _ => ?_)
set_option maxHeartbeats 8000000 in
set_option maxRecDepth 100000 in
theorem spec_FlightOf.calls (k : Nat) (a0_0 : Int) (a0_1 : Int) (a0_2 : Int) (a0_3 : Int) (a0_4 : Int) (r : Int) (w : World) (h : spec_FlightOf.f k a0_0 a0_1 a0_2 a0_3 a0_4 = some r) :
 Calls Try.prog 70 #[.agg #[.int .i64 a0_0, .int .i64 a0_1, .int .i64 a0_2, .int .i64 a0_3, .int .i64 a0_4]] w fun e w' => e = .returned (.int .i64 r) ∧ Below w.heap.size w w' := by
 have hu28 := Try.underlying28
 have HB := qge (Below.refl w.heap.size w)
 have H : ((spec_IsJet.f a0_0 a0_1 a0_2 a0_3 a0_4).bind fun t172 => (if t172 = true then (spec_FlightOf.l0 k 1 a0_4 (wrap64 (a0_4 - 2))) else (some 0))) = some r := h
 clear h
 replace H := Option.bind_eq_some_iff.mp H
 obtain ⟨t172, A20, H⟩ := H
 replace H : (if t172 = true then (spec_FlightOf.l0 k 1 a0_4 (wrap64 (a0_4 - 2))) else (some 0)) = some r := H
 have A2 := qge A20
 clear A20
 by_cases c3 : t172 = true
 ·subst c3
  have H1 : (spec_FlightOf.l0 k 1 a0_4 (wrap64 (a0_4 - 2))) = some r := by rw [if_pos rfl] at H; exact H
  clear H
  have H := H1
  clear H1
  have H' := qge H
  clear H
  go_enter Try.func70, Try.ntmps70
  go_wp2_with (first | ((with_reducible refine que (N := 1) rfl ?_); refine qhe ?hg (N := 1) ?hd (cs := #[.int .i64 a0_0, .int .i64 a0_1, .int .i64 a0_2, .int .i64 a0_3, .int .i64 a0_4]) (t := 28) ?hr ?_; (case hd => rfl); (case hg => rfl); (case hr => first | (go_simp; done) | (go_simp; rfl)); intro gb171 hg w4 hbox hb; have n0_ := qge (q9e (by repeat (first | (with_reducible first | exact HB.out | apply q1e | apply q2e | apply q3e) | exact HB.out)) hb); have n1_ := qge (hbox); have n2_ := qge ((by rw [hg]; exact (qae (by repeat (first | (with_reducible first | exact HB.out | apply q1e | apply q2e | apply q3e) | exact HB.out))) : w.heap.size ≤ gb171)); have n3_ := qge ((by rw [hg]; exact (qae (by repeat (first | (with_reducible first | exact HB.out | apply q1e | apply q2e | apply q3e) | exact HB.out))) : w.heap.size ≤ gb171)); clear HB; have HB := n0_; have BK171 := n1_; have GW171 := n2_; have GE171 := n3_; clear n0_ n1_ n2_ n3_; clear hb hbox hg; have hcz5_0 : w4.cell? ⟨gb171, 0, none⟩ = some (.int .i64 a0_0) := (qce BK171.out 0).trans rfl; have hcz5_1 : w4.cell? ⟨gb171, 1, none⟩ = some (.int .i64 a0_1) := (qce BK171.out 1).trans rfl; have hcz5_2 : w4.cell? ⟨gb171, 2, none⟩ = some (.int .i64 a0_2) := (qce BK171.out 2).trans rfl; have hcz5_3 : w4.cell? ⟨gb171, 3, none⟩ = some (.int .i64 a0_3) := (qce BK171.out 3).trans rfl; have hcz5_4 : w4.cell? ⟨gb171, 4, none⟩ = some (.int .i64 a0_4) := (qce BK171.out 4).trans rfl; have hfz5_0 := qbe BK171.out 0; have hfz5_1 := qbe BK171.out 1; have hfz5_2 := qbe BK171.out 2; have hfz5_3 := qbe BK171.out 3; have hfz5_4 := qbe BK171.out 4) | ((with_reducible refine qte (f := 55) rfl ?_); refine goesL_ (some 7) rfl rfl Try.func55 (by kernel_rfl) rfl #[.agg #[.int .i64 a0_0, .int .i64 a0_1, .int .i64 a0_2, .int .i64 a0_3, .int .i64 a0_4]] rfl (by (try simp only [List.map_toArray, List.map_cons, List.map_nil]); first | done | rfl | (simp only [List.length_drop, List.length_take]; rfl)) ?_; (with_reducible refine (spec_IsJet.calls a0_0 a0_1 a0_2 a0_3 a0_4 true _ A2.out).mono ?_); rintro e w6 ⟨rfl, hb⟩; refine ⟨_, rfl, ?_⟩; have n0_ := qge (q8e (g := gb171) (o := .cells #[.int .i64 a0_0, .int .i64 a0_1, .int .i64 a0_2, .int .i64 a0_3, .int .i64 a0_4] 28 (0, 0)) (by (with_reducible repeat (first | refine q5e ?_ _ | refine q6e ?_ | refine q7e ?_ _)); exact BK171.out) hb); have n1_ := qge (q9e (by repeat (first | (with_reducible first | exact HB.out | apply q1e | apply q2e | apply q3e | refine q4e ?_ GE171.out) | exact HB.out)) hb); clear BK171; clear HB; have BK171 := n0_; have HB := n1_; clear n0_ n1_; (try clear hb); (try clear hb2); (try clear hk); (try clear hi); have hcz7_0 : w6.cell? ⟨gb171, 0, none⟩ = some (.int .i64 a0_0) := (qce BK171.out 0).trans rfl; have hcz7_1 : w6.cell? ⟨gb171, 1, none⟩ = some (.int .i64 a0_1) := (qce BK171.out 1).trans rfl; have hcz7_2 : w6.cell? ⟨gb171, 2, none⟩ = some (.int .i64 a0_2) := (qce BK171.out 2).trans rfl; have hcz7_3 : w6.cell? ⟨gb171, 3, none⟩ = some (.int .i64 a0_3) := (qce BK171.out 3).trans rfl; have hcz7_4 : w6.cell? ⟨gb171, 4, none⟩ = some (.int .i64 a0_4) := (qce BK171.out 4).trans rfl; have hfz7_0 := qbe BK171.out 0; have hfz7_1 := qbe BK171.out 1; have hfz7_2 := qbe BK171.out 2; have hfz7_3 := qbe BK171.out 3; have hfz7_4 := qbe BK171.out 4))
  go_loopg [3, 4, 5] k (fun kq v3 v4 v5 w' => ∃ (x3_1 : Int) (x4_1 : Int) (x5_1 : Int), v3 = .int .i64 x3_1 ∧ v4 = .int .i64 x4_1 ∧ v5 = .int .i64 x5_1 ∧ Aside0 (spec_FlightOf.l0 kq x3_1 x4_1 x5_1 = some r) ∧ Aside0 (kq ≤ k) ∧ Aside0 (w'.heap[gb171]? = some (.cells #[.int .i64 a0_0, .int .i64 a0_1, .int .i64 a0_2, .int .i64 a0_3, .int .i64 a0_4] 28 (0, 0))) ∧ Aside0 (Below w.heap.size w w'))
  case atStart => exact ⟨(1), (a0_4), (wrap64 (a0_4 - 2)), (by first | rfl | (simp; done) | (simp [*]; done)), (by first | rfl | (simp; done) | (simp [*]; done)), (by first | rfl | (simp; done) | (simp [*]; done)), H', ⟨Nat.le_refl _⟩, ⟨by (with_reducible repeat (first | refine q5e ?_ _ | refine q6e ?_ | refine q7e ?_ _)); exact BK171.out⟩, ⟨by repeat (first | (with_reducible first | exact HB.out | apply q1e | apply q2e | apply q3e | refine q4e ?_ GE171.out) | exact HB.out)⟩⟩
  case round =>
   clear H'
   try clear p2
   try clear c3
   try clear c5
   try clear p6
   try clear c7
   try clear hcz5_0
   try clear hcz5_1
   try clear hcz5_2
   try clear hcz5_3
   try clear hcz5_4
   try clear hcz7_0
   try clear hcz7_1
   try clear hcz7_2
   try clear hcz7_3
   try clear hcz7_4
   try clear hfz5_0
   try clear hfz5_1
   try clear hfz5_2
   try clear hfz5_3
   try clear hfz5_4
   try clear hfz7_0
   try clear hfz7_1
   try clear hfz7_2
   try clear hfz7_3
   try clear hfz7_4
   obtain ⟨x3_1, x4_1, x5_1, rfl, rfl, rfl, HA, HK1, BK171, HB⟩ := hrel
   cases gk with
   | zero => exact absurd HA.out (by simp [spec_FlightOf.l0])
   | succ k1 =>
    have H := HA.out
    clear HA
    simp only [spec_FlightOf.l0] at H
    by_cases c8 : x4_1 > 0
    ·rw [if_pos c8] at H
     have c8b0 : decide (0 < x4_1) = true := decide_eq_true c8
     clear c8
     have H' := qge H
     clear H
     go_wp2
     go_roundg k1
     case measure => have := HK1.out; omega
     case rel => exact ⟨(wrap64 (x3_1 + 1)), (wrap64 (x4_1 + x5_1)), (wrap64 (x5_1 - 2)), (by first | rfl | (simp; done) | (simp [*]; done)), (by first | rfl | (simp; done) | (simp [*]; done)), (by first | rfl | (simp; done) | (simp [*]; done)), H', ⟨by have := HK1.out; omega⟩, ⟨by (with_reducible repeat (first | refine q5e ?_ _ | refine q6e ?_ | refine q7e ?_ _)); exact BK171.out⟩, ⟨by repeat (first | (with_reducible first | exact HB.out | apply q1e | apply q2e | apply q3e | refine q4e ?_ GE171.out) | exact HB.out)⟩⟩
    ·rw [if_neg c8] at H
     have c8b0 : decide (0 < x4_1) = false := decide_eq_false c8
     clear c8
     obtain rfl := Option.some.inj H
     go_wp2
     go_ret
     exact ⟨by first | rfl | (simp [errW_none, errW_some] <;> rfl) | (simp [*, errW_none, errW_some] <;> rfl), by repeat (first | (with_reducible first | exact HB.out | apply q1e | apply q2e | apply q3e | refine q4e ?_ GE171.out) | exact HB.out)⟩
 ·replace c3 := Bool.eq_false_iff.mpr c3
  subst c3
  have H1 : (some 0) = some r := by rw [if_neg (show ¬ (false = true) by decide)] at H; exact H
  clear H
  have H := H1
  clear H1
  obtain rfl := Option.some.inj H
  go_enter Try.func70, Try.ntmps70
  go_wp2_with (first | ((with_reducible refine que (N := 1) rfl ?_); refine qhe ?hg (N := 1) ?hd (cs := #[.int .i64 a0_0, .int .i64 a0_1, .int .i64 a0_2, .int .i64 a0_3, .int .i64 a0_4]) (t := 28) ?hr ?_; (case hd => rfl); (case hg => rfl); (case hr => first | (go_simp; done) | (go_simp; rfl)); intro gb171 hg w9 hbox hb; have n0_ := qge (q9e (by repeat (first | (with_reducible first | exact HB.out | apply q1e | apply q2e | apply q3e) | exact HB.out)) hb); have n1_ := qge (hbox); have n2_ := qge ((by rw [hg]; exact (qae (by repeat (first | (with_reducible first | exact HB.out | apply q1e | apply q2e | apply q3e) | exact HB.out))) : w.heap.size ≤ gb171)); have n3_ := qge ((by rw [hg]; exact (qae (by repeat (first | (with_reducible first | exact HB.out | apply q1e | apply q2e | apply q3e) | exact HB.out))) : w.heap.size ≤ gb171)); clear HB; have HB := n0_; have BK171 := n1_; have GW171 := n2_; have GE171 := n3_; clear n0_ n1_ n2_ n3_; clear hb hbox hg; have hcz10_0 : w9.cell? ⟨gb171, 0, none⟩ = some (.int .i64 a0_0) := (qce BK171.out 0).trans rfl; have hcz10_1 : w9.cell? ⟨gb171, 1, none⟩ = some (.int .i64 a0_1) := (qce BK171.out 1).trans rfl; have hcz10_2 : w9.cell? ⟨gb171, 2, none⟩ = some (.int .i64 a0_2) := (qce BK171.out 2).trans rfl; have hcz10_3 : w9.cell? ⟨gb171, 3, none⟩ = some (.int .i64 a0_3) := (qce BK171.out 3).trans rfl; have hcz10_4 : w9.cell? ⟨gb171, 4, none⟩ = some (.int .i64 a0_4) := (qce BK171.out 4).trans rfl; have hfz10_0 := qbe BK171.out 0; have hfz10_1 := qbe BK171.out 1; have hfz10_2 := qbe BK171.out 2; have hfz10_3 := qbe BK171.out 3; have hfz10_4 := qbe BK171.out 4) | ((with_reducible refine qte (f := 55) rfl ?_); refine goesL_ (some 7) rfl rfl Try.func55 (by kernel_rfl) rfl #[.agg #[.int .i64 a0_0, .int .i64 a0_1, .int .i64 a0_2, .int .i64 a0_3, .int .i64 a0_4]] rfl (by (try simp only [List.map_toArray, List.map_cons, List.map_nil]); first | done | rfl | (simp only [List.length_drop, List.length_take]; rfl)) ?_; (with_reducible refine (spec_IsJet.calls a0_0 a0_1 a0_2 a0_3 a0_4 false _ A2.out).mono ?_); rintro e w11 ⟨rfl, hb⟩; refine ⟨_, rfl, ?_⟩; have n0_ := qge (q8e (g := gb171) (o := .cells #[.int .i64 a0_0, .int .i64 a0_1, .int .i64 a0_2, .int .i64 a0_3, .int .i64 a0_4] 28 (0, 0)) (by (with_reducible repeat (first | refine q5e ?_ _ | refine q6e ?_ | refine q7e ?_ _)); exact BK171.out) hb); have n1_ := qge (q9e (by repeat (first | (with_reducible first | exact HB.out | apply q1e | apply q2e | apply q3e | refine q4e ?_ GE171.out) | exact HB.out)) hb); clear BK171; clear HB; have BK171 := n0_; have HB := n1_; clear n0_ n1_; (try clear hb); (try clear hb2); (try clear hk); (try clear hi)))
  go_ret
  exact ⟨by first | rfl | (simp [errW_none, errW_some] <;> rfl) | (simp [*, errW_none, errW_some] <;> rfl), by repeat (first | (with_reducible first | exact HB.out | apply q1e | apply q2e | apply q3e | refine q4e ?_ GE171.out) | exact HB.out)⟩
/-! ### spec_l2Mod: function 90 -/
def spec_l2Mod.f (a0 : Int) : Option (Int) := if (Int.tmod a0 4) < 0 then (some (wrap64 ((Int.tmod a0 4) + 4))) else (some (Int.tmod a0 4))
set_option maxHeartbeats 8000000 in
set_option maxRecDepth 100000 in
theorem spec_l2Mod.calls (a0 : Int) (r : Int) (w : World) (h : spec_l2Mod.f a0 = some r) :
 Calls Try.prog 90 #[.int .i64 a0] w fun e w' => e = .returned (.int .i64 r) ∧ Drawn0 w w' := by
 have H : (if (Int.tmod a0 4) < 0 then (some (wrap64 ((Int.tmod a0 4) + 4))) else (some (Int.tmod a0 4))) = some r := h
 clear h
 by_cases c2 : (Int.tmod a0 4) < 0
 ·rw [if_pos c2] at H
  have c2b0 : decide ((Int.tmod a0 4) < 0) = true := decide_eq_true c2
  clear c2
  obtain rfl := Option.some.inj H
  go_enter Try.func90, Try.ntmps90
  go_wp2
  go_ret
  exact ⟨by first | rfl | (simp; done) | (simp [*]; done), by repeat (first | exact Drawn0.refl _ | apply Drawn0.step)⟩
 ·rw [if_neg c2] at H
  have c2b0 : decide ((Int.tmod a0 4) < 0) = false := decide_eq_false c2
  clear c2
  obtain rfl := Option.some.inj H
  go_enter Try.func90, Try.ntmps90
  go_wp2
  go_ret
  exact ⟨by first | rfl | (simp; done) | (simp [*]; done), by repeat (first | exact Drawn0.refl _ | apply Drawn0.step)⟩
/-! ### spec_l2Turn: function 62 -/
def spec_l2Turn.l0 : Nat → Int → Int → Int → Option (Int × Int)
  | 0, _, _, _ => none
  | k + 1, x5, x174000, x174001 => if x5 > 0 then (spec_l2Turn.l0 k (wrap64 (x5 - 1)) (wrap64 (-x174001)) x174000) else (some (x174000, x174001))
def spec_l2Turn.f (k : Nat) (a0_0 : Int) (a0_1 : Int) (a1 : Int) : Option (Int × Int) := (spec_l2Mod.f a1).bind fun t175 => (spec_l2Turn.l0 k t175 a0_0 a0_1)
theorem spec_l2Turn.mono_l : ∀ k, (∀ y0 y1 y2, LeO (spec_l2Turn.l0 k y0 y1 y2) (spec_l2Turn.l0 (k + 1) y0 y1 y2))
  | 0 => fun _ _ _ r h => by simp [spec_l2Turn.l0] at h
  | k + 1 => by
    have ih0 := spec_l2Turn.mono_l k
    · intro y0 y1 y2
      unfold spec_l2Turn.l0
      repeat' first
      | (with_reducible exact ih0 _ _ _)
      | (with_reducible exact LeO.refl _)
      | (with_reducible exact LeO.none _)
      | (with_reducible refine LeO.ite ?_ ?_)
      | (with_reducible refine LeO.bind ?_ (fun _ => ?_))
      | exact ih0 _ _ _
      | exact LeO.none _
      | refine LeO.ite ?_ ?_
      | refine LeO.bind ?_ (fun _ => ?_)
theorem spec_l2Turn.mono : ∀ a0 a1 a2 k, LeO (spec_l2Turn.f k a0 a1 a2) (spec_l2Turn.f (k + 1) a0 a1 a2) := by
  intro a0 a1 a2 k
  have ih0 := spec_l2Turn.mono_l k
  unfold spec_l2Turn.f
  repeat' first
      | (with_reducible exact ih0 _ _ _)
      | (with_reducible exact LeO.refl _)
      | (with_reducible exact LeO.none _)
      | (with_reducible refine LeO.ite ?_ ?_)
      | (with_reducible refine LeO.bind ?_ (fun _ => ?_))
      | exact ih0 _ _ _
      | exact LeO.none _
      | refine LeO.ite ?_ ?_
      | refine LeO.bind ?_ (fun _ => ?_)
set_option maxHeartbeats 8000000 in
set_option maxRecDepth 100000 in
theorem spec_l2Turn.calls (k : Nat) (a0_0 : Int) (a0_1 : Int) (a1 : Int) (r1 : Int) (r2 : Int) (w : World) (h : spec_l2Turn.f k a0_0 a0_1 a1 = some (r1, r2)) :
 Calls Try.prog 62 #[.agg #[.int .i64 a0_0, .int .i64 a0_1], .int .i64 a1] w fun e w' => e = .returned (.agg #[.int .i64 r1, .int .i64 r2]) ∧ Below w.heap.size w w' := by
 have hu26 := Try.underlying26
 have HB := qge (Below.refl w.heap.size w)
 have H : ((spec_l2Mod.f a1).bind fun t175 => (spec_l2Turn.l0 k t175 a0_0 a0_1)) = some (r1, r2) := h
 clear h
 replace H := Option.bind_eq_some_iff.mp H
 obtain ⟨t175, A30, H⟩ := H
 replace H : (spec_l2Turn.l0 k t175 a0_0 a0_1) = some (r1, r2) := H
 have A3 := qge A30
 clear A30
 have H' := qge H
 clear H
 go_enter Try.func62, Try.ntmps62
 go_wp2_with (first | ((with_reducible refine que (N := 2) rfl ?_); refine qhe ?hg (N := 2) ?hd (cs := #[.int .i64 a0_0, .int .i64 a0_1]) (t := 26) ?hr ?_; (case hd => rfl); (case hg => rfl); (case hr => first | (go_simp; done) | (go_simp; rfl)); intro gb173 hg w4 hbox hb; have n0_ := qge (q9e (by repeat (first | (with_reducible first | exact HB.out | apply q1e | apply q2e | apply q3e) | exact HB.out)) hb); have n1_ := qge (hbox); have n2_ := qge ((by rw [hg]; exact (qae (by repeat (first | (with_reducible first | exact HB.out | apply q1e | apply q2e | apply q3e) | exact HB.out))) : w.heap.size ≤ gb173)); have n3_ := qge ((by rw [hg]; exact (qae (by repeat (first | (with_reducible first | exact HB.out | apply q1e | apply q2e | apply q3e) | exact HB.out))) : w.heap.size ≤ gb173)); clear HB; have HB := n0_; have BK173 := n1_; have GW173 := n2_; have GE173 := n3_; clear n0_ n1_ n2_ n3_; clear hb hbox hg) | ((with_reducible refine que (N := 4) rfl ?_); refine qhe ?hg (N := 4) ?hd (cs := #[.int .i64 0, .int .i64 0]) (t := 26) ?hr ?_; (case hd => rfl); (case hg => rfl); (case hr => first | (go_simp; done) | (go_simp; rfl)); intro gb174 hg w5 hbox hb; have n0_ := qge (q8e (g := gb173) (o := .cells #[.int .i64 a0_0, .int .i64 a0_1] 26 (0, 0)) (by (with_reducible repeat (first | refine q5e ?_ _ | refine q6e ?_ | refine q7e ?_ _)); exact BK173.out) hb); have n1_ := qge (q9e (by repeat (first | (with_reducible first | exact HB.out | apply q1e | apply q2e | apply q3e | refine q4e ?_ GE173.out) | exact HB.out)) hb); have n2_ := qge (hbox); have n3_ := qge ((by rw [hg]; exact (qae (by repeat (first | (with_reducible first | exact HB.out | apply q1e | apply q2e | apply q3e | refine q4e ?_ GE173.out) | exact HB.out))) : w.heap.size ≤ gb174)); have n4_ := qge ((by rw [hg]; exact (qae (by repeat (first | (with_reducible first | exact HB.out | apply q1e | apply q2e | apply q3e | refine q4e ?_ GE173.out) | exact HB.out))) : w.heap.size ≤ gb174)); have n5_ := qge ((by rw [hg]; exact qve (qde (g := gb173) (o := .cells #[.int .i64 a0_0, .int .i64 a0_1] 26 (0, 0)) (by (with_reducible repeat (first | refine q5e ?_ _ | refine q6e ?_ | refine q7e ?_ _)); exact BK173.out)) : gb173 ≠ gb174)); have n6_ := qge ((by rw [hg]; exact qwe (qde (g := gb173) (o := .cells #[.int .i64 a0_0, .int .i64 a0_1] 26 (0, 0)) (by (with_reducible repeat (first | refine q5e ?_ _ | refine q6e ?_ | refine q7e ?_ _)); exact BK173.out)) : gb174 ≠ gb173)); clear BK173; clear HB; have BK173 := n0_; have HB := n1_; have BK174 := n2_; have GW174 := n3_; have GE174 := n4_; have NB173_174 := n5_; have NB174_173 := n6_; clear n0_ n1_ n2_ n3_ n4_ n5_ n6_; clear hb hbox hg) | ((with_reducible refine qte (f := 90) rfl ?_); refine goesL_ (some 7) rfl rfl Try.func90 (by kernel_rfl) rfl #[.int .i64 a1] rfl (by (try simp only [List.map_toArray, List.map_cons, List.map_nil]); first | done | rfl | (simp only [List.length_drop, List.length_take]; rfl)) ?_; (with_reducible refine (spec_l2Mod.calls a1 t175 _ A3.out).mono ?_); rintro e w' ⟨rfl, ⟨nd, rfl⟩⟩; refine ⟨_, rfl, ?_⟩))
 go_loopg [5] k (fun kq v5 w' => ∃ (x5_1 : Int) (x174000_1 : Int) (x174001_1 : Int), v5 = .int .i64 x5_1 ∧ Aside0 (spec_l2Turn.l0 kq x5_1 x174000_1 x174001_1 = some (r1, r2)) ∧ Aside0 (kq ≤ k) ∧ Aside0 (w'.heap[gb173]? = some (.cells #[.int .i64 x174000_1, .int .i64 x174001_1] 26 (0, 0))) ∧ Aside0 (w'.heap[gb174]? = some (.cells #[.int .i64 0, .int .i64 0] 26 (0, 0))) ∧ Aside0 (Below w.heap.size w w'))
 case atStart => exact ⟨(t175), (a0_0), (a0_1), (by first | rfl | (simp; done) | (simp [*]; done)), H', ⟨Nat.le_refl _⟩, ⟨by (with_reducible repeat (first | refine q5e ?_ _ | refine q6e ?_ | refine q7e ?_ _)); exact BK173.out⟩, ⟨by (with_reducible repeat (first | refine q5e ?_ _ | refine q6e ?_ | refine q7e ?_ _)); exact BK174.out⟩, ⟨by repeat (first | (with_reducible first | exact HB.out | apply q1e | apply q2e | apply q3e | refine q4e ?_ GE173.out | refine q4e ?_ GE174.out) | exact HB.out)⟩⟩
 case round =>
  clear H'
  try clear p2
  obtain ⟨x5_1, x174000_1, x174001_1, rfl, HA, HK1, BK173, BK174, HB⟩ := hrel
  cases gk with
  | zero => exact absurd HA.out (by simp [spec_l2Turn.l0])
  | succ k1 =>
   have H := HA.out
   clear HA
   simp only [spec_l2Turn.l0] at H
   by_cases c6 : x5_1 > 0
   ·rw [if_pos c6] at H
    have c6b0 : decide (0 < x5_1) = true := decide_eq_true c6
    clear c6
    have H' := qge H
    clear H
    have hnb7 := NB173_174.out
    have hnc7 := NB174_173.out
    have hcz8_0 : wr.cell? ⟨gb173, 0, none⟩ = some (.int .i64 x174000_1) := (qce BK173.out 0).trans rfl
    have hcz8_1 : wr.cell? ⟨gb173, 1, none⟩ = some (.int .i64 x174001_1) := (qce BK173.out 1).trans rfl
    have hfz8_0 := qbe BK173.out 0
    have hfz8_1 := qbe BK173.out 1
    go_wp2
    go_roundg k1
    case measure => have := HK1.out; omega
    case rel => exact ⟨(wrap64 (x5_1 - 1)), (wrap64 (-x174001_1)), (x174000_1), (by first | rfl | (simp; done) | (simp [*]; done)), H', ⟨by have := HK1.out; omega⟩, ⟨by (with_reducible repeat (first | refine q5e ?_ _ | refine q6e ?_ | refine q7e ?_ _)); refine qfe (cs := #[.int .i64 (wrap64 (-x174001_1)), .int .i64 x174001_1]) ?_ 1 _ rfl; (with_reducible repeat (first | refine q5e ?_ _ | refine q6e ?_ | refine q7e ?_ _)); refine qfe (cs := #[.int .i64 x174000_1, .int .i64 x174001_1]) ?_ 0 _ rfl; (with_reducible repeat (first | refine q5e ?_ _ | refine q6e ?_ | refine q7e ?_ _)); exact BK173.out⟩, ⟨by (with_reducible repeat (first | refine q5e ?_ _ | refine q6e ?_ | refine q7e ?_ _)); refine qee ?_ NB174_173.out _; (with_reducible repeat (first | refine q5e ?_ _ | refine q6e ?_ | refine q7e ?_ _)); refine qee ?_ NB174_173.out _; (with_reducible repeat (first | refine q5e ?_ _ | refine q6e ?_ | refine q7e ?_ _)); exact BK174.out⟩, ⟨by repeat (first | (with_reducible first | exact HB.out | apply q1e | apply q2e | apply q3e | refine q4e ?_ GE173.out | refine q4e ?_ GE174.out) | exact HB.out)⟩⟩
   ·rw [if_neg c6] at H
    have c6b0 : decide (0 < x5_1) = false := decide_eq_false c6
    clear c6
    simp only [Option.some.injEq, Prod.mk.injEq] at H
    obtain ⟨rfl, rfl⟩ := H
    have hnb9 := NB173_174.out
    have hnc9 := NB174_173.out
    have hcz10_0 : wr.cell? ⟨gb173, 0, none⟩ = some (.int .i64 x174000_1) := (qce BK173.out 0).trans rfl
    have hcz10_1 : wr.cell? ⟨gb173, 1, none⟩ = some (.int .i64 x174001_1) := (qce BK173.out 1).trans rfl
    have hfz10_0 := qbe BK173.out 0
    have hfz10_1 := qbe BK173.out 1
    have hcz11_0 : wr.cell? ⟨gb174, 0, none⟩ = some (.int .i64 0) := (qce BK174.out 0).trans rfl
    have hcz11_1 : wr.cell? ⟨gb174, 1, none⟩ = some (.int .i64 0) := (qce BK174.out 1).trans rfl
    have hfz11_0 := qbe BK174.out 0
    have hfz11_1 := qbe BK174.out 1
    go_wp2
    refine bodyPost_ret (results_cell_row rfl _ _ gb174 26 #[.int .i64 x174000_1, .int .i64 x174001_1] (0, 0) _ rfl (by (with_reducible repeat (first | refine q5e ?_ _ | refine q6e ?_ | refine q7e ?_ _)); refine qfe (cs := #[.int .i64 x174000_1, .int .i64 0]) ?_ 1 _ rfl; (with_reducible repeat (first | refine q5e ?_ _ | refine q6e ?_ | refine q7e ?_ _)); refine qfe (cs := #[.int .i64 0, .int .i64 0]) ?_ 0 _ rfl; (with_reducible repeat (first | refine q5e ?_ _ | refine q6e ?_ | refine q7e ?_ _)); exact BK174.out) Try.underlying26 rfl (by kernel_rfl)) rfl ?_
    exact ⟨by first | rfl | (simp [errW_none, errW_some] <;> rfl) | (simp [*, errW_none, errW_some] <;> rfl), by repeat (first | (with_reducible first | exact HB.out | apply q1e | apply q2e | apply q3e | refine q4e ?_ GE173.out | refine q4e ?_ GE174.out) | exact HB.out)⟩
/-! ### spec_l2Add: function 89 -/
def spec_l2Add.f (a0_0 : Int) (a0_1 : Int) (a1_0 : Int) (a1_1 : Int) : Option (Int × Int) := some (wrap64 (a0_0 + a1_0), wrap64 (a0_1 + a1_1))
set_option maxHeartbeats 8000000 in
set_option maxRecDepth 100000 in
theorem spec_l2Add.calls (a0_0 : Int) (a0_1 : Int) (a1_0 : Int) (a1_1 : Int) (r1 : Int) (r2 : Int) (w : World) (h : spec_l2Add.f a0_0 a0_1 a1_0 a1_1 = some (r1, r2)) :
 Calls Try.prog 89 #[.agg #[.int .i64 a0_0, .int .i64 a0_1], .agg #[.int .i64 a1_0, .int .i64 a1_1]] w fun e w' => e = .returned (.agg #[.int .i64 r1, .int .i64 r2]) ∧ Below w.heap.size w w' := by
 have hu26 := Try.underlying26
 have HB := qge (Below.refl w.heap.size w)
 have H : (some (wrap64 (a0_0 + a1_0), wrap64 (a0_1 + a1_1))) = some (r1, r2) := h
 clear h
 simp only [Option.some.injEq, Prod.mk.injEq] at H
 obtain ⟨rfl, rfl⟩ := H
 go_enter Try.func89, Try.ntmps89
 go_wp2_with (first | ((with_reducible refine que (N := 2) rfl ?_); refine qhe ?hg (N := 2) ?hd (cs := #[.int .i64 a0_0, .int .i64 a0_1]) (t := 26) ?hr ?_; (case hd => rfl); (case hg => rfl); (case hr => first | (go_simp; done) | (go_simp; rfl)); intro gb176 hg w3 hbox hb; have n0_ := qge (q9e (by repeat (first | (with_reducible first | exact HB.out | apply q1e | apply q2e | apply q3e) | exact HB.out)) hb); have n1_ := qge (hbox); have n2_ := qge ((by rw [hg]; exact (qae (by repeat (first | (with_reducible first | exact HB.out | apply q1e | apply q2e | apply q3e) | exact HB.out))) : w.heap.size ≤ gb176)); have n3_ := qge ((by rw [hg]; exact (qae (by repeat (first | (with_reducible first | exact HB.out | apply q1e | apply q2e | apply q3e) | exact HB.out))) : w.heap.size ≤ gb176)); clear HB; have HB := n0_; have BK176 := n1_; have GW176 := n2_; have GE176 := n3_; clear n0_ n1_ n2_ n3_; clear hb hbox hg) | ((with_reducible refine que (N := 3) rfl ?_); refine qhe ?hg (N := 3) ?hd (cs := #[.int .i64 a1_0, .int .i64 a1_1]) (t := 26) ?hr ?_; (case hd => rfl); (case hg => rfl); (case hr => first | (go_simp; done) | (go_simp; rfl)); intro gb177 hg w4 hbox hb; have n0_ := qge (q8e (g := gb176) (o := .cells #[.int .i64 a0_0, .int .i64 a0_1] 26 (0, 0)) (by (with_reducible repeat (first | refine q5e ?_ _ | refine q6e ?_ | refine q7e ?_ _)); exact BK176.out) hb); have n1_ := qge (q9e (by repeat (first | (with_reducible first | exact HB.out | apply q1e | apply q2e | apply q3e | refine q4e ?_ GE176.out) | exact HB.out)) hb); have n2_ := qge (hbox); have n3_ := qge ((by rw [hg]; exact (qae (by repeat (first | (with_reducible first | exact HB.out | apply q1e | apply q2e | apply q3e | refine q4e ?_ GE176.out) | exact HB.out))) : w.heap.size ≤ gb177)); have n4_ := qge ((by rw [hg]; exact (qae (by repeat (first | (with_reducible first | exact HB.out | apply q1e | apply q2e | apply q3e | refine q4e ?_ GE176.out) | exact HB.out))) : w.heap.size ≤ gb177)); have n5_ := qge ((by rw [hg]; exact qve (qde (g := gb176) (o := .cells #[.int .i64 a0_0, .int .i64 a0_1] 26 (0, 0)) (by (with_reducible repeat (first | refine q5e ?_ _ | refine q6e ?_ | refine q7e ?_ _)); exact BK176.out)) : gb176 ≠ gb177)); have n6_ := qge ((by rw [hg]; exact qwe (qde (g := gb176) (o := .cells #[.int .i64 a0_0, .int .i64 a0_1] 26 (0, 0)) (by (with_reducible repeat (first | refine q5e ?_ _ | refine q6e ?_ | refine q7e ?_ _)); exact BK176.out)) : gb177 ≠ gb176)); clear BK176; clear HB; have BK176 := n0_; have HB := n1_; have BK177 := n2_; have GW177 := n3_; have GE177 := n4_; have NB176_177 := n5_; have NB177_176 := n6_; clear n0_ n1_ n2_ n3_ n4_ n5_ n6_; clear hb hbox hg) | ((with_reducible refine que (N := 4) rfl ?_); refine qhe ?hg (N := 4) ?hd (cs := #[.int .i64 0, .int .i64 0]) (t := 26) ?hr ?_; (case hd => rfl); (case hg => rfl); (case hr => first | (go_simp; done) | (go_simp; rfl)); intro gb178 hg w5 hbox hb; have n0_ := qge (q8e (g := gb176) (o := .cells #[.int .i64 a0_0, .int .i64 a0_1] 26 (0, 0)) (by (with_reducible repeat (first | refine q5e ?_ _ | refine q6e ?_ | refine q7e ?_ _)); exact BK176.out) hb); have n1_ := qge (q8e (g := gb177) (o := .cells #[.int .i64 a1_0, .int .i64 a1_1] 26 (0, 0)) (by (with_reducible repeat (first | refine q5e ?_ _ | refine q6e ?_ | refine q7e ?_ _)); exact BK177.out) hb); have n2_ := qge (q9e (by repeat (first | (with_reducible first | exact HB.out | apply q1e | apply q2e | apply q3e | refine q4e ?_ GE176.out | refine q4e ?_ GE177.out) | exact HB.out)) hb); have n3_ := qge (hbox); have n4_ := qge ((by rw [hg]; exact (qae (by repeat (first | (with_reducible first | exact HB.out | apply q1e | apply q2e | apply q3e | refine q4e ?_ GE176.out | refine q4e ?_ GE177.out) | exact HB.out))) : w.heap.size ≤ gb178)); have n5_ := qge ((by rw [hg]; exact (qae (by repeat (first | (with_reducible first | exact HB.out | apply q1e | apply q2e | apply q3e | refine q4e ?_ GE176.out | refine q4e ?_ GE177.out) | exact HB.out))) : w.heap.size ≤ gb178)); have n6_ := qge ((by rw [hg]; exact qve (qde (g := gb176) (o := .cells #[.int .i64 a0_0, .int .i64 a0_1] 26 (0, 0)) (by (with_reducible repeat (first | refine q5e ?_ _ | refine q6e ?_ | refine q7e ?_ _)); exact BK176.out)) : gb176 ≠ gb178)); have n7_ := qge ((by rw [hg]; exact qwe (qde (g := gb176) (o := .cells #[.int .i64 a0_0, .int .i64 a0_1] 26 (0, 0)) (by (with_reducible repeat (first | refine q5e ?_ _ | refine q6e ?_ | refine q7e ?_ _)); exact BK176.out)) : gb178 ≠ gb176)); have n8_ := qge ((by rw [hg]; exact qve (qde (g := gb177) (o := .cells #[.int .i64 a1_0, .int .i64 a1_1] 26 (0, 0)) (by (with_reducible repeat (first | refine q5e ?_ _ | refine q6e ?_ | refine q7e ?_ _)); exact BK177.out)) : gb177 ≠ gb178)); have n9_ := qge ((by rw [hg]; exact qwe (qde (g := gb177) (o := .cells #[.int .i64 a1_0, .int .i64 a1_1] 26 (0, 0)) (by (with_reducible repeat (first | refine q5e ?_ _ | refine q6e ?_ | refine q7e ?_ _)); exact BK177.out)) : gb178 ≠ gb177)); clear BK176; clear BK177; clear HB; have BK176 := n0_; have BK177 := n1_; have HB := n2_; have BK178 := n3_; have GW178 := n4_; have GE178 := n5_; have NB176_178 := n6_; have NB178_176 := n7_; have NB177_178 := n8_; have NB178_177 := n9_; clear n0_ n1_ n2_ n3_ n4_ n5_ n6_ n7_ n8_ n9_; clear hb hbox hg; have hnb6 := NB176_177.out; have hnc6 := NB177_176.out; have hnb7 := NB176_178.out; have hnc7 := NB178_176.out; have hcz8_0 : w5.cell? ⟨gb176, 0, none⟩ = some (.int .i64 a0_0) := (qce BK176.out 0).trans rfl; have hcz8_1 : w5.cell? ⟨gb176, 1, none⟩ = some (.int .i64 a0_1) := (qce BK176.out 1).trans rfl; have hfz8_0 := qbe BK176.out 0; have hfz8_1 := qbe BK176.out 1; have hnb9 := NB177_178.out; have hnc9 := NB178_177.out; have hcz10_0 : w5.cell? ⟨gb177, 0, none⟩ = some (.int .i64 a1_0) := (qce BK177.out 0).trans rfl; have hcz10_1 : w5.cell? ⟨gb177, 1, none⟩ = some (.int .i64 a1_1) := (qce BK177.out 1).trans rfl; have hfz10_0 := qbe BK177.out 0; have hfz10_1 := qbe BK177.out 1; have hcz11_0 : w5.cell? ⟨gb178, 0, none⟩ = some (.int .i64 0) := (qce BK178.out 0).trans rfl; have hcz11_1 : w5.cell? ⟨gb178, 1, none⟩ = some (.int .i64 0) := (qce BK178.out 1).trans rfl; have hfz11_0 := qbe BK178.out 0; have hfz11_1 := qbe BK178.out 1))
 refine bodyPost_ret (results_cell_row rfl _ _ gb178 26 #[.int .i64 (wrap64 (a0_0 + a1_0)), .int .i64 (wrap64 (a0_1 + a1_1))] (0, 0) _ rfl (by (with_reducible repeat (first | refine q5e ?_ _ | refine q6e ?_ | refine q7e ?_ _)); refine qfe (cs := #[.int .i64 (wrap64 (a0_0 + a1_0)), .int .i64 0]) ?_ 1 _ rfl; (with_reducible repeat (first | refine q5e ?_ _ | refine q6e ?_ | refine q7e ?_ _)); refine qfe (cs := #[.int .i64 0, .int .i64 0]) ?_ 0 _ rfl; (with_reducible repeat (first | refine q5e ?_ _ | refine q6e ?_ | refine q7e ?_ _)); exact BK178.out) Try.underlying26 rfl (by kernel_rfl)) rfl ?_
 exact ⟨by first | rfl | (simp [errW_none, errW_some] <;> rfl) | (simp [*, errW_none, errW_some] <;> rfl), by repeat (first | (with_reducible first | exact HB.out | apply q1e | apply q2e | apply q3e | refine q4e ?_ GE176.out | refine q4e ?_ GE177.out | refine q4e ?_ GE178.out) | exact HB.out)⟩
/-! ### spec_l3Place: function 71 -/
def spec_l3Place.f (k : Nat) (a0_0 : Int) (a0_1 : Int) (a0_2 : Int) (a0_3 : Int) (a0_4 : Int) (a1 : Int) : Option (Int × Int) := (spec_l2Turn.f k (wrap64 (a1 * a0_3)) 0 a0_2).bind fun bt181 => ((spec_l2Add.f a0_0 a0_1 bt181.1 bt181.2).bind fun bt183 => (some (bt183.1, bt183.2)))
theorem spec_l3Place.mono : ∀ a0 a1 a2 a3 a4 a5 k, LeO (spec_l3Place.f k a0 a1 a2 a3 a4 a5) (spec_l3Place.f (k + 1) a0 a1 a2 a3 a4 a5) := by
  intro a0 a1 a2 a3 a4 a5 k
  unfold spec_l3Place.f
  repeat' first
      | (with_reducible exact spec_l2Turn.mono _ _ _ _)
      | (with_reducible exact LeO.refl _)
      | (with_reducible exact LeO.none _)
      | (with_reducible refine LeO.ite ?_ ?_)
      | (with_reducible refine LeO.bind ?_ (fun _ => ?_))
      | exact spec_l2Turn.mono _ _ _ _
      | exact LeO.none _
      | refine LeO.ite ?_ ?_
      | refine LeO.bind ?_ (fun _ => ?_)
def spec_l3Place.T1 : Bool × List (List Nat × List Nat) := (true, [([], []), ([0], [0]), ([], []), ([], []), ([3], [3]), ([2, 4], [2, 4]), ([5], [5]), ([], []), ([7], [7]), ([6, 8], [6, 8]), ([1, 9, 9], [1, 9]), ([10, 10, 0, 1, 2, 3, 4, 5, 6, 7, 8, 9, 10], [10])])
def spec_l3Place.B1 : List Nat := [0, 1, 0, 0, 8, 28, 60, 0, 128, 508, 1023, 2047]
theorem spec_l3Place.tab1 : rtab .any (opsOf Try.f71 1) = spec_l3Place.T1 := by kernel_rfl
theorem spec_l3Place.bits1 : waitsOk spec_l3Place.T1.2 spec_l3Place.B1 = true := by kernel_rfl
set_option maxHeartbeats 8000000 in
set_option maxRecDepth 100000 in
theorem spec_l3Place.calls (k : Nat) (a0_0 : Int) (a0_1 : Int) (a0_2 : Int) (a0_3 : Int) (a0_4 : Int) (a1 : Int) (r1 : Int) (r2 : Int) (w : World) (h : spec_l3Place.f k a0_0 a0_1 a0_2 a0_3 a0_4 a1 = some (r1, r2)) :
 Calls Try.prog 71 #[.agg #[.int .i64 a0_0, .int .i64 a0_1, .int .i64 a0_2, .int .i64 a0_3, .int .i64 a0_4], .int .i64 a1] w fun e w' => e = .returned (.agg #[.int .i64 r1, .int .i64 r2]) ∧ Below w.heap.size w w' := by
 have hu28 := Try.underlying28
 have hu26 := Try.underlying26
 have HB := qge (Below.refl w.heap.size w)
 have H : ((spec_l2Turn.f k (wrap64 (a1 * a0_3)) 0 a0_2).bind fun bt181 => ((spec_l2Add.f a0_0 a0_1 bt181.1 bt181.2).bind fun bt183 => (some (bt183.1, bt183.2)))) = some (r1, r2) := h
 clear h
 replace H := Option.bind_eq_some_iff.mp H
 obtain ⟨⟨t181, t182⟩, A30, H⟩ := H
 replace H : ((spec_l2Add.f a0_0 a0_1 t181 t182).bind fun bt183 => (some (bt183.1, bt183.2))) = some (r1, r2) := H
 have A3 := qge A30
 clear A30
 replace H := Option.bind_eq_some_iff.mp H
 obtain ⟨⟨t183, t184⟩, A40, H⟩ := H
 replace H : (some (t183, t184)) = some (r1, r2) := H
 have A4 := qge A40
 clear A40
 simp only [Option.some.injEq, Prod.mk.injEq] at H
 obtain ⟨rfl, rfl⟩ := H
 go_enter Try.func71, Try.ntmps71
 try go_wp2_with (first | ((with_reducible refine que (N := 2) rfl ?_); refine qhe ?hg (N := 2) ?hd (cs := #[.int .i64 a0_0, .int .i64 a0_1, .int .i64 a0_2, .int .i64 a0_3, .int .i64 a0_4]) (t := 28) ?hr ?_; (case hd => rfl); (case hg => rfl); (case hr => first | (go_simp; done) | (go_simp; rfl)); intro gb179 hg w5 hbox hb; have n0_ := qge (q9e (by repeat (first | (with_reducible first | exact HB.out | apply q1e | apply q2e | apply q3e) | exact HB.out)) hb); have n1_ := qge (hbox); have n2_ := qge ((by rw [hg]; exact (qae (by repeat (first | (with_reducible first | exact HB.out | apply q1e | apply q2e | apply q3e) | exact HB.out))) : w.heap.size ≤ gb179)); have n3_ := qge ((by rw [hg]; exact (qae (by repeat (first | (with_reducible first | exact HB.out | apply q1e | apply q2e | apply q3e) | exact HB.out))) : w.heap.size ≤ gb179)); clear HB; have HB := n0_; have BK179 := n1_; have GW179 := n2_; have GE179 := n3_; clear n0_ n1_ n2_ n3_; clear hb hbox hg) | ((with_reducible refine que (N := 4) rfl ?_); refine qhe ?hg (N := 4) ?hd (cs := #[.int .i64 0, .int .i64 0]) (t := 26) ?hr ?_; (case hd => rfl); (case hg => rfl); (case hr => first | (go_simp; done) | (go_simp; rfl)); intro gb180 hg w6 hbox hb; have n0_ := qge (q8e (g := gb179) (o := .cells #[.int .i64 a0_0, .int .i64 a0_1, .int .i64 a0_2, .int .i64 a0_3, .int .i64 a0_4] 28 (0, 0)) (by (with_reducible repeat (first | refine q5e ?_ _ | refine q6e ?_ | refine q7e ?_ _)); exact BK179.out) hb); have n1_ := qge (q9e (by repeat (first | (with_reducible first | exact HB.out | apply q1e | apply q2e | apply q3e | refine q4e ?_ GE179.out) | exact HB.out)) hb); have n2_ := qge (hbox); have n3_ := qge ((by rw [hg]; exact (qae (by repeat (first | (with_reducible first | exact HB.out | apply q1e | apply q2e | apply q3e | refine q4e ?_ GE179.out) | exact HB.out))) : w.heap.size ≤ gb180)); have n4_ := qge ((by rw [hg]; exact (qae (by repeat (first | (with_reducible first | exact HB.out | apply q1e | apply q2e | apply q3e | refine q4e ?_ GE179.out) | exact HB.out))) : w.heap.size ≤ gb180)); have n5_ := qge ((by rw [hg]; exact qve (qde (g := gb179) (o := .cells #[.int .i64 a0_0, .int .i64 a0_1, .int .i64 a0_2, .int .i64 a0_3, .int .i64 a0_4] 28 (0, 0)) (by (with_reducible repeat (first | refine q5e ?_ _ | refine q6e ?_ | refine q7e ?_ _)); exact BK179.out)) : gb179 ≠ gb180)); have n6_ := qge ((by rw [hg]; exact qwe (qde (g := gb179) (o := .cells #[.int .i64 a0_0, .int .i64 a0_1, .int .i64 a0_2, .int .i64 a0_3, .int .i64 a0_4] 28 (0, 0)) (by (with_reducible repeat (first | refine q5e ?_ _ | refine q6e ?_ | refine q7e ?_ _)); exact BK179.out)) : gb180 ≠ gb179)); clear BK179; clear HB; have BK179 := n0_; have HB := n1_; have BK180 := n2_; have GW180 := n3_; have GE180 := n4_; have NB179_180 := n5_; have NB180_179 := n6_; clear n0_ n1_ n2_ n3_ n4_ n5_ n6_; clear hb hbox hg))
 have n0_ := qge (q6e BK179.out)
 have n1_ := qge (q6e BK180.out)
 have n2_ := qge (q3e HB.out)
 clear BK179
 clear BK180
 clear HB
 have BK179 := n0_
 have BK180 := n1_
 have HB := n2_
 clear n0_ n1_ n2_
 refine start_ (n := 12) (S := fun w' => w'.cell? ⟨gb179, 0, none⟩ = some (.int .i64 a0_0) ∧ w'.cell? ⟨gb179, 1, none⟩ = some (.int .i64 a0_1) ∧ w'.cell? ⟨gb179, 2, none⟩ = some (.int .i64 a0_2) ∧ w'.cell? ⟨gb179, 3, none⟩ = some (.int .i64 a0_3) ∧ w'.cell? ⟨gb179, 4, none⟩ = some (.int .i64 a0_4)) (ds := []) #[false, false, false, false, false, false, false, false, false, false, false, false] (by kernel_rfl) rfl rfl ⟨(qce BK179.out 0).trans rfl, (qce BK179.out 1).trans rfl, (qce BK179.out 2).trans rfl, (qce BK179.out 3).trans rfl, (qce BK179.out 4).trans rfl⟩ (fun hHeld => ?_); refine with_tabW spec_l3Place.tab1 spec_l3Place.bits1 (fun HT_ HW_ => ?_)
 generalize w6.drew = w7 at BK179 BK180 HB hHeld ⊢
 refine pure_ (i := 0) (N := some 5) (v := ?_) (a' := ?_) #[true, false, false, false, false, false, false, false, false, false, false, false] rfl rfl (any_of HT_.out (by kernel_rfl)) (fun _ _ _ h => h) (Or.inl ⟨by rfl, ?_⟩) ?_ ?_
 rotate_left
 ·intro w'
  go_simp
  with_reducible rfl
 rotate_left
 ·simp only [Act.put, p1e, p2e, p3e, i64_w, i32_w]
  rfl
 refine pure_ (i := 2) (N := some 7) (v := ?_) (a' := ?_) #[true, false, true, false, false, false, false, false, false, false, false, false] rfl rfl (any_of HT_.out (by kernel_rfl)) (fun _ _ _ h => h) (Or.inl ⟨by rfl, ?_⟩) ?_ ?_
 rotate_left
 ·intro w'
  go_simp
  with_reducible rfl
 rotate_left
 ·simp only [Act.put, p1e, p2e, p3e, i64_w, i32_w]
  rfl
 refine pure_ (i := 3) (N := some 8) (v := ?_) (a' := ?_) #[true, false, true, true, false, false, false, false, false, false, false, false] rfl rfl (any_of HT_.out (by kernel_rfl)) (fun _ _ _ h => h) (Or.inl ⟨by rfl, ?_⟩) ?_ ?_
 rotate_left
 ·intro w'
  go_simp
  with_reducible rfl
 rotate_left
 ·simp only [Act.put, p1e, p2e, p3e, i64_w, i32_w]
  rfl
 refine pure_ (i := 7) (N := some 12) (v := ?_) (a' := ?_) #[true, false, true, true, false, false, false, true, false, false, false, false] rfl rfl (any_of HT_.out (by kernel_rfl)) (fun _ _ _ h => h) (Or.inl ⟨by rfl, ?_⟩) ?_ ?_
 rotate_left
 ·intro w'
  go_simp
  with_reducible rfl
 rotate_left
 ·simp only [Act.put, p1e, p2e, p3e, i64_w, i32_w]
  rfl
 refine take_ (i := 1) (N := some 6) (v := ?_) (a' := ?_) #[true, true, true, true, false, false, false, true, false, false, false, false] rfl rfl (take_ofW HT_.out HW_.out (by kernel_rfl)) (fun _ _ _ h => h) (Or.inl ⟨by rfl, ?_⟩) hHeld ?_ ?_
 rotate_left
 ·rintro w' ⟨s0, s1, s2, s3, s4⟩
  go_simp
  with_reducible rfl
 rotate_left
 ·simp only [Act.put, p1e, p2e, p3e, i64_w, i32_w]
  rfl
 refine take_ (i := 4) (N := some 9) (v := ?_) (a' := ?_) #[true, true, true, true, true, false, false, true, false, false, false, false] rfl rfl (take_ofW HT_.out HW_.out (by kernel_rfl)) (fun _ _ _ h => h) (Or.inl ⟨by rfl, ?_⟩) hHeld ?_ ?_
 rotate_left
 ·rintro w' ⟨s0, s1, s2, s3, s4⟩
  go_simp
  with_reducible rfl
 rotate_left
 ·simp only [Act.put, p1e, p2e, p3e, i64_w, i32_w]
  rfl
 refine pure_ (i := 5) (N := some 10) (v := ?_) (a' := ?_) #[true, true, true, true, true, true, false, true, false, false, false, false] rfl rfl (any_of HT_.out (by kernel_rfl)) (fun _ _ _ h => h) (Or.inl ⟨by rfl, ?_⟩) ?_ ?_
 rotate_left
 ·intro w'
  go_simp
  with_reducible rfl
 rotate_left
 ·simp only [Act.put, p1e, p2e, p3e, i64_w, i32_w]
  rfl
 refine pure_ (i := 6) (N := some 11) (v := ?_) (a' := ?_) #[true, true, true, true, true, true, true, true, false, false, false, false] rfl rfl (any_of HT_.out (by kernel_rfl)) (fun _ _ _ h => h) (Or.inl ⟨by rfl, ?_⟩) ?_ ?_
 rotate_left
 ·intro w'
  go_simp
  with_reducible rfl
 rotate_left
 ·simp only [Act.put, p1e, p2e, p3e, i64_w, i32_w]
  rfl
 refine take_ (i := 8) (N := some 13) (v := ?_) (a' := ?_) #[true, true, true, true, true, true, true, true, true, false, false, false] rfl rfl (take_ofW HT_.out HW_.out (by kernel_rfl)) (fun _ _ _ h => h) (Or.inl ⟨by rfl, ?_⟩) hHeld ?_ ?_
 rotate_left
 ·rintro w' ⟨s0, s1, s2, s3, s4⟩
  go_simp
  with_reducible rfl
 rotate_left
 ·simp only [Act.put, p1e, p2e, p3e, i64_w, i32_w]
  rfl
 refine one_ (i := 9) (N := some 14) #[true, true, true, true, true, true, true, true, true, true, false, false] rfl rfl (one_of HT_.out (by kernel_rfl)) (by decide) (fun K hK => ?_)
 refine goes_ Try.func62 (by kernel_rfl) rfl #[.agg #[.int .i64 (wrap64 (a1 * a0_3)), .int .i64 0], .int .i64 a0_2] (by rfl) rfl rfl (by (try simp only [List.map_toArray, List.map_cons, List.map_nil]); first | done | rfl | (simp only [List.length_drop, List.length_take]; rfl)) ?_
 with_reducible refine (spec_l2Turn.calls k (wrap64 (a1 * a0_3)) 0 a0_2 t181 t182 _ A3.out).mono ?_
 rintro e w8 ⟨rfl, hb⟩
 refine ⟨_, rfl, ?_⟩
 have n0_ := qge (q8e (g := gb179) (o := .cells #[.int .i64 a0_0, .int .i64 a0_1, .int .i64 a0_2, .int .i64 a0_3, .int .i64 a0_4] 28 (0, 0)) (by (with_reducible repeat (first | refine q5e ?_ _ | refine q6e ?_ | refine q7e ?_ _)); exact BK179.out) hb)
 have n1_ := qge (q8e (g := gb180) (o := .cells #[.int .i64 0, .int .i64 0] 26 (0, 0)) (by (with_reducible repeat (first | refine q5e ?_ _ | refine q6e ?_ | refine q7e ?_ _)); exact BK180.out) hb)
 have n2_ := qge (q9e (by repeat (first | (with_reducible first | exact HB.out | apply q1e | apply q2e | apply q3e | refine q4e ?_ GE179.out | refine q4e ?_ GE180.out) | exact HB.out)) hb)
 clear BK179
 clear BK180
 clear HB
 have BK179 := n0_
 have BK180 := n1_
 have HB := n2_
 clear n0_ n1_ n2_
 (try clear hb)
 (try clear hb2)
 (try clear hk)
 (try clear hi)
 refine hK.out _ _ ⟨(qce BK179.out 0).trans rfl, (qce BK179.out 1).trans rfl, (qce BK179.out 2).trans rfl, (qce BK179.out 3).trans rfl, (qce BK179.out 4).trans rfl⟩ (fun hHeld => ?_)
 clear hK K
 refine norm_ (a' := ?_) ?_ ?_
 rotate_left
 ·show Act.put _ (some 14) _ = _
  simp only [Act.put, p1e, p2e, p3e, i64_w, i32_w]
  rfl
 refine one_ (i := 10) (N := some 15) #[true, true, true, true, true, true, true, true, true, true, true, false] rfl rfl (one_of HT_.out (by kernel_rfl)) (by decide) (fun K hK => ?_)
 refine goes_ Try.func89 (by kernel_rfl) rfl #[.agg #[.int .i64 a0_0, .int .i64 a0_1], .agg #[.int .i64 t181, .int .i64 t182]] (by rfl) rfl rfl (by (try simp only [List.map_toArray, List.map_cons, List.map_nil]); first | done | rfl | (simp only [List.length_drop, List.length_take]; rfl)) ?_
 with_reducible refine (spec_l2Add.calls a0_0 a0_1 t181 t182 t183 t184 _ A4.out).mono ?_
 rintro e w9 ⟨rfl, hb⟩
 refine ⟨_, rfl, ?_⟩
 have n0_ := qge (q8e (g := gb179) (o := .cells #[.int .i64 a0_0, .int .i64 a0_1, .int .i64 a0_2, .int .i64 a0_3, .int .i64 a0_4] 28 (0, 0)) (by (with_reducible repeat (first | refine q5e ?_ _ | refine q6e ?_ | refine q7e ?_ _)); exact BK179.out) hb)
 have n1_ := qge (q8e (g := gb180) (o := .cells #[.int .i64 0, .int .i64 0] 26 (0, 0)) (by (with_reducible repeat (first | refine q5e ?_ _ | refine q6e ?_ | refine q7e ?_ _)); exact BK180.out) hb)
 have n2_ := qge (q9e (by repeat (first | (with_reducible first | exact HB.out | apply q1e | apply q2e | apply q3e | refine q4e ?_ GE179.out | refine q4e ?_ GE180.out) | exact HB.out)) hb)
 clear BK179
 clear BK180
 clear HB
 have BK179 := n0_
 have BK180 := n1_
 have HB := n2_
 clear n0_ n1_ n2_
 (try clear hb)
 (try clear hb2)
 (try clear hk)
 (try clear hi)
 refine hK.out _ _ ⟨(qce BK179.out 0).trans rfl, (qce BK179.out 1).trans rfl, (qce BK179.out 2).trans rfl, (qce BK179.out 3).trans rfl, (qce BK179.out 4).trans rfl⟩ (fun hHeld => ?_)
 clear hK K
 refine norm_ (a' := ?_) ?_ ?_
 rotate_left
 ·show Act.put _ (some 15) _ = _
  simp only [Act.put, p1e, p2e, p3e, i64_w, i32_w]
  rfl
 refine one_ (i := 11) (N := none) #[true, true, true, true, true, true, true, true, true, true, true, true] rfl rfl (one_of HT_.out (by kernel_rfl)) (by decide) (fun K hK => ?_)
 have hs10 : w9.cell? ⟨gb180, 0, none⟩ = some (.int .i64 0) := (qce BK180.out 0).trans rfl
 have hfs10 := qbe BK180.out 0
 have hns10_0 := NB179_180.out
 have hms10_0 := NB180_179.out
 have hs11 : w9.cell? ⟨gb180, 1, none⟩ = some (.int .i64 0) := (qce BK180.out 1).trans rfl
 have hfs11 := qbe BK180.out 1
 have hns11_0 := NB179_180.out
 have hms11_0 := NB180_179.out
 refine skip_ (w1 := ?_) (by rfl) rfl ?_ ?_
 rotate_left
 ·go_simp
  rfl
 refine hK.out _ _ ⟨((qie (p := ⟨gb180, _, none⟩) NB179_180.out _).trans (((qie (p := ⟨gb180, _, none⟩) NB179_180.out _).trans (hHeld.1)))), ((qie (p := ⟨gb180, _, none⟩) NB179_180.out _).trans (((qie (p := ⟨gb180, _, none⟩) NB179_180.out _).trans (hHeld.2.1)))), ((qie (p := ⟨gb180, _, none⟩) NB179_180.out _).trans (((qie (p := ⟨gb180, _, none⟩) NB179_180.out _).trans (hHeld.2.2.1)))), ((qie (p := ⟨gb180, _, none⟩) NB179_180.out _).trans (((qie (p := ⟨gb180, _, none⟩) NB179_180.out _).trans (hHeld.2.2.2.1)))), ((qie (p := ⟨gb180, _, none⟩) NB179_180.out _).trans (((qie (p := ⟨gb180, _, none⟩) NB179_180.out _).trans (hHeld.2.2.2.2))))⟩ (fun hHeld => ?_)
 clear hK K
 refine done_ (done_of HT_.out (by kernel_rfl)) ?_
 try go_wp2
 refine bodyPost_ret (results_cell_row rfl _ _ gb180 26 #[.int .i64 t183, .int .i64 t184] (0, 0) _ rfl (by (with_reducible repeat (first | refine q5e ?_ _ | refine q6e ?_ | refine q7e ?_ _)); refine qfe (cs := #[.int .i64 t183, .int .i64 0]) ?_ 1 _ rfl; (with_reducible repeat (first | refine q5e ?_ _ | refine q6e ?_ | refine q7e ?_ _)); refine qfe (cs := #[.int .i64 0, .int .i64 0]) ?_ 0 _ rfl; (with_reducible repeat (first | refine q5e ?_ _ | refine q6e ?_ | refine q7e ?_ _)); exact BK180.out) Try.underlying26 rfl (by kernel_rfl)) rfl ?_
 exact ⟨by first | rfl | (simp [errW_none, errW_some] <;> rfl) | (simp [*, errW_none, errW_some] <;> rfl), by repeat (first | (with_reducible first | exact HB.out | apply q1e | apply q2e | apply q3e | refine q4e ?_ GE179.out | refine q4e ?_ GE180.out) | exact HB.out)⟩
/-! ### spec_PlaceAt: function 25 -/
def spec_PlaceAt.f (k : Nat) (a0_0 : Int) (a0_1 : Int) (a0_2 : Int) (a0_3 : Int) (a0_4 : Int) (a1 : Int) : Option (Int × Int × Bool) := (spec_IsJet.f a0_0 a0_1 a0_2 a0_3 a0_4).bind fun t187 => (if t187 = true then (if a1 < 0 then (some (0, 0, false)) else ((spec_FlightOf.f k a0_0 a0_1 a0_2 a0_3 a0_4).bind fun t188 => (if a1 > t188 then (some (0, 0, false)) else ((spec_l3Place.f k a0_0 a0_1 a0_2 a0_3 a0_4 a1).bind fun bt189 => (some (bt189.1, bt189.2, true)))))) else (some (0, 0, false)))
theorem spec_PlaceAt.mono : ∀ a0 a1 a2 a3 a4 a5 k, LeO (spec_PlaceAt.f k a0 a1 a2 a3 a4 a5) (spec_PlaceAt.f (k + 1) a0 a1 a2 a3 a4 a5) := by
  intro a0 a1 a2 a3 a4 a5 k
  unfold spec_PlaceAt.f
  repeat' first
      | (with_reducible exact spec_FlightOf.mono _ _ _ _ _ _)
      | (with_reducible exact spec_l3Place.mono _ _ _ _ _ _ _)
      | (with_reducible exact LeO.refl _)
      | (with_reducible exact LeO.none _)
      | (with_reducible refine LeO.ite ?_ ?_)
      | (with_reducible refine LeO.bind ?_ (fun _ => ?_))
      | exact spec_FlightOf.mono _ _ _ _ _ _
      | exact spec_l3Place.mono _ _ _ _ _ _ _
      | exact LeO.none _
      | refine LeO.ite ?_ ?_
      | refine LeO.bind ?_ (fun _ => ?_)
set_option maxHeartbeats 8000000 in
set_option maxRecDepth 100000 in
theorem spec_PlaceAt.calls (k : Nat) (a0_0 : Int) (a0_1 : Int) (a0_2 : Int) (a0_3 : Int) (a0_4 : Int) (a1 : Int) (r1 : Int) (r2 : Int) (r3 : Bool) (w : World) (h : spec_PlaceAt.f k a0_0 a0_1 a0_2 a0_3 a0_4 a1 = some (r1, r2, r3)) :
 Calls Try.prog 25 #[.agg #[.int .i64 a0_0, .int .i64 a0_1, .int .i64 a0_2, .int .i64 a0_3, .int .i64 a0_4], .int .i64 a1] w fun e w' => e = .returned (.tuple #[.agg #[.int .i64 r1, .int .i64 r2], .bool r3]) ∧ Below w.heap.size w w' := by
 have hu28 := Try.underlying28
 have hu26 := Try.underlying26
 have HB := qge (Below.refl w.heap.size w)
 have H : ((spec_IsJet.f a0_0 a0_1 a0_2 a0_3 a0_4).bind fun t187 => (if t187 = true then (if a1 < 0 then (some (0, 0, false)) else ((spec_FlightOf.f k a0_0 a0_1 a0_2 a0_3 a0_4).bind fun t188 => (if a1 > t188 then (some (0, 0, false)) else ((spec_l3Place.f k a0_0 a0_1 a0_2 a0_3 a0_4 a1).bind fun bt189 => (some (bt189.1, bt189.2, true)))))) else (some (0, 0, false)))) = some (r1, r2, r3) := h
 clear h
 replace H := Option.bind_eq_some_iff.mp H
 obtain ⟨t187, A30, H⟩ := H
 replace H : (if t187 = true then (if a1 < 0 then (some (0, 0, false)) else ((spec_FlightOf.f k a0_0 a0_1 a0_2 a0_3 a0_4).bind fun t188 => (if a1 > t188 then (some (0, 0, false)) else ((spec_l3Place.f k a0_0 a0_1 a0_2 a0_3 a0_4 a1).bind fun bt189 => (some (bt189.1, bt189.2, true)))))) else (some (0, 0, false))) = some (r1, r2, r3) := H
 have A3 := qge A30
 clear A30
 by_cases c4 : t187 = true
 ·subst c4
  have H1 : (if a1 < 0 then (some (0, 0, false)) else ((spec_FlightOf.f k a0_0 a0_1 a0_2 a0_3 a0_4).bind fun t188 => (if a1 > t188 then (some (0, 0, false)) else ((spec_l3Place.f k a0_0 a0_1 a0_2 a0_3 a0_4 a1).bind fun bt189 => (some (bt189.1, bt189.2, true)))))) = some (r1, r2, r3) := by rw [if_pos rfl] at H; exact H
  clear H
  have H := H1
  clear H1
  by_cases c5 : a1 < 0
  ·rw [if_pos c5] at H
   have c5b0 : decide (a1 < 0) = true := decide_eq_true c5
   clear c5
   simp only [Option.some.injEq, Prod.mk.injEq] at H
   obtain ⟨rfl, rfl, rfl⟩ := H
   go_enter Try.func25, Try.ntmps25
   go_wp2_with (first | ((with_reducible refine que (N := 2) rfl ?_); refine qhe ?hg (N := 2) ?hd (cs := #[.int .i64 a0_0, .int .i64 a0_1, .int .i64 a0_2, .int .i64 a0_3, .int .i64 a0_4]) (t := 28) ?hr ?_; (case hd => rfl); (case hg => rfl); (case hr => first | (go_simp; done) | (go_simp; rfl)); intro gb185 hg w6 hbox hb; have n0_ := qge (q9e (by repeat (first | (with_reducible first | exact HB.out | apply q1e | apply q2e | apply q3e) | exact HB.out)) hb); have n1_ := qge (hbox); have n2_ := qge ((by rw [hg]; exact (qae (by repeat (first | (with_reducible first | exact HB.out | apply q1e | apply q2e | apply q3e) | exact HB.out))) : w.heap.size ≤ gb185)); have n3_ := qge ((by rw [hg]; exact (qae (by repeat (first | (with_reducible first | exact HB.out | apply q1e | apply q2e | apply q3e) | exact HB.out))) : w.heap.size ≤ gb185)); clear HB; have HB := n0_; have BK185 := n1_; have GW185 := n2_; have GE185 := n3_; clear n0_ n1_ n2_ n3_; clear hb hbox hg) | ((with_reducible refine que (N := 4) rfl ?_); refine qhe ?hg (N := 4) ?hd (cs := #[.int .i64 0, .int .i64 0]) (t := 26) ?hr ?_; (case hd => rfl); (case hg => rfl); (case hr => first | (go_simp; done) | (go_simp; rfl)); intro gb186 hg w7 hbox hb; have n0_ := qge (q8e (g := gb185) (o := .cells #[.int .i64 a0_0, .int .i64 a0_1, .int .i64 a0_2, .int .i64 a0_3, .int .i64 a0_4] 28 (0, 0)) (by (with_reducible repeat (first | refine q5e ?_ _ | refine q6e ?_ | refine q7e ?_ _)); exact BK185.out) hb); have n1_ := qge (q9e (by repeat (first | (with_reducible first | exact HB.out | apply q1e | apply q2e | apply q3e | refine q4e ?_ GE185.out) | exact HB.out)) hb); have n2_ := qge (hbox); have n3_ := qge ((by rw [hg]; exact (qae (by repeat (first | (with_reducible first | exact HB.out | apply q1e | apply q2e | apply q3e | refine q4e ?_ GE185.out) | exact HB.out))) : w.heap.size ≤ gb186)); have n4_ := qge ((by rw [hg]; exact (qae (by repeat (first | (with_reducible first | exact HB.out | apply q1e | apply q2e | apply q3e | refine q4e ?_ GE185.out) | exact HB.out))) : w.heap.size ≤ gb186)); have n5_ := qge ((by rw [hg]; exact qve (qde (g := gb185) (o := .cells #[.int .i64 a0_0, .int .i64 a0_1, .int .i64 a0_2, .int .i64 a0_3, .int .i64 a0_4] 28 (0, 0)) (by (with_reducible repeat (first | refine q5e ?_ _ | refine q6e ?_ | refine q7e ?_ _)); exact BK185.out)) : gb185 ≠ gb186)); have n6_ := qge ((by rw [hg]; exact qwe (qde (g := gb185) (o := .cells #[.int .i64 a0_0, .int .i64 a0_1, .int .i64 a0_2, .int .i64 a0_3, .int .i64 a0_4] 28 (0, 0)) (by (with_reducible repeat (first | refine q5e ?_ _ | refine q6e ?_ | refine q7e ?_ _)); exact BK185.out)) : gb186 ≠ gb185)); clear BK185; clear HB; have BK185 := n0_; have HB := n1_; have BK186 := n2_; have GW186 := n3_; have GE186 := n4_; have NB185_186 := n5_; have NB186_185 := n6_; clear n0_ n1_ n2_ n3_ n4_ n5_ n6_; clear hb hbox hg; have hnb8 := NB185_186.out; have hnc8 := NB186_185.out; have hcz9_0 : w7.cell? ⟨gb185, 0, none⟩ = some (.int .i64 a0_0) := (qce BK185.out 0).trans rfl; have hcz9_1 : w7.cell? ⟨gb185, 1, none⟩ = some (.int .i64 a0_1) := (qce BK185.out 1).trans rfl; have hcz9_2 : w7.cell? ⟨gb185, 2, none⟩ = some (.int .i64 a0_2) := (qce BK185.out 2).trans rfl; have hcz9_3 : w7.cell? ⟨gb185, 3, none⟩ = some (.int .i64 a0_3) := (qce BK185.out 3).trans rfl; have hcz9_4 : w7.cell? ⟨gb185, 4, none⟩ = some (.int .i64 a0_4) := (qce BK185.out 4).trans rfl; have hfz9_0 := qbe BK185.out 0; have hfz9_1 := qbe BK185.out 1; have hfz9_2 := qbe BK185.out 2; have hfz9_3 := qbe BK185.out 3; have hfz9_4 := qbe BK185.out 4) | ((with_reducible refine qte (f := 55) rfl ?_); refine goesL_ (some 7) rfl rfl Try.func55 (by kernel_rfl) rfl #[.agg #[.int .i64 a0_0, .int .i64 a0_1, .int .i64 a0_2, .int .i64 a0_3, .int .i64 a0_4]] rfl (by (try simp only [List.map_toArray, List.map_cons, List.map_nil]); first | done | rfl | (simp only [List.length_drop, List.length_take]; rfl)) ?_; (with_reducible refine (spec_IsJet.calls a0_0 a0_1 a0_2 a0_3 a0_4 true _ A3.out).mono ?_); rintro e w10 ⟨rfl, hb⟩; refine ⟨_, rfl, ?_⟩; have n0_ := qge (q8e (g := gb185) (o := .cells #[.int .i64 a0_0, .int .i64 a0_1, .int .i64 a0_2, .int .i64 a0_3, .int .i64 a0_4] 28 (0, 0)) (by (with_reducible repeat (first | refine q5e ?_ _ | refine q6e ?_ | refine q7e ?_ _)); exact BK185.out) hb); have n1_ := qge (q8e (g := gb186) (o := .cells #[.int .i64 0, .int .i64 0] 26 (0, 0)) (by (with_reducible repeat (first | refine q5e ?_ _ | refine q6e ?_ | refine q7e ?_ _)); exact BK186.out) hb); have n2_ := qge (q9e (by repeat (first | (with_reducible first | exact HB.out | apply q1e | apply q2e | apply q3e | refine q4e ?_ GE185.out | refine q4e ?_ GE186.out) | exact HB.out)) hb); clear BK185; clear BK186; clear HB; have BK185 := n0_; have BK186 := n1_; have HB := n2_; clear n0_ n1_ n2_; (try clear hb); (try clear hb2); (try clear hk); (try clear hi); have hcz11_0 : w10.cell? ⟨gb186, 0, none⟩ = some (.int .i64 0) := (qce BK186.out 0).trans rfl; have hcz11_1 : w10.cell? ⟨gb186, 1, none⟩ = some (.int .i64 0) := (qce BK186.out 1).trans rfl; have hfz11_0 := qbe BK186.out 0; have hfz11_1 := qbe BK186.out 1))
   refine bodyPost_ret (results_ct rfl _ _ gb186 26 #[.int .i64 0, .int .i64 0] (0, 0) _ rfl (by (with_reducible repeat (first | refine q5e ?_ _ | refine q6e ?_ | refine q7e ?_ _)); refine qfe (cs := #[.int .i64 0, .int .i64 0]) ?_ 1 _ rfl; (with_reducible repeat (first | refine q5e ?_ _ | refine q6e ?_ | refine q7e ?_ _)); refine qfe (cs := #[.int .i64 0, .int .i64 0]) ?_ 0 _ rfl; (with_reducible repeat (first | refine q5e ?_ _ | refine q6e ?_ | refine q7e ?_ _)); exact BK186.out) Try.underlying26 rfl (by kernel_rfl)) rfl ?_
   exact ⟨by first | rfl | (simp [errW_none, errW_some] <;> rfl) | (simp [*, errW_none, errW_some] <;> rfl), by repeat (first | (with_reducible first | exact HB.out | apply q1e | apply q2e | apply q3e | refine q4e ?_ GE185.out | refine q4e ?_ GE186.out) | exact HB.out)⟩
  ·rw [if_neg c5] at H
   have c5b0 : decide (a1 < 0) = false := decide_eq_false c5
   clear c5
   replace H := Option.bind_eq_some_iff.mp H
   obtain ⟨t188, A120, H⟩ := H
   replace H : (if a1 > t188 then (some (0, 0, false)) else ((spec_l3Place.f k a0_0 a0_1 a0_2 a0_3 a0_4 a1).bind fun bt189 => (some (bt189.1, bt189.2, true)))) = some (r1, r2, r3) := H
   have A12 := qge A120
   clear A120
   by_cases c13 : a1 > t188
   ·rw [if_pos c13] at H
    have c13b0 : decide (t188 < a1) = true := decide_eq_true c13
    clear c13
    simp only [Option.some.injEq, Prod.mk.injEq] at H
    obtain ⟨rfl, rfl, rfl⟩ := H
    go_enter Try.func25, Try.ntmps25
    go_wp2_with (first | ((with_reducible refine que (N := 2) rfl ?_); refine qhe ?hg (N := 2) ?hd (cs := #[.int .i64 a0_0, .int .i64 a0_1, .int .i64 a0_2, .int .i64 a0_3, .int .i64 a0_4]) (t := 28) ?hr ?_; (case hd => rfl); (case hg => rfl); (case hr => first | (go_simp; done) | (go_simp; rfl)); intro gb185 hg w14 hbox hb; have n0_ := qge (q9e (by repeat (first | (with_reducible first | exact HB.out | apply q1e | apply q2e | apply q3e) | exact HB.out)) hb); have n1_ := qge (hbox); have n2_ := qge ((by rw [hg]; exact (qae (by repeat (first | (with_reducible first | exact HB.out | apply q1e | apply q2e | apply q3e) | exact HB.out))) : w.heap.size ≤ gb185)); have n3_ := qge ((by rw [hg]; exact (qae (by repeat (first | (with_reducible first | exact HB.out | apply q1e | apply q2e | apply q3e) | exact HB.out))) : w.heap.size ≤ gb185)); clear HB; have HB := n0_; have BK185 := n1_; have GW185 := n2_; have GE185 := n3_; clear n0_ n1_ n2_ n3_; clear hb hbox hg) | ((with_reducible refine que (N := 4) rfl ?_); refine qhe ?hg (N := 4) ?hd (cs := #[.int .i64 0, .int .i64 0]) (t := 26) ?hr ?_; (case hd => rfl); (case hg => rfl); (case hr => first | (go_simp; done) | (go_simp; rfl)); intro gb186 hg w15 hbox hb; have n0_ := qge (q8e (g := gb185) (o := .cells #[.int .i64 a0_0, .int .i64 a0_1, .int .i64 a0_2, .int .i64 a0_3, .int .i64 a0_4] 28 (0, 0)) (by (with_reducible repeat (first | refine q5e ?_ _ | refine q6e ?_ | refine q7e ?_ _)); exact BK185.out) hb); have n1_ := qge (q9e (by repeat (first | (with_reducible first | exact HB.out | apply q1e | apply q2e | apply q3e | refine q4e ?_ GE185.out) | exact HB.out)) hb); have n2_ := qge (hbox); have n3_ := qge ((by rw [hg]; exact (qae (by repeat (first | (with_reducible first | exact HB.out | apply q1e | apply q2e | apply q3e | refine q4e ?_ GE185.out) | exact HB.out))) : w.heap.size ≤ gb186)); have n4_ := qge ((by rw [hg]; exact (qae (by repeat (first | (with_reducible first | exact HB.out | apply q1e | apply q2e | apply q3e | refine q4e ?_ GE185.out) | exact HB.out))) : w.heap.size ≤ gb186)); have n5_ := qge ((by rw [hg]; exact qve (qde (g := gb185) (o := .cells #[.int .i64 a0_0, .int .i64 a0_1, .int .i64 a0_2, .int .i64 a0_3, .int .i64 a0_4] 28 (0, 0)) (by (with_reducible repeat (first | refine q5e ?_ _ | refine q6e ?_ | refine q7e ?_ _)); exact BK185.out)) : gb185 ≠ gb186)); have n6_ := qge ((by rw [hg]; exact qwe (qde (g := gb185) (o := .cells #[.int .i64 a0_0, .int .i64 a0_1, .int .i64 a0_2, .int .i64 a0_3, .int .i64 a0_4] 28 (0, 0)) (by (with_reducible repeat (first | refine q5e ?_ _ | refine q6e ?_ | refine q7e ?_ _)); exact BK185.out)) : gb186 ≠ gb185)); clear BK185; clear HB; have BK185 := n0_; have HB := n1_; have BK186 := n2_; have GW186 := n3_; have GE186 := n4_; have NB185_186 := n5_; have NB186_185 := n6_; clear n0_ n1_ n2_ n3_ n4_ n5_ n6_; clear hb hbox hg; have hnb16 := NB185_186.out; have hnc16 := NB186_185.out; have hcz17_0 : w15.cell? ⟨gb185, 0, none⟩ = some (.int .i64 a0_0) := (qce BK185.out 0).trans rfl; have hcz17_1 : w15.cell? ⟨gb185, 1, none⟩ = some (.int .i64 a0_1) := (qce BK185.out 1).trans rfl; have hcz17_2 : w15.cell? ⟨gb185, 2, none⟩ = some (.int .i64 a0_2) := (qce BK185.out 2).trans rfl; have hcz17_3 : w15.cell? ⟨gb185, 3, none⟩ = some (.int .i64 a0_3) := (qce BK185.out 3).trans rfl; have hcz17_4 : w15.cell? ⟨gb185, 4, none⟩ = some (.int .i64 a0_4) := (qce BK185.out 4).trans rfl; have hfz17_0 := qbe BK185.out 0; have hfz17_1 := qbe BK185.out 1; have hfz17_2 := qbe BK185.out 2; have hfz17_3 := qbe BK185.out 3; have hfz17_4 := qbe BK185.out 4) | ((with_reducible refine qte (f := 55) rfl ?_); refine goesL_ (some 7) rfl rfl Try.func55 (by kernel_rfl) rfl #[.agg #[.int .i64 a0_0, .int .i64 a0_1, .int .i64 a0_2, .int .i64 a0_3, .int .i64 a0_4]] rfl (by (try simp only [List.map_toArray, List.map_cons, List.map_nil]); first | done | rfl | (simp only [List.length_drop, List.length_take]; rfl)) ?_; (with_reducible refine (spec_IsJet.calls a0_0 a0_1 a0_2 a0_3 a0_4 true _ A3.out).mono ?_); rintro e w18 ⟨rfl, hb⟩; refine ⟨_, rfl, ?_⟩; have n0_ := qge (q8e (g := gb185) (o := .cells #[.int .i64 a0_0, .int .i64 a0_1, .int .i64 a0_2, .int .i64 a0_3, .int .i64 a0_4] 28 (0, 0)) (by (with_reducible repeat (first | refine q5e ?_ _ | refine q6e ?_ | refine q7e ?_ _)); exact BK185.out) hb); have n1_ := qge (q8e (g := gb186) (o := .cells #[.int .i64 0, .int .i64 0] 26 (0, 0)) (by (with_reducible repeat (first | refine q5e ?_ _ | refine q6e ?_ | refine q7e ?_ _)); exact BK186.out) hb); have n2_ := qge (q9e (by repeat (first | (with_reducible first | exact HB.out | apply q1e | apply q2e | apply q3e | refine q4e ?_ GE185.out | refine q4e ?_ GE186.out) | exact HB.out)) hb); clear BK185; clear BK186; clear HB; have BK185 := n0_; have BK186 := n1_; have HB := n2_; clear n0_ n1_ n2_; (try clear hb); (try clear hb2); (try clear hk); (try clear hi); have hcz19_0 : w18.cell? ⟨gb185, 0, none⟩ = some (.int .i64 a0_0) := (qce BK185.out 0).trans rfl; have hcz19_1 : w18.cell? ⟨gb185, 1, none⟩ = some (.int .i64 a0_1) := (qce BK185.out 1).trans rfl; have hcz19_2 : w18.cell? ⟨gb185, 2, none⟩ = some (.int .i64 a0_2) := (qce BK185.out 2).trans rfl; have hcz19_3 : w18.cell? ⟨gb185, 3, none⟩ = some (.int .i64 a0_3) := (qce BK185.out 3).trans rfl; have hcz19_4 : w18.cell? ⟨gb185, 4, none⟩ = some (.int .i64 a0_4) := (qce BK185.out 4).trans rfl; have hfz19_0 := qbe BK185.out 0; have hfz19_1 := qbe BK185.out 1; have hfz19_2 := qbe BK185.out 2; have hfz19_3 := qbe BK185.out 3; have hfz19_4 := qbe BK185.out 4) | (go_at_call 70; (with_reducible refine (spec_FlightOf.calls k a0_0 a0_1 a0_2 a0_3 a0_4 t188 _ A12.out).mono ?_); rintro e w20 ⟨rfl, hb⟩; have n0_ := qge (q8e (g := gb185) (o := .cells #[.int .i64 a0_0, .int .i64 a0_1, .int .i64 a0_2, .int .i64 a0_3, .int .i64 a0_4] 28 (0, 0)) (by (with_reducible repeat (first | refine q5e ?_ _ | refine q6e ?_ | refine q7e ?_ _)); exact BK185.out) hb); have n1_ := qge (q8e (g := gb186) (o := .cells #[.int .i64 0, .int .i64 0] 26 (0, 0)) (by (with_reducible repeat (first | refine q5e ?_ _ | refine q6e ?_ | refine q7e ?_ _)); exact BK186.out) hb); have n2_ := qge (q9e (by repeat (first | (with_reducible first | exact HB.out | apply q1e | apply q2e | apply q3e | refine q4e ?_ GE185.out | refine q4e ?_ GE186.out) | exact HB.out)) hb); clear BK185; clear BK186; clear HB; have BK185 := n0_; have BK186 := n1_; have HB := n2_; clear n0_ n1_ n2_; (try clear hb); (try clear hb2); (try clear hk); (try clear hi); have hcz21_0 : w20.cell? ⟨gb186, 0, none⟩ = some (.int .i64 0) := (qce BK186.out 0).trans rfl; have hcz21_1 : w20.cell? ⟨gb186, 1, none⟩ = some (.int .i64 0) := (qce BK186.out 1).trans rfl; have hfz21_0 := qbe BK186.out 0; have hfz21_1 := qbe BK186.out 1))
    refine bodyPost_ret (results_ct rfl _ _ gb186 26 #[.int .i64 0, .int .i64 0] (0, 0) _ rfl (by (with_reducible repeat (first | refine q5e ?_ _ | refine q6e ?_ | refine q7e ?_ _)); refine qfe (cs := #[.int .i64 0, .int .i64 0]) ?_ 1 _ rfl; (with_reducible repeat (first | refine q5e ?_ _ | refine q6e ?_ | refine q7e ?_ _)); refine qfe (cs := #[.int .i64 0, .int .i64 0]) ?_ 0 _ rfl; (with_reducible repeat (first | refine q5e ?_ _ | refine q6e ?_ | refine q7e ?_ _)); exact BK186.out) Try.underlying26 rfl (by kernel_rfl)) rfl ?_
    exact ⟨by first | rfl | (simp [errW_none, errW_some] <;> rfl) | (simp [*, errW_none, errW_some] <;> rfl), by repeat (first | (with_reducible first | exact HB.out | apply q1e | apply q2e | apply q3e | refine q4e ?_ GE185.out | refine q4e ?_ GE186.out) | exact HB.out)⟩
   ·rw [if_neg c13] at H
    have c13b0 : decide (t188 < a1) = false := decide_eq_false c13
    clear c13
    replace H := Option.bind_eq_some_iff.mp H
    obtain ⟨⟨t189, t190⟩, A220, H⟩ := H
    replace H : (some (t189, t190, true)) = some (r1, r2, r3) := H
    have A22 := qge A220
    clear A220
    simp only [Option.some.injEq, Prod.mk.injEq] at H
    obtain ⟨rfl, rfl, rfl⟩ := H
    go_enter Try.func25, Try.ntmps25
    go_wp2_with (first | ((with_reducible refine que (N := 2) rfl ?_); refine qhe ?hg (N := 2) ?hd (cs := #[.int .i64 a0_0, .int .i64 a0_1, .int .i64 a0_2, .int .i64 a0_3, .int .i64 a0_4]) (t := 28) ?hr ?_; (case hd => rfl); (case hg => rfl); (case hr => first | (go_simp; done) | (go_simp; rfl)); intro gb185 hg w23 hbox hb; have n0_ := qge (q9e (by repeat (first | (with_reducible first | exact HB.out | apply q1e | apply q2e | apply q3e) | exact HB.out)) hb); have n1_ := qge (hbox); have n2_ := qge ((by rw [hg]; exact (qae (by repeat (first | (with_reducible first | exact HB.out | apply q1e | apply q2e | apply q3e) | exact HB.out))) : w.heap.size ≤ gb185)); have n3_ := qge ((by rw [hg]; exact (qae (by repeat (first | (with_reducible first | exact HB.out | apply q1e | apply q2e | apply q3e) | exact HB.out))) : w.heap.size ≤ gb185)); clear HB; have HB := n0_; have BK185 := n1_; have GW185 := n2_; have GE185 := n3_; clear n0_ n1_ n2_ n3_; clear hb hbox hg) | ((with_reducible refine que (N := 4) rfl ?_); refine qhe ?hg (N := 4) ?hd (cs := #[.int .i64 0, .int .i64 0]) (t := 26) ?hr ?_; (case hd => rfl); (case hg => rfl); (case hr => first | (go_simp; done) | (go_simp; rfl)); intro gb186 hg w24 hbox hb; have n0_ := qge (q8e (g := gb185) (o := .cells #[.int .i64 a0_0, .int .i64 a0_1, .int .i64 a0_2, .int .i64 a0_3, .int .i64 a0_4] 28 (0, 0)) (by (with_reducible repeat (first | refine q5e ?_ _ | refine q6e ?_ | refine q7e ?_ _)); exact BK185.out) hb); have n1_ := qge (q9e (by repeat (first | (with_reducible first | exact HB.out | apply q1e | apply q2e | apply q3e | refine q4e ?_ GE185.out) | exact HB.out)) hb); have n2_ := qge (hbox); have n3_ := qge ((by rw [hg]; exact (qae (by repeat (first | (with_reducible first | exact HB.out | apply q1e | apply q2e | apply q3e | refine q4e ?_ GE185.out) | exact HB.out))) : w.heap.size ≤ gb186)); have n4_ := qge ((by rw [hg]; exact (qae (by repeat (first | (with_reducible first | exact HB.out | apply q1e | apply q2e | apply q3e | refine q4e ?_ GE185.out) | exact HB.out))) : w.heap.size ≤ gb186)); have n5_ := qge ((by rw [hg]; exact qve (qde (g := gb185) (o := .cells #[.int .i64 a0_0, .int .i64 a0_1, .int .i64 a0_2, .int .i64 a0_3, .int .i64 a0_4] 28 (0, 0)) (by (with_reducible repeat (first | refine q5e ?_ _ | refine q6e ?_ | refine q7e ?_ _)); exact BK185.out)) : gb185 ≠ gb186)); have n6_ := qge ((by rw [hg]; exact qwe (qde (g := gb185) (o := .cells #[.int .i64 a0_0, .int .i64 a0_1, .int .i64 a0_2, .int .i64 a0_3, .int .i64 a0_4] 28 (0, 0)) (by (with_reducible repeat (first | refine q5e ?_ _ | refine q6e ?_ | refine q7e ?_ _)); exact BK185.out)) : gb186 ≠ gb185)); clear BK185; clear HB; have BK185 := n0_; have HB := n1_; have BK186 := n2_; have GW186 := n3_; have GE186 := n4_; have NB185_186 := n5_; have NB186_185 := n6_; clear n0_ n1_ n2_ n3_ n4_ n5_ n6_; clear hb hbox hg; have hnb25 := NB185_186.out; have hnc25 := NB186_185.out; have hcz26_0 : w24.cell? ⟨gb185, 0, none⟩ = some (.int .i64 a0_0) := (qce BK185.out 0).trans rfl; have hcz26_1 : w24.cell? ⟨gb185, 1, none⟩ = some (.int .i64 a0_1) := (qce BK185.out 1).trans rfl; have hcz26_2 : w24.cell? ⟨gb185, 2, none⟩ = some (.int .i64 a0_2) := (qce BK185.out 2).trans rfl; have hcz26_3 : w24.cell? ⟨gb185, 3, none⟩ = some (.int .i64 a0_3) := (qce BK185.out 3).trans rfl; have hcz26_4 : w24.cell? ⟨gb185, 4, none⟩ = some (.int .i64 a0_4) := (qce BK185.out 4).trans rfl; have hfz26_0 := qbe BK185.out 0; have hfz26_1 := qbe BK185.out 1; have hfz26_2 := qbe BK185.out 2; have hfz26_3 := qbe BK185.out 3; have hfz26_4 := qbe BK185.out 4) | ((with_reducible refine qte (f := 55) rfl ?_); refine goesL_ (some 7) rfl rfl Try.func55 (by kernel_rfl) rfl #[.agg #[.int .i64 a0_0, .int .i64 a0_1, .int .i64 a0_2, .int .i64 a0_3, .int .i64 a0_4]] rfl (by (try simp only [List.map_toArray, List.map_cons, List.map_nil]); first | done | rfl | (simp only [List.length_drop, List.length_take]; rfl)) ?_; (with_reducible refine (spec_IsJet.calls a0_0 a0_1 a0_2 a0_3 a0_4 true _ A3.out).mono ?_); rintro e w27 ⟨rfl, hb⟩; refine ⟨_, rfl, ?_⟩; have n0_ := qge (q8e (g := gb185) (o := .cells #[.int .i64 a0_0, .int .i64 a0_1, .int .i64 a0_2, .int .i64 a0_3, .int .i64 a0_4] 28 (0, 0)) (by (with_reducible repeat (first | refine q5e ?_ _ | refine q6e ?_ | refine q7e ?_ _)); exact BK185.out) hb); have n1_ := qge (q8e (g := gb186) (o := .cells #[.int .i64 0, .int .i64 0] 26 (0, 0)) (by (with_reducible repeat (first | refine q5e ?_ _ | refine q6e ?_ | refine q7e ?_ _)); exact BK186.out) hb); have n2_ := qge (q9e (by repeat (first | (with_reducible first | exact HB.out | apply q1e | apply q2e | apply q3e | refine q4e ?_ GE185.out | refine q4e ?_ GE186.out) | exact HB.out)) hb); clear BK185; clear BK186; clear HB; have BK185 := n0_; have BK186 := n1_; have HB := n2_; clear n0_ n1_ n2_; (try clear hb); (try clear hb2); (try clear hk); (try clear hi); have hcz28_0 : w27.cell? ⟨gb185, 0, none⟩ = some (.int .i64 a0_0) := (qce BK185.out 0).trans rfl; have hcz28_1 : w27.cell? ⟨gb185, 1, none⟩ = some (.int .i64 a0_1) := (qce BK185.out 1).trans rfl; have hcz28_2 : w27.cell? ⟨gb185, 2, none⟩ = some (.int .i64 a0_2) := (qce BK185.out 2).trans rfl; have hcz28_3 : w27.cell? ⟨gb185, 3, none⟩ = some (.int .i64 a0_3) := (qce BK185.out 3).trans rfl; have hcz28_4 : w27.cell? ⟨gb185, 4, none⟩ = some (.int .i64 a0_4) := (qce BK185.out 4).trans rfl; have hfz28_0 := qbe BK185.out 0; have hfz28_1 := qbe BK185.out 1; have hfz28_2 := qbe BK185.out 2; have hfz28_3 := qbe BK185.out 3; have hfz28_4 := qbe BK185.out 4) | (go_at_call 70; (with_reducible refine (spec_FlightOf.calls k a0_0 a0_1 a0_2 a0_3 a0_4 t188 _ A12.out).mono ?_); rintro e w29 ⟨rfl, hb⟩; have n0_ := qge (q8e (g := gb185) (o := .cells #[.int .i64 a0_0, .int .i64 a0_1, .int .i64 a0_2, .int .i64 a0_3, .int .i64 a0_4] 28 (0, 0)) (by (with_reducible repeat (first | refine q5e ?_ _ | refine q6e ?_ | refine q7e ?_ _)); exact BK185.out) hb); have n1_ := qge (q8e (g := gb186) (o := .cells #[.int .i64 0, .int .i64 0] 26 (0, 0)) (by (with_reducible repeat (first | refine q5e ?_ _ | refine q6e ?_ | refine q7e ?_ _)); exact BK186.out) hb); have n2_ := qge (q9e (by repeat (first | (with_reducible first | exact HB.out | apply q1e | apply q2e | apply q3e | refine q4e ?_ GE185.out | refine q4e ?_ GE186.out) | exact HB.out)) hb); clear BK185; clear BK186; clear HB; have BK185 := n0_; have BK186 := n1_; have HB := n2_; clear n0_ n1_ n2_; (try clear hb); (try clear hb2); (try clear hk); (try clear hi); have hcz30_0 : w29.cell? ⟨gb185, 0, none⟩ = some (.int .i64 a0_0) := (qce BK185.out 0).trans rfl; have hcz30_1 : w29.cell? ⟨gb185, 1, none⟩ = some (.int .i64 a0_1) := (qce BK185.out 1).trans rfl; have hcz30_2 : w29.cell? ⟨gb185, 2, none⟩ = some (.int .i64 a0_2) := (qce BK185.out 2).trans rfl; have hcz30_3 : w29.cell? ⟨gb185, 3, none⟩ = some (.int .i64 a0_3) := (qce BK185.out 3).trans rfl; have hcz30_4 : w29.cell? ⟨gb185, 4, none⟩ = some (.int .i64 a0_4) := (qce BK185.out 4).trans rfl; have hfz30_0 := qbe BK185.out 0; have hfz30_1 := qbe BK185.out 1; have hfz30_2 := qbe BK185.out 2; have hfz30_3 := qbe BK185.out 3; have hfz30_4 := qbe BK185.out 4) | ((with_reducible refine qte (f := 71) rfl ?_); refine goesL_ (some 22) rfl rfl Try.func71 (by kernel_rfl) rfl #[.agg #[.int .i64 a0_0, .int .i64 a0_1, .int .i64 a0_2, .int .i64 a0_3, .int .i64 a0_4], .int .i64 a1] rfl (by (try simp only [List.map_toArray, List.map_cons, List.map_nil]); first | done | rfl | (simp only [List.length_drop, List.length_take]; rfl)) ?_; (with_reducible refine (spec_l3Place.calls k a0_0 a0_1 a0_2 a0_3 a0_4 a1 t189 t190 _ A22.out).mono ?_); rintro e w31 ⟨rfl, hb⟩; refine ⟨_, rfl, ?_⟩; have n0_ := qge (q8e (g := gb185) (o := .cells #[.int .i64 a0_0, .int .i64 a0_1, .int .i64 a0_2, .int .i64 a0_3, .int .i64 a0_4] 28 (0, 0)) (by (with_reducible repeat (first | refine q5e ?_ _ | refine q6e ?_ | refine q7e ?_ _)); exact BK185.out) hb); have n1_ := qge (q8e (g := gb186) (o := .cells #[.int .i64 0, .int .i64 0] 26 (0, 0)) (by (with_reducible repeat (first | refine q5e ?_ _ | refine q6e ?_ | refine q7e ?_ _)); exact BK186.out) hb); have n2_ := qge (q9e (by repeat (first | (with_reducible first | exact HB.out | apply q1e | apply q2e | apply q3e | refine q4e ?_ GE185.out | refine q4e ?_ GE186.out) | exact HB.out)) hb); clear BK185; clear BK186; clear HB; have BK185 := n0_; have BK186 := n1_; have HB := n2_; clear n0_ n1_ n2_; (try clear hb); (try clear hb2); (try clear hk); (try clear hi); have hcz32_0 : w31.cell? ⟨gb186, 0, none⟩ = some (.int .i64 0) := (qce BK186.out 0).trans rfl; have hcz32_1 : w31.cell? ⟨gb186, 1, none⟩ = some (.int .i64 0) := (qce BK186.out 1).trans rfl; have hfz32_0 := qbe BK186.out 0; have hfz32_1 := qbe BK186.out 1))
    refine bodyPost_ret (results_ct rfl _ _ gb186 26 #[.int .i64 t189, .int .i64 t190] (0, 0) _ rfl (by (with_reducible repeat (first | refine q5e ?_ _ | refine q6e ?_ | refine q7e ?_ _)); refine qfe (cs := #[.int .i64 t189, .int .i64 0]) ?_ 1 _ rfl; (with_reducible repeat (first | refine q5e ?_ _ | refine q6e ?_ | refine q7e ?_ _)); refine qfe (cs := #[.int .i64 0, .int .i64 0]) ?_ 0 _ rfl; (with_reducible repeat (first | refine q5e ?_ _ | refine q6e ?_ | refine q7e ?_ _)); exact BK186.out) Try.underlying26 rfl (by kernel_rfl)) rfl ?_
    exact ⟨by first | rfl | (simp [errW_none, errW_some] <;> rfl) | (simp [*, errW_none, errW_some] <;> rfl), by repeat (first | (with_reducible first | exact HB.out | apply q1e | apply q2e | apply q3e | refine q4e ?_ GE185.out | refine q4e ?_ GE186.out) | exact HB.out)⟩
 ·replace c4 := Bool.eq_false_iff.mpr c4
  subst c4
  have H1 : (some (0, 0, false)) = some (r1, r2, r3) := by rw [if_neg (show ¬ (false = true) by decide)] at H; exact H
  clear H
  have H := H1
  clear H1
  simp only [Option.some.injEq, Prod.mk.injEq] at H
  obtain ⟨rfl, rfl, rfl⟩ := H
  go_enter Try.func25, Try.ntmps25
  go_wp2_with (first | ((with_reducible refine que (N := 2) rfl ?_); refine qhe ?hg (N := 2) ?hd (cs := #[.int .i64 a0_0, .int .i64 a0_1, .int .i64 a0_2, .int .i64 a0_3, .int .i64 a0_4]) (t := 28) ?hr ?_; (case hd => rfl); (case hg => rfl); (case hr => first | (go_simp; done) | (go_simp; rfl)); intro gb185 hg w33 hbox hb; have n0_ := qge (q9e (by repeat (first | (with_reducible first | exact HB.out | apply q1e | apply q2e | apply q3e) | exact HB.out)) hb); have n1_ := qge (hbox); have n2_ := qge ((by rw [hg]; exact (qae (by repeat (first | (with_reducible first | exact HB.out | apply q1e | apply q2e | apply q3e) | exact HB.out))) : w.heap.size ≤ gb185)); have n3_ := qge ((by rw [hg]; exact (qae (by repeat (first | (with_reducible first | exact HB.out | apply q1e | apply q2e | apply q3e) | exact HB.out))) : w.heap.size ≤ gb185)); clear HB; have HB := n0_; have BK185 := n1_; have GW185 := n2_; have GE185 := n3_; clear n0_ n1_ n2_ n3_; clear hb hbox hg) | ((with_reducible refine que (N := 4) rfl ?_); refine qhe ?hg (N := 4) ?hd (cs := #[.int .i64 0, .int .i64 0]) (t := 26) ?hr ?_; (case hd => rfl); (case hg => rfl); (case hr => first | (go_simp; done) | (go_simp; rfl)); intro gb186 hg w34 hbox hb; have n0_ := qge (q8e (g := gb185) (o := .cells #[.int .i64 a0_0, .int .i64 a0_1, .int .i64 a0_2, .int .i64 a0_3, .int .i64 a0_4] 28 (0, 0)) (by (with_reducible repeat (first | refine q5e ?_ _ | refine q6e ?_ | refine q7e ?_ _)); exact BK185.out) hb); have n1_ := qge (q9e (by repeat (first | (with_reducible first | exact HB.out | apply q1e | apply q2e | apply q3e | refine q4e ?_ GE185.out) | exact HB.out)) hb); have n2_ := qge (hbox); have n3_ := qge ((by rw [hg]; exact (qae (by repeat (first | (with_reducible first | exact HB.out | apply q1e | apply q2e | apply q3e | refine q4e ?_ GE185.out) | exact HB.out))) : w.heap.size ≤ gb186)); have n4_ := qge ((by rw [hg]; exact (qae (by repeat (first | (with_reducible first | exact HB.out | apply q1e | apply q2e | apply q3e | refine q4e ?_ GE185.out) | exact HB.out))) : w.heap.size ≤ gb186)); have n5_ := qge ((by rw [hg]; exact qve (qde (g := gb185) (o := .cells #[.int .i64 a0_0, .int .i64 a0_1, .int .i64 a0_2, .int .i64 a0_3, .int .i64 a0_4] 28 (0, 0)) (by (with_reducible repeat (first | refine q5e ?_ _ | refine q6e ?_ | refine q7e ?_ _)); exact BK185.out)) : gb185 ≠ gb186)); have n6_ := qge ((by rw [hg]; exact qwe (qde (g := gb185) (o := .cells #[.int .i64 a0_0, .int .i64 a0_1, .int .i64 a0_2, .int .i64 a0_3, .int .i64 a0_4] 28 (0, 0)) (by (with_reducible repeat (first | refine q5e ?_ _ | refine q6e ?_ | refine q7e ?_ _)); exact BK185.out)) : gb186 ≠ gb185)); clear BK185; clear HB; have BK185 := n0_; have HB := n1_; have BK186 := n2_; have GW186 := n3_; have GE186 := n4_; have NB185_186 := n5_; have NB186_185 := n6_; clear n0_ n1_ n2_ n3_ n4_ n5_ n6_; clear hb hbox hg; have hnb35 := NB185_186.out; have hnc35 := NB186_185.out; have hcz36_0 : w34.cell? ⟨gb185, 0, none⟩ = some (.int .i64 a0_0) := (qce BK185.out 0).trans rfl; have hcz36_1 : w34.cell? ⟨gb185, 1, none⟩ = some (.int .i64 a0_1) := (qce BK185.out 1).trans rfl; have hcz36_2 : w34.cell? ⟨gb185, 2, none⟩ = some (.int .i64 a0_2) := (qce BK185.out 2).trans rfl; have hcz36_3 : w34.cell? ⟨gb185, 3, none⟩ = some (.int .i64 a0_3) := (qce BK185.out 3).trans rfl; have hcz36_4 : w34.cell? ⟨gb185, 4, none⟩ = some (.int .i64 a0_4) := (qce BK185.out 4).trans rfl; have hfz36_0 := qbe BK185.out 0; have hfz36_1 := qbe BK185.out 1; have hfz36_2 := qbe BK185.out 2; have hfz36_3 := qbe BK185.out 3; have hfz36_4 := qbe BK185.out 4) | ((with_reducible refine qte (f := 55) rfl ?_); refine goesL_ (some 7) rfl rfl Try.func55 (by kernel_rfl) rfl #[.agg #[.int .i64 a0_0, .int .i64 a0_1, .int .i64 a0_2, .int .i64 a0_3, .int .i64 a0_4]] rfl (by (try simp only [List.map_toArray, List.map_cons, List.map_nil]); first | done | rfl | (simp only [List.length_drop, List.length_take]; rfl)) ?_; (with_reducible refine (spec_IsJet.calls a0_0 a0_1 a0_2 a0_3 a0_4 false _ A3.out).mono ?_); rintro e w37 ⟨rfl, hb⟩; refine ⟨_, rfl, ?_⟩; have n0_ := qge (q8e (g := gb185) (o := .cells #[.int .i64 a0_0, .int .i64 a0_1, .int .i64 a0_2, .int .i64 a0_3, .int .i64 a0_4] 28 (0, 0)) (by (with_reducible repeat (first | refine q5e ?_ _ | refine q6e ?_ | refine q7e ?_ _)); exact BK185.out) hb); have n1_ := qge (q8e (g := gb186) (o := .cells #[.int .i64 0, .int .i64 0] 26 (0, 0)) (by (with_reducible repeat (first | refine q5e ?_ _ | refine q6e ?_ | refine q7e ?_ _)); exact BK186.out) hb); have n2_ := qge (q9e (by repeat (first | (with_reducible first | exact HB.out | apply q1e | apply q2e | apply q3e | refine q4e ?_ GE185.out | refine q4e ?_ GE186.out) | exact HB.out)) hb); clear BK185; clear BK186; clear HB; have BK185 := n0_; have BK186 := n1_; have HB := n2_; clear n0_ n1_ n2_; (try clear hb); (try clear hb2); (try clear hk); (try clear hi); have hcz38_0 : w37.cell? ⟨gb186, 0, none⟩ = some (.int .i64 0) := (qce BK186.out 0).trans rfl; have hcz38_1 : w37.cell? ⟨gb186, 1, none⟩ = some (.int .i64 0) := (qce BK186.out 1).trans rfl; have hfz38_0 := qbe BK186.out 0; have hfz38_1 := qbe BK186.out 1))
  refine bodyPost_ret (results_ct rfl _ _ gb186 26 #[.int .i64 0, .int .i64 0] (0, 0) _ rfl (by (with_reducible repeat (first | refine q5e ?_ _ | refine q6e ?_ | refine q7e ?_ _)); refine qfe (cs := #[.int .i64 0, .int .i64 0]) ?_ 1 _ rfl; (with_reducible repeat (first | refine q5e ?_ _ | refine q6e ?_ | refine q7e ?_ _)); refine qfe (cs := #[.int .i64 0, .int .i64 0]) ?_ 0 _ rfl; (with_reducible repeat (first | refine q5e ?_ _ | refine q6e ?_ | refine q7e ?_ _)); exact BK186.out) Try.underlying26 rfl (by kernel_rfl)) rfl ?_
  exact ⟨by first | rfl | (simp [errW_none, errW_some] <;> rfl) | (simp [*, errW_none, errW_some] <;> rfl), by repeat (first | (with_reducible first | exact HB.out | apply q1e | apply q2e | apply q3e | refine q4e ?_ GE185.out | refine q4e ?_ GE186.out) | exact HB.out)⟩
/-- A state of type 113 at block g of W; what its slices lead to came in by w0. -/
def IsS113 (w0 W : World) (g : Nat) (f0 : List Int) (f1 : Int) (f2 : Int) : Prop := ∃ A0 c0, W.heap[g]? = some (.cells #[.slice A0 f0.length c0, .int .i64 f1, .int .i64 f2] 113 (0, 0)) ∧ w0.heap.size ≤ g ∧ Kd.C (Kd.int .u8) w0 A0 f0.length f0
theorem IsS113.grown {w0 W : World} {g : Nat} {f0 : List Int} {f1 : Int} {f2 : Int} {W1 : World} {row : Option Nat} (h : IsS113 w0 W g f0 f1 f2) (hw : W.grownBy W1 row) (hne : some g ≠ row) : IsS113 w0 W1 g f0 f1 f2 := by
  obtain ⟨A0, c0, hb, hg, hr0⟩ := h
  exact ⟨A0, c0, blk_grown hb hw hne, hg, hr0⟩
theorem IsS113.own_neN {w0 W : World} {g : Nat} {f0 : List Int} {f1 : Int} {f2 : Int} {α : Type} {d : Kd α} {e : Nat} {base : Nat} {ok : Nat → Prop} {v : Value} {xs : List α} (h : IsS113 w0 W g f0 f1 f2) (ho : Kd.N d e W base ok v xs) (ht : e ≠ 113) : some g ≠ v.ownBlock := by
  obtain ⟨A0, c0, hb, hg, hr0⟩ := h
  exact Kd.N_ne ho hb ht
theorem IsS113.fresh {w0 W : World} {g : Nat} {f0 : List Int} {f1 : Int} {f2 : Int} (h : IsS113 w0 W g f0 f1 f2) : ∀ k, W.heap.size ≤ k → k ≠ g := by
  obtain ⟨A0, c0, hb, hg, hr0⟩ := h
  exact Kd.freshB hb
theorem IsS113.kept {w0 W : World} {g : Nat} {f0 : List Int} {f1 : Int} {f2 : Int} {W1 : World} {S : Nat → Prop} (h : IsS113 w0 W g f0 f1 f2) (hk : Kept W W1 S) (hne : ¬ S g) : IsS113 w0 W1 g f0 f1 f2 := by
  obtain ⟨A0, c0, hb, hg, hr0⟩ := h
  exact ⟨A0, c0, blk_kept hb hk hne, hg, hr0⟩
theorem IsS113.below {w0 W : World} {g : Nat} {f0 : List Int} {f1 : Int} {f2 : Int} {W1 : World} (h : IsS113 w0 W g f0 f1 f2) (hw : Below W.heap.size W W1) : IsS113 w0 W1 g f0 f1 f2 := h.grown (grown_of_below hw none) (by simp)
theorem IsS113.alloc {w0 W : World} {g : Nat} {f0 : List Int} {f1 : Int} {f2 : Int} (h : IsS113 w0 W g f0 f1 f2) (o : Obj) : IsS113 w0 (W.alloc o) g f0 f1 f2 := h.below (q1e (Below.refl _ _) o)
theorem IsS113.drewN {w0 W : World} {g : Nat} {f0 : List Int} {f1 : Int} {f2 : Int} (h : IsS113 w0 W g f0 f1 f2) (m : Nat) : IsS113 w0 (W.drewN m) g f0 f1 f2 := h
theorem IsS113.drew {w0 W : World} {g : Nat} {f0 : List Int} {f1 : Int} {f2 : Int} (h : IsS113 w0 W g f0 f1 f2) : IsS113 w0 W.drew g f0 f1 f2 := h
theorem IsS113.at_ {w0 W : World} {g : Nat} {f0 : List Int} {f1 : Int} {f2 : Int} {w' : World} {m : Nat} (hq : W.drewN m = w') (h : IsS113 w0 W g f0 f1 f2) : IsS113 w0 w' g f0 f1 f2 := by subst hq; exact IsS113.drewN h m
theorem IsS113.apart {w0 W : World} {g : Nat} {f0 : List Int} {f1 : Int} {f2 : Int} {α : Type} {d : Kd α} {e : Nat} {base : Nat} {ok : Nat → Prop} {v : Value} {xs : List α} (h : IsS113 w0 W g f0 f1 f2) (ho : d.R e W base ok v xs) (ht : ∀ q, q ∈ e :: d.E → q ≠ 113) : d.R e W base (fun k => ok k ∧ k ≠ g) v xs := by
  obtain ⟨A0, c0, hb, hg, hr0⟩ := h
  exact Kd.R_types ho hb ht
theorem IsS113.own_ne {w0 W : World} {g : Nat} {f0 : List Int} {f1 : Int} {f2 : Int} {α : Type} {d : Kd α} {e : Nat} {base : Nat} {ok : Nat → Prop} {v : Value} {xs : List α} (h : IsS113 w0 W g f0 f1 f2) (ho : d.R e W base ok v xs) (ht : e ≠ 113) : some g ≠ v.ownBlock := by
  obtain ⟨A0, c0, hb, hg, hr0⟩ := h
  exact Kd.R_ne ho hb ht
theorem IsS113.apartQ {w0 W : World} {g : Nat} {f0 : List Int} {f1 : Int} {f2 : Int} {α : Type} {d : Kd α} {e : Nat} {base : Nat} {ok : Nat → Prop} {v : Value} {xs : List α} (h : IsS113 w0 W g f0 f1 f2) (ho : d.Q e W base ok v xs) (ht : ∀ q, q ∈ e :: d.E → q ≠ 113) : d.Q e W base (fun k => ok k ∧ k ≠ g) v xs := by
  obtain ⟨A0, c0, hb, hg, hr0⟩ := h
  exact Kd.Q_types ho hb ht
theorem IsS113.own_neQ {w0 W : World} {g : Nat} {f0 : List Int} {f1 : Int} {f2 : Int} {α : Type} {d : Kd α} {e : Nat} {base : Nat} {ok : Nat → Prop} {v : Value} {xs : List α} (h : IsS113 w0 W g f0 f1 f2) (ho : d.Q e W base ok v xs) (ht : e ≠ 113) : some g ≠ v.ownBlock := by
  obtain ⟨A0, c0, hb, hg, hr0⟩ := h
  exact Kd.Q_ne ho hb ht
theorem IsS113.apartS {w0 W : World} {g : Nat} {f0 : List Int} {f1 : Int} {f2 : Int} {α : Type} {d : Kd α} {e : Nat} {base : Nat} {ok : Nat → Prop} {v : Value} {xs : List α} (h : IsS113 w0 W g f0 f1 f2) (ho : d.S e W base ok v xs) (ht : ∀ q, q ∈ e :: d.E → q ≠ 113) : d.S e W base (fun k => ok k ∧ k ≠ g) v xs := by
  obtain ⟨A0, c0, hb, hg, hr0⟩ := h
  exact Kd.S_types ho hb ht
theorem IsS113.own_neS {w0 W : World} {g : Nat} {f0 : List Int} {f1 : Int} {f2 : Int} {α : Type} {d : Kd α} {e : Nat} {base : Nat} {ok : Nat → Prop} {v : Value} {xs : List α} (h : IsS113 w0 W g f0 f1 f2) (ho : d.S e W base ok v xs) (ht : e ≠ 113) : some g ≠ v.ownBlock := by
  obtain ⟨A0, c0, hb, hg, hr0⟩ := h
  exact Kd.S_ne ho hb ht
theorem IsS113.lt {w0 W : World} {g : Nat} {f0 : List Int} {f1 : Int} {f2 : Int} (h : IsS113 w0 W g f0 f1 f2) : g < W.heap.size := by
  obtain ⟨A0, c0, hb, hg, hr0⟩ := h
  exact qde hb
theorem IsS113.ge {w0 W : World} {g : Nat} {f0 : List Int} {f1 : Int} {f2 : Int} (h : IsS113 w0 W g f0 f1 f2) : w0.heap.size ≤ g := by
  obtain ⟨A0, c0, hb, hg, hr0⟩ := h
  exact hg
theorem IsS113.ne_blk {w0 W : World} {g : Nat} {f0 : List Int} {f1 : Int} {f2 : Int} {a : Nat} {cs : Array Value} {t : TypeId} {fr : Nat × Nat} (h : IsS113 w0 W g f0 f1 f2) (hb2 : W.heap[a]? = some (.cells cs t fr)) (ht : t ≠ 113) : g ≠ a := by
  obtain ⟨A0, c0, hb, hg, hr0⟩ := h
  rintro rfl
  rw [hb] at hb2
  injection hb2 with hb2
  injection hb2 with _ ht2
  exact ht ht2.symm
theorem IsS113.far {w0 W : World} {g : Nat} {f0 : List Int} {f1 : Int} {f2 : Int} {p : Addr} (h : IsS113 w0 W g f0 f1 f2) (hne : g ≠ p.block) (u : Value) : IsS113 w0 (W.setCell p u) g f0 f1 f2 := by
  obtain ⟨A0, c0, hb, hg, hr0⟩ := h
  exact ⟨A0, c0, qee hb hne u, hg, hr0⟩
theorem cellS113_0 {W : World} {g : Nat} {A0 : Option Addr} {c0 : Nat} {f0 : List Int} {f1 : Int} {f2 : Int} (h : W.heap[g]? = some (.cells #[.slice A0 f0.length c0, .int .i64 f1, .int .i64 f2] 113 (0, 0))) : W.cell? ⟨g, 0, none⟩ = some (.slice A0 f0.length c0) := (qce h 0).trans rfl
theorem cellS113_1 {W : World} {g : Nat} {A0 : Option Addr} {c0 : Nat} {f0 : List Int} {f1 : Int} {f2 : Int} (h : W.heap[g]? = some (.cells #[.slice A0 f0.length c0, .int .i64 f1, .int .i64 f2] 113 (0, 0))) : W.cell? ⟨g, 1, none⟩ = some (.int .i64 f1) := (qce h 1).trans rfl
theorem IsS113.set_1 {w0 W : World} {g : Nat} {f0 : List Int} {f1 : Int} {f2 : Int} (h : IsS113 w0 W g f0 f1 f2) (x : Int) : IsS113 w0 (W.setCell ⟨g, 1, none⟩ (.int .i64 x)) g f0 x f2 := by
  obtain ⟨A0, c0, hb, hg, hr0⟩ := h
  exact ⟨A0, c0, by simpa using blk_set hb 1 (.int .i64 x), hg, hr0⟩
theorem cellS113_2 {W : World} {g : Nat} {A0 : Option Addr} {c0 : Nat} {f0 : List Int} {f1 : Int} {f2 : Int} (h : W.heap[g]? = some (.cells #[.slice A0 f0.length c0, .int .i64 f1, .int .i64 f2] 113 (0, 0))) : W.cell? ⟨g, 2, none⟩ = some (.int .i64 f2) := (qce h 2).trans rfl
theorem IsS113.set_2 {w0 W : World} {g : Nat} {f0 : List Int} {f1 : Int} {f2 : Int} (h : IsS113 w0 W g f0 f1 f2) (x : Int) : IsS113 w0 (W.setCell ⟨g, 2, none⟩ (.int .i64 x)) g f0 f1 x := by
  obtain ⟨A0, c0, hb, hg, hr0⟩ := h
  exact ⟨A0, c0, by simpa using blk_set hb 2 (.int .i64 x), hg, hr0⟩
theorem IsS113.new (w0 W : World) (A0 : Option Addr) (c0 : Nat) (f0 : List Int) (f1 : Int) (f2 : Int) (hB : Below w0.heap.size w0 W) (hr0 : Kd.C (Kd.int .u8) w0 A0 f0.length f0) : IsS113 w0 (W.alloc (.cells #[.slice A0 f0.length c0, .int .i64 f1, .int .i64 f2] 113)) W.heap.size f0 f1 f2 := ⟨A0, c0, by simpa using heap_alloc_new W _, hB.size, hr0⟩

/-! ### spec_l1New: function 86 -/
def spec_l1New.l0 : Nat → List Int → Int → Int → Option (List Int × Int × Int)
  | 0, _, _, _ => none
  | k + 1, x0, x3, x4 => if x4 < (x0.length : Int) then (if x4 < 4000 then (if 0 ≤ x4 then (spec_l1New.l0 k x0 (Go.bits .and .i64 (wrap64 ((wrap64 ((wrap64 (x3 * 167)) + (wrap64 (rd x0 x4)))) + 29)) 1073741823) (wrap64 (x4 + 1))) else (none)) else (some (x0, 0, x3))) else (some (x0, 0, x3))
def spec_l1New.f (k : Nat) (l0 : List Int) : Option (List Int × Int × Int) := spec_l1New.l0 k l0 (wrap64 (620033 + (wrap64 (3 * (l0.length : Int))))) 0
theorem spec_l1New.mono_l : ∀ k, (∀ y0 y1 y2, LeO (spec_l1New.l0 k y0 y1 y2) (spec_l1New.l0 (k + 1) y0 y1 y2))
  | 0 => fun _ _ _ r h => by simp [spec_l1New.l0] at h
  | k + 1 => by
    have ih0 := spec_l1New.mono_l k
    · intro y0 y1 y2
      unfold spec_l1New.l0
      repeat' first
      | (with_reducible exact ih0 _ _ _)
      | (with_reducible exact LeO.refl _)
      | (with_reducible exact LeO.none _)
      | (with_reducible refine LeO.ite ?_ ?_)
      | (with_reducible refine LeO.bind ?_ (fun _ => ?_))
      | exact ih0 _ _ _
      | exact LeO.none _
      | refine LeO.ite ?_ ?_
      | refine LeO.bind ?_ (fun _ => ?_)
theorem spec_l1New.mono : ∀ a0 k, LeO (spec_l1New.f k a0) (spec_l1New.f (k + 1) a0) := by
  intro a0 k
  have ih0 := spec_l1New.mono_l k
  unfold spec_l1New.f
  repeat' first
      | (with_reducible exact ih0 _ _ _)
      | (with_reducible exact LeO.refl _)
      | (with_reducible exact LeO.none _)
      | (with_reducible refine LeO.ite ?_ ?_)
      | (with_reducible refine LeO.bind ?_ (fun _ => ?_))
      | exact ih0 _ _ _
      | exact LeO.none _
      | refine LeO.ite ?_ ?_
      | refine LeO.bind ?_ (fun _ => ?_)
set_option maxHeartbeats 8000000 in
set_option maxRecDepth 100000 in
theorem spec_l1New.calls (k : Nat) (A0 : Option Addr) (c0 : Nat) (l0 : List Int) (r1 : List Int) (r2 : Int) (r3 : Int) (w0 w : World) (hB : Below w0.heap.size w0 w) (hr0 : Kd.C (Kd.int .u8) w0 A0 l0.length l0) (hc0 : l0.length ≤ c0) (h : spec_l1New.f k l0 = some (r1, r2, r3)) :
 Calls Try.prog 86 #[.slice A0 l0.length c0] w fun e w' => ∃ g_ : Nat, e = .returned (.pointer (some ⟨g_, 0, none⟩)) ∧ IsS113 w0 w' g_ r1 r2 r3 ∧ Below w0.heap.size w0 w' ∧ Below w.heap.size w w' := by
 have hu113 := Try.underlying113
 have HR0 := qge hr0
 have HC0 := qge hc0
 clear hr0 hc0
 have HBW := qge (Below.refl w.heap.size w)
 have HW0 := qge hB.size
 have HB := qge hB
 clear hB
 have H : (spec_l1New.l0 k l0 (wrap64 (620033 + (wrap64 (3 * (l0.length : Int))))) 0) = some (r1, r2, r3) := h
 clear h
 have H' := qge H
 clear H
 go_enter Try.func86, Try.ntmps86
 go_wp2
 go_loopg [3, 4] k (fun kq v3 v4 w' => ∃ (x3_1 : Int) (x4_1 : Int), v3 = .int .i64 x3_1 ∧ v4 = .int .i64 x4_1 ∧ Aside0 (spec_l1New.l0 kq l0 x3_1 x4_1 = some (r1, r2, r3)) ∧ Aside0 (kq ≤ k) ∧ Aside0 (Below w0.heap.size w0 w') ∧ Aside0 (Below w.heap.size w w'))
 case atStart => exact ⟨(wrap64 (620033 + (wrap64 (3 * (l0.length : Int))))), (0), (by first | rfl | (simp; done) | (simp [*]; done)), (by first | rfl | (simp; done) | (simp [*]; done)), H', ⟨Nat.le_refl _⟩, ⟨by repeat (first | (with_reducible first | exact HB.out | apply q1e | apply q2e | apply q3e) | exact HB.out)⟩, ⟨by repeat (first | (with_reducible first | exact HBW.out | apply q1e | apply q2e | apply q3e) | exact HBW.out)⟩⟩
 case round =>
  clear H'
  obtain ⟨x3_1, x4_1, rfl, rfl, HA, HK1, HB, HBW⟩ := hrel
  cases gk with
  | zero => exact absurd HA.out (by simp [spec_l1New.l0])
  | succ k1 =>
   have H := HA.out
   clear HA
   simp only [spec_l1New.l0] at H
   by_cases c2 : x4_1 < (l0.length : Int)
   ·rw [if_pos c2] at H
    have c2b0 : decide (x4_1 < (l0.length : Int)) = true := decide_eq_true c2
    clear c2
    by_cases c3 : x4_1 < 4000
    ·rw [if_pos c3] at H
     have c3b0 : decide (x4_1 < 4000) = true := decide_eq_true c3
     clear c3
     by_cases c4 : 0 ≤ x4_1
     ·rw [if_pos c4] at H
      have c4b0 : decide (0 ≤ x4_1) = true := decide_eq_true c4
      clear c4
      have H' := qge H
      clear H
      have p191 : 0 ≤ (x4_1 : Int) := of_decide_eq_true (by first | (with_reducible assumption) | assumption)
      have q191 : x4_1 < (l0.length : Int) := of_decide_eq_true (by first | (with_reducible assumption) | assumption)
      obtain ⟨ad191, e191, hx191_0⟩ := Kd.at_int HR0.out x4_1 p191 q191
      cases e191
      replace hx191_0 := pw_cell_below HB.out hx191_0
      replace p191 := eq_true p191
      replace q191 := eq_true q191
      go_wp2
      go_roundg k1
      case measure => have := HK1.out; omega
      case rel => exact ⟨(Go.bits .and .i64 (wrap64 ((wrap64 ((wrap64 (x3_1 * 167)) + (wrap64 (rd l0 x4_1)))) + 29)) 1073741823), (wrap64 (x4_1 + 1)), (by first | rfl | (simp; done) | (simp [*]; done)), (by first | rfl | (simp; done) | (simp [*]; done)), H', ⟨by have := HK1.out; omega⟩, ⟨by repeat (first | (with_reducible first | exact HB.out | apply q1e | apply q2e | apply q3e) | exact HB.out)⟩, ⟨by repeat (first | (with_reducible first | exact HBW.out | apply q1e | apply q2e | apply q3e) | exact HBW.out)⟩⟩
     ·rw [if_neg c4] at H
      exact absurd H (by simp)
    ·rw [if_neg c3] at H
     have c3b0 : decide (x4_1 < 4000) = false := decide_eq_false c3
     clear c3
     simp only [Option.some.injEq, Prod.mk.injEq] at H
     obtain ⟨rfl, rfl, rfl⟩ := H
     go_wp2_with (first | ((with_reducible refine que (N := 32) rfl ?_); refine qhe ?hg (N := 32) ?hd (cs := #[.slice A0 l0.length c0, .int .i64 0, .int .i64 x3_1]) (t := 113) ?hr ?_; (case hd => rfl); (case hg => rfl); (case hr => first | (go_simp; done) | (go_simp; rfl)); intro gb192 hg w5 hbox hb; have n0_ := qge (q9e HBW.out hb); have n1_ := qge (q9e (by repeat (first | (with_reducible first | exact HB.out | apply q1e | apply q2e | apply q3e) | exact HB.out)) hb); have n2_ := qge (hbox); have n3_ := qge ((by rw [hg]; exact (qae (by repeat (first | (with_reducible first | exact HBW.out | apply q1e | apply q2e | apply q3e) | exact HBW.out))) : w.heap.size ≤ gb192)); have n4_ := qge ((Nat.le_trans HW0.out (by rw [hg]; exact (qae (by repeat (first | (with_reducible first | exact HBW.out | apply q1e | apply q2e | apply q3e) | exact HBW.out))) : w.heap.size ≤ gb192) : w0.heap.size ≤ gb192)); clear HBW; clear HB; have HBW := n0_; have HB := n1_; have BK192 := n2_; have GW192 := n3_; have GE192 := n4_; clear n0_ n1_ n2_ n3_ n4_; clear hb hbox hg))
     go_ret
     exact ⟨_, rfl, (show IsS113 w0 _ gb192 l0 0 x3_1 from ⟨_, _, by (with_reducible repeat (first | refine q5e ?_ _ | refine q6e ?_ | refine q7e ?_ _)); exact BK192.out, GE192.out, HR0.out⟩), by repeat (first | (with_reducible first | exact HB.out | apply q1e | apply q2e | apply q3e | refine q4e ?_ GE192.out) | exact HB.out), by repeat (first | (with_reducible first | exact HBW.out | apply q1e | apply q2e | apply q3e | refine q4e ?_ GW192.out) | exact HBW.out)⟩
   ·rw [if_neg c2] at H
    have c2b0 : decide (x4_1 < (l0.length : Int)) = false := decide_eq_false c2
    clear c2
    simp only [Option.some.injEq, Prod.mk.injEq] at H
    obtain ⟨rfl, rfl, rfl⟩ := H
    go_wp2_with (first | ((with_reducible refine que (N := 32) rfl ?_); refine qhe ?hg (N := 32) ?hd (cs := #[.slice A0 l0.length c0, .int .i64 0, .int .i64 x3_1]) (t := 113) ?hr ?_; (case hd => rfl); (case hg => rfl); (case hr => first | (go_simp; done) | (go_simp; rfl)); intro gb193 hg w6 hbox hb; have n0_ := qge (q9e HBW.out hb); have n1_ := qge (q9e (by repeat (first | (with_reducible first | exact HB.out | apply q1e | apply q2e | apply q3e) | exact HB.out)) hb); have n2_ := qge (hbox); have n3_ := qge ((by rw [hg]; exact (qae (by repeat (first | (with_reducible first | exact HBW.out | apply q1e | apply q2e | apply q3e) | exact HBW.out))) : w.heap.size ≤ gb193)); have n4_ := qge ((Nat.le_trans HW0.out (by rw [hg]; exact (qae (by repeat (first | (with_reducible first | exact HBW.out | apply q1e | apply q2e | apply q3e) | exact HBW.out))) : w.heap.size ≤ gb193) : w0.heap.size ≤ gb193)); clear HBW; clear HB; have HBW := n0_; have HB := n1_; have BK193 := n2_; have GW193 := n3_; have GE193 := n4_; clear n0_ n1_ n2_ n3_ n4_; clear hb hbox hg))
    go_ret
    exact ⟨_, rfl, (show IsS113 w0 _ gb193 l0 0 x3_1 from ⟨_, _, by (with_reducible repeat (first | refine q5e ?_ _ | refine q6e ?_ | refine q7e ?_ _)); exact BK193.out, GE193.out, HR0.out⟩), by repeat (first | (with_reducible first | exact HB.out | apply q1e | apply q2e | apply q3e | refine q4e ?_ GE193.out) | exact HB.out), by repeat (first | (with_reducible first | exact HBW.out | apply q1e | apply q2e | apply q3e | refine q4e ?_ GW193.out) | exact HBW.out)⟩
end Go.Proofs.Ytlmgokicanlcpaa.PFnMeet
