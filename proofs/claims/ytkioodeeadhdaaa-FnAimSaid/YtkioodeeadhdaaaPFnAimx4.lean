-- A printed text, shortened by wip/tools/squeeze.py.
import Derived.Test.YtkioodeeadhdaaaPFnAimx0
namespace Go.Proofs.Ytkioodeeadhdaaa.PFnAim
open Go.RowKit Go.Proofs.YtkioodeeadhdaaaW.PrintWords Go.Proofs.YtkioodeeadhdaaaW.PrintLast Go.Proofs.YtkioodeeadhdaaaW.PrintMore
attribute [local go_sem] max2_int min2_int max_two min_two max_three min_three max_four min_four   -- for this text's walks alone
set_option linter.unusedVariables false
set_option linter.unusedSimpArgs false

theorem p1e : type_of% @List.setIfInBounds_toArray := @List.setIfInBounds_toArray
theorem p2e : type_of% @List.set_cons_zero := @List.set_cons_zero
theorem p3e : type_of% @List.set_cons_succ := @List.set_cons_succ
theorem q1e : type_of% @below_alloc := @below_alloc
theorem q2e : type_of% @pw_below_drewN := @pw_below_drewN
theorem q3e : type_of% @below_drew1 := @below_drew1
theorem q4e : type_of% @below_set := @below_set
theorem q5e : type_of% @blk_drewN := @blk_drewN
theorem q6e : type_of% @blk_drew := @blk_drew
theorem q7e : type_of% @blk_alloc := @blk_alloc
theorem q8e : type_of% @blk_below := @blk_below
theorem q9e : type_of% @below_step := @below_step
theorem qae : type_of% @below_size := @below_size
theorem qbe : type_of% @blk_frozen := @blk_frozen
theorem qce : type_of% @blk_cell := @blk_cell
theorem qde : type_of% @blk_lt := @blk_lt
theorem qee : type_of% @blk_far := @blk_far
theorem qfe : type_of% @blk_put := @blk_put
theorem qge : type_of% @Aside0.mk := @Aside0.mk
theorem qhe : type_of% @box_event := @box_event
theorem qie : type_of% @cell_far := @cell_far
theorem qte : type_of% @gate_callee := @gate_callee
theorem que : type_of% @gate_dst := @gate_dst
theorem qve : type_of% @Nat.ne_of_lt := @Nat.ne_of_lt
theorem qwe : type_of% @Nat.ne_of_gt := @Nat.ne_of_gt
/-! ### spec_IsHeading: function 81 -/
def spec_IsHeading.f (a0 : Int) : Option (Bool) := if a0 ≥ 0 then (some (decide (a0 ≤ 3))) else (some false)
set_option maxHeartbeats 8000000 in
set_option maxRecDepth 100000 in
theorem spec_IsHeading.calls (a0 : Int) (r : Bool) (w : World) (h : spec_IsHeading.f a0 = some r) :
 Calls Try.prog 81 #[.int .i64 a0] w fun e w' => e = .returned (.bool r) ∧ Drawn0 w w' := by
 have H : (if a0 ≥ 0 then (some (decide (a0 ≤ 3))) else (some false)) = some r := h
 clear h
 by_cases c2 : a0 ≥ 0
 ·rw [if_pos c2] at H
  have c2b0 : decide (0 ≤ a0) = true := decide_eq_true c2
  clear c2
  obtain rfl := Option.some.inj H
  go_enter Try.func81, Try.ntmps81
  go_wp2
  go_ret
  exact ⟨by first | rfl | (simp; done) | (simp [*]; done), by repeat (first | exact Drawn0.refl _ | apply Drawn0.step)⟩
 ·rw [if_neg c2] at H
  have c2b0 : decide (0 ≤ a0) = false := decide_eq_false c2
  clear c2
  obtain rfl := Option.some.inj H
  go_enter Try.func81, Try.ntmps81
  go_wp2
  go_ret
  exact ⟨by first | rfl | (simp; done) | (simp [*]; done), by repeat (first | exact Drawn0.refl _ | apply Drawn0.step)⟩
/-! ### spec_l1In: function 96 -/
def spec_l1In.f (a0 : Int) (a1 : Int) (a2 : Int) : Option (Bool) := if a0 ≥ a1 then (some (decide (a0 ≤ a2))) else (some false)
set_option maxHeartbeats 8000000 in
set_option maxRecDepth 100000 in
theorem spec_l1In.calls (a0 : Int) (a1 : Int) (a2 : Int) (r : Bool) (w : World) (h : spec_l1In.f a0 a1 a2 = some r) :
 Calls Try.prog 96 #[.int .i64 a0, .int .i64 a1, .int .i64 a2] w fun e w' => e = .returned (.bool r) ∧ Drawn0 w w' := by
 have H : (if a0 ≥ a1 then (some (decide (a0 ≤ a2))) else (some false)) = some r := h
 clear h
 by_cases c4 : a0 ≥ a1
 ·rw [if_pos c4] at H
  have c4b0 : decide (a1 ≤ a0) = true := decide_eq_true c4
  clear c4
  obtain rfl := Option.some.inj H
  go_enter Try.func96, Try.ntmps96
  go_wp2
  go_ret
  exact ⟨by first | rfl | (simp; done) | (simp [*]; done), by repeat (first | exact Drawn0.refl _ | apply Drawn0.step)⟩
 ·rw [if_neg c4] at H
  have c4b0 : decide (a1 ≤ a0) = false := decide_eq_false c4
  clear c4
  obtain rfl := Option.some.inj H
  go_enter Try.func96, Try.ntmps96
  go_wp2
  go_ret
  exact ⟨by first | rfl | (simp; done) | (simp [*]; done), by repeat (first | exact Drawn0.refl _ | apply Drawn0.step)⟩
/-! ### spec_IsJet: function 94 -/
def spec_IsJet.f (a0_0 : Int) (a0_1 : Int) (a0_2 : Int) (a0_3 : Int) (a0_4 : Int) : Option (Bool) := (spec_l1In.f a0_0 (-1024) 1024).bind fun t277 => (if t277 = true then ((spec_l1In.f a0_1 (-1024) 1024).bind fun t278 => (if t278 = true then ((spec_IsHeading.f a0_2).bind fun t279 => (if t279 = true then ((spec_l1In.f a0_3 0 16).bind fun t280 => (if t280 = true then ((spec_l1In.f a0_4 1 32).bind fun t281 => (some t281)) else (some false))) else (some false))) else (some false))) else (some false))
set_option maxHeartbeats 8000000 in
set_option maxRecDepth 100000 in
theorem spec_IsJet.calls (a0_0 : Int) (a0_1 : Int) (a0_2 : Int) (a0_3 : Int) (a0_4 : Int) (r : Bool) (w : World) (h : spec_IsJet.f a0_0 a0_1 a0_2 a0_3 a0_4 = some r) :
 Calls Try.prog 94 #[.agg #[.int .i64 a0_0, .int .i64 a0_1, .int .i64 a0_2, .int .i64 a0_3, .int .i64 a0_4]] w fun e w' => e = .returned (.bool r) ∧ Below w.heap.size w w' := by
 have hu27 := Try.underlying27
 have HB := qge (Below.refl w.heap.size w)
 have H : ((spec_l1In.f a0_0 (-1024) 1024).bind fun t277 => (if t277 = true then ((spec_l1In.f a0_1 (-1024) 1024).bind fun t278 => (if t278 = true then ((spec_IsHeading.f a0_2).bind fun t279 => (if t279 = true then ((spec_l1In.f a0_3 0 16).bind fun t280 => (if t280 = true then ((spec_l1In.f a0_4 1 32).bind fun t281 => (some t281)) else (some false))) else (some false))) else (some false))) else (some false))) = some r := h
 clear h
 replace H := Option.bind_eq_some_iff.mp H
 obtain ⟨t277, A20, H⟩ := H
 replace H : (if t277 = true then ((spec_l1In.f a0_1 (-1024) 1024).bind fun t278 => (if t278 = true then ((spec_IsHeading.f a0_2).bind fun t279 => (if t279 = true then ((spec_l1In.f a0_3 0 16).bind fun t280 => (if t280 = true then ((spec_l1In.f a0_4 1 32).bind fun t281 => (some t281)) else (some false))) else (some false))) else (some false))) else (some false)) = some r := H
 have A2 := qge A20
 clear A20
 by_cases c3 : t277 = true
 ·subst c3
  have H1 : ((spec_l1In.f a0_1 (-1024) 1024).bind fun t278 => (if t278 = true then ((spec_IsHeading.f a0_2).bind fun t279 => (if t279 = true then ((spec_l1In.f a0_3 0 16).bind fun t280 => (if t280 = true then ((spec_l1In.f a0_4 1 32).bind fun t281 => (some t281)) else (some false))) else (some false))) else (some false))) = some r := by rw [if_pos rfl] at H; exact H
  clear H
  have H := H1
  clear H1
  replace H := Option.bind_eq_some_iff.mp H
  obtain ⟨t278, A40, H⟩ := H
  replace H : (if t278 = true then ((spec_IsHeading.f a0_2).bind fun t279 => (if t279 = true then ((spec_l1In.f a0_3 0 16).bind fun t280 => (if t280 = true then ((spec_l1In.f a0_4 1 32).bind fun t281 => (some t281)) else (some false))) else (some false))) else (some false)) = some r := H
  have A4 := qge A40
  clear A40
  by_cases c5 : t278 = true
  ·subst c5
   have H1 : ((spec_IsHeading.f a0_2).bind fun t279 => (if t279 = true then ((spec_l1In.f a0_3 0 16).bind fun t280 => (if t280 = true then ((spec_l1In.f a0_4 1 32).bind fun t281 => (some t281)) else (some false))) else (some false))) = some r := by rw [if_pos rfl] at H; exact H
   clear H
   have H := H1
   clear H1
   replace H := Option.bind_eq_some_iff.mp H
   obtain ⟨t279, A60, H⟩ := H
   replace H : (if t279 = true then ((spec_l1In.f a0_3 0 16).bind fun t280 => (if t280 = true then ((spec_l1In.f a0_4 1 32).bind fun t281 => (some t281)) else (some false))) else (some false)) = some r := H
   have A6 := qge A60
   clear A60
   by_cases c7 : t279 = true
   ·subst c7
    have H1 : ((spec_l1In.f a0_3 0 16).bind fun t280 => (if t280 = true then ((spec_l1In.f a0_4 1 32).bind fun t281 => (some t281)) else (some false))) = some r := by rw [if_pos rfl] at H; exact H
    clear H
    have H := H1
    clear H1
    replace H := Option.bind_eq_some_iff.mp H
    obtain ⟨t280, A80, H⟩ := H
    replace H : (if t280 = true then ((spec_l1In.f a0_4 1 32).bind fun t281 => (some t281)) else (some false)) = some r := H
    have A8 := qge A80
    clear A80
    by_cases c9 : t280 = true
    ·subst c9
     have H1 : ((spec_l1In.f a0_4 1 32).bind fun t281 => (some t281)) = some r := by rw [if_pos rfl] at H; exact H
     clear H
     have H := H1
     clear H1
     replace H := Option.bind_eq_some_iff.mp H
     obtain ⟨t281, A100, H⟩ := H
     replace H : (some t281) = some r := H
     have A10 := qge A100
     clear A100
     obtain rfl := Option.some.inj H
     go_enter Try.func94, Try.ntmps94
     go_wp2_with (first | ((with_reducible refine que (N := 1) rfl ?_); refine qhe ?hg (N := 1) ?hd (cs := #[.int .i64 a0_0, .int .i64 a0_1, .int .i64 a0_2, .int .i64 a0_3, .int .i64 a0_4]) (t := 27) ?hr ?_; (case hd => rfl); (case hg => rfl); (case hr => first | (go_simp; done) | (go_simp; rfl)); intro gb276 hg w11 hbox hb; have n0_ := qge (q9e (by repeat (first | (with_reducible first | exact HB.out | apply q1e | apply q2e | apply q3e) | exact HB.out)) hb); have n1_ := qge (hbox); have n2_ := qge ((by rw [hg]; exact (qae (by repeat (first | (with_reducible first | exact HB.out | apply q1e | apply q2e | apply q3e) | exact HB.out))) : w.heap.size ≤ gb276)); have n3_ := qge ((by rw [hg]; exact (qae (by repeat (first | (with_reducible first | exact HB.out | apply q1e | apply q2e | apply q3e) | exact HB.out))) : w.heap.size ≤ gb276)); clear HB; have HB := n0_; have BK276 := n1_; have GW276 := n2_; have GE276 := n3_; clear n0_ n1_ n2_ n3_; clear hb hbox hg; have hcz12_0 : w11.cell? ⟨gb276, 0, none⟩ = some (.int .i64 a0_0) := (qce BK276.out 0).trans rfl; have hcz12_1 : w11.cell? ⟨gb276, 1, none⟩ = some (.int .i64 a0_1) := (qce BK276.out 1).trans rfl; have hcz12_2 : w11.cell? ⟨gb276, 2, none⟩ = some (.int .i64 a0_2) := (qce BK276.out 2).trans rfl; have hcz12_3 : w11.cell? ⟨gb276, 3, none⟩ = some (.int .i64 a0_3) := (qce BK276.out 3).trans rfl; have hcz12_4 : w11.cell? ⟨gb276, 4, none⟩ = some (.int .i64 a0_4) := (qce BK276.out 4).trans rfl; have hfz12_0 := qbe BK276.out 0; have hfz12_1 := qbe BK276.out 1; have hfz12_2 := qbe BK276.out 2; have hfz12_3 := qbe BK276.out 3; have hfz12_4 := qbe BK276.out 4) | ((with_reducible refine qte (f := 96) rfl ?_); refine goesL_ (some 7) rfl rfl Try.func96 (by kernel_rfl) rfl #[.int .i64 a0_0, .int .i64 (-1024), .int .i64 1024] rfl (by (try simp only [List.map_toArray, List.map_cons, List.map_nil]); first | done | rfl | (simp only [List.length_drop, List.length_take]; rfl)) ?_; (with_reducible refine (spec_l1In.calls a0_0 (-1024) 1024 true _ A2.out).mono ?_); rintro e w' ⟨rfl, ⟨nd, rfl⟩⟩; refine ⟨_, rfl, ?_⟩) | (go_at_call 96; (with_reducible refine (spec_l1In.calls a0_1 (-1024) 1024 true _ A4.out).mono ?_); rintro e w' ⟨rfl, ⟨nd, rfl⟩⟩) | (go_at_call 81; (with_reducible refine (spec_IsHeading.calls a0_2 true _ A6.out).mono ?_); rintro e w' ⟨rfl, ⟨nd, rfl⟩⟩) | (go_at_call 96; (with_reducible refine (spec_l1In.calls a0_3 0 16 true _ A8.out).mono ?_); rintro e w' ⟨rfl, ⟨nd, rfl⟩⟩) | (go_at_call 96; (with_reducible refine (spec_l1In.calls a0_4 1 32 t281 _ A10.out).mono ?_); rintro e w' ⟨rfl, ⟨nd, rfl⟩⟩))
     go_ret
     exact ⟨by first | rfl | (simp [errW_none, errW_some] <;> rfl) | (simp [*, errW_none, errW_some] <;> rfl), by repeat (first | (with_reducible first | exact HB.out | apply q1e | apply q2e | apply q3e | refine q4e ?_ GE276.out) | exact HB.out)⟩
    ·replace c9 := Bool.eq_false_iff.mpr c9
     subst c9
     have H1 : (some false) = some r := by rw [if_neg (show ¬ (false = true) by decide)] at H; exact H
     clear H
     have H := H1
     clear H1
     obtain rfl := Option.some.inj H
     go_enter Try.func94, Try.ntmps94
     go_wp2_with (first | ((with_reducible refine que (N := 1) rfl ?_); refine qhe ?hg (N := 1) ?hd (cs := #[.int .i64 a0_0, .int .i64 a0_1, .int .i64 a0_2, .int .i64 a0_3, .int .i64 a0_4]) (t := 27) ?hr ?_; (case hd => rfl); (case hg => rfl); (case hr => first | (go_simp; done) | (go_simp; rfl)); intro gb276 hg w13 hbox hb; have n0_ := qge (q9e (by repeat (first | (with_reducible first | exact HB.out | apply q1e | apply q2e | apply q3e) | exact HB.out)) hb); have n1_ := qge (hbox); have n2_ := qge ((by rw [hg]; exact (qae (by repeat (first | (with_reducible first | exact HB.out | apply q1e | apply q2e | apply q3e) | exact HB.out))) : w.heap.size ≤ gb276)); have n3_ := qge ((by rw [hg]; exact (qae (by repeat (first | (with_reducible first | exact HB.out | apply q1e | apply q2e | apply q3e) | exact HB.out))) : w.heap.size ≤ gb276)); clear HB; have HB := n0_; have BK276 := n1_; have GW276 := n2_; have GE276 := n3_; clear n0_ n1_ n2_ n3_; clear hb hbox hg; have hcz14_0 : w13.cell? ⟨gb276, 0, none⟩ = some (.int .i64 a0_0) := (qce BK276.out 0).trans rfl; have hcz14_1 : w13.cell? ⟨gb276, 1, none⟩ = some (.int .i64 a0_1) := (qce BK276.out 1).trans rfl; have hcz14_2 : w13.cell? ⟨gb276, 2, none⟩ = some (.int .i64 a0_2) := (qce BK276.out 2).trans rfl; have hcz14_3 : w13.cell? ⟨gb276, 3, none⟩ = some (.int .i64 a0_3) := (qce BK276.out 3).trans rfl; have hcz14_4 : w13.cell? ⟨gb276, 4, none⟩ = some (.int .i64 a0_4) := (qce BK276.out 4).trans rfl; have hfz14_0 := qbe BK276.out 0; have hfz14_1 := qbe BK276.out 1; have hfz14_2 := qbe BK276.out 2; have hfz14_3 := qbe BK276.out 3; have hfz14_4 := qbe BK276.out 4) | ((with_reducible refine qte (f := 96) rfl ?_); refine goesL_ (some 7) rfl rfl Try.func96 (by kernel_rfl) rfl #[.int .i64 a0_0, .int .i64 (-1024), .int .i64 1024] rfl (by (try simp only [List.map_toArray, List.map_cons, List.map_nil]); first | done | rfl | (simp only [List.length_drop, List.length_take]; rfl)) ?_; (with_reducible refine (spec_l1In.calls a0_0 (-1024) 1024 true _ A2.out).mono ?_); rintro e w' ⟨rfl, ⟨nd, rfl⟩⟩; refine ⟨_, rfl, ?_⟩) | (go_at_call 96; (with_reducible refine (spec_l1In.calls a0_1 (-1024) 1024 true _ A4.out).mono ?_); rintro e w' ⟨rfl, ⟨nd, rfl⟩⟩) | (go_at_call 81; (with_reducible refine (spec_IsHeading.calls a0_2 true _ A6.out).mono ?_); rintro e w' ⟨rfl, ⟨nd, rfl⟩⟩) | (go_at_call 96; (with_reducible refine (spec_l1In.calls a0_3 0 16 false _ A8.out).mono ?_); rintro e w' ⟨rfl, ⟨nd, rfl⟩⟩))
     go_ret
     exact ⟨by first | rfl | (simp [errW_none, errW_some] <;> rfl) | (simp [*, errW_none, errW_some] <;> rfl), by repeat (first | (with_reducible first | exact HB.out | apply q1e | apply q2e | apply q3e | refine q4e ?_ GE276.out) | exact HB.out)⟩
   ·replace c7 := Bool.eq_false_iff.mpr c7
    subst c7
    have H1 : (some false) = some r := by rw [if_neg (show ¬ (false = true) by decide)] at H; exact H
    clear H
    have H := H1
    clear H1
    obtain rfl := Option.some.inj H
    go_enter Try.func94, Try.ntmps94
    go_wp2_with (first | ((with_reducible refine que (N := 1) rfl ?_); refine qhe ?hg (N := 1) ?hd (cs := #[.int .i64 a0_0, .int .i64 a0_1, .int .i64 a0_2, .int .i64 a0_3, .int .i64 a0_4]) (t := 27) ?hr ?_; (case hd => rfl); (case hg => rfl); (case hr => first | (go_simp; done) | (go_simp; rfl)); intro gb276 hg w15 hbox hb; have n0_ := qge (q9e (by repeat (first | (with_reducible first | exact HB.out | apply q1e | apply q2e | apply q3e) | exact HB.out)) hb); have n1_ := qge (hbox); have n2_ := qge ((by rw [hg]; exact (qae (by repeat (first | (with_reducible first | exact HB.out | apply q1e | apply q2e | apply q3e) | exact HB.out))) : w.heap.size ≤ gb276)); have n3_ := qge ((by rw [hg]; exact (qae (by repeat (first | (with_reducible first | exact HB.out | apply q1e | apply q2e | apply q3e) | exact HB.out))) : w.heap.size ≤ gb276)); clear HB; have HB := n0_; have BK276 := n1_; have GW276 := n2_; have GE276 := n3_; clear n0_ n1_ n2_ n3_; clear hb hbox hg; have hcz16_0 : w15.cell? ⟨gb276, 0, none⟩ = some (.int .i64 a0_0) := (qce BK276.out 0).trans rfl; have hcz16_1 : w15.cell? ⟨gb276, 1, none⟩ = some (.int .i64 a0_1) := (qce BK276.out 1).trans rfl; have hcz16_2 : w15.cell? ⟨gb276, 2, none⟩ = some (.int .i64 a0_2) := (qce BK276.out 2).trans rfl; have hcz16_3 : w15.cell? ⟨gb276, 3, none⟩ = some (.int .i64 a0_3) := (qce BK276.out 3).trans rfl; have hcz16_4 : w15.cell? ⟨gb276, 4, none⟩ = some (.int .i64 a0_4) := (qce BK276.out 4).trans rfl; have hfz16_0 := qbe BK276.out 0; have hfz16_1 := qbe BK276.out 1; have hfz16_2 := qbe BK276.out 2; have hfz16_3 := qbe BK276.out 3; have hfz16_4 := qbe BK276.out 4) | ((with_reducible refine qte (f := 96) rfl ?_); refine goesL_ (some 7) rfl rfl Try.func96 (by kernel_rfl) rfl #[.int .i64 a0_0, .int .i64 (-1024), .int .i64 1024] rfl (by (try simp only [List.map_toArray, List.map_cons, List.map_nil]); first | done | rfl | (simp only [List.length_drop, List.length_take]; rfl)) ?_; (with_reducible refine (spec_l1In.calls a0_0 (-1024) 1024 true _ A2.out).mono ?_); rintro e w' ⟨rfl, ⟨nd, rfl⟩⟩; refine ⟨_, rfl, ?_⟩) | (go_at_call 96; (with_reducible refine (spec_l1In.calls a0_1 (-1024) 1024 true _ A4.out).mono ?_); rintro e w' ⟨rfl, ⟨nd, rfl⟩⟩) | (go_at_call 81; (with_reducible refine (spec_IsHeading.calls a0_2 false _ A6.out).mono ?_); rintro e w' ⟨rfl, ⟨nd, rfl⟩⟩))
    go_ret
    exact ⟨by first | rfl | (simp [errW_none, errW_some] <;> rfl) | (simp [*, errW_none, errW_some] <;> rfl), by repeat (first | (with_reducible first | exact HB.out | apply q1e | apply q2e | apply q3e | refine q4e ?_ GE276.out) | exact HB.out)⟩
  ·replace c5 := Bool.eq_false_iff.mpr c5
   subst c5
   have H1 : (some false) = some r := by rw [if_neg (show ¬ (false = true) by decide)] at H; exact H
   clear H
   have H := H1
   clear H1
   obtain rfl := Option.some.inj H
   go_enter Try.func94, Try.ntmps94
   go_wp2_with (first | ((with_reducible refine que (N := 1) rfl ?_); refine qhe ?hg (N := 1) ?hd (cs := #[.int .i64 a0_0, .int .i64 a0_1, .int .i64 a0_2, .int .i64 a0_3, .int .i64 a0_4]) (t := 27) ?hr ?_; (case hd => rfl); (case hg => rfl); (case hr => first | (go_simp; done) | (go_simp; rfl)); intro gb276 hg w17 hbox hb; have n0_ := qge (q9e (by repeat (first | (with_reducible first | exact HB.out | apply q1e | apply q2e | apply q3e) | exact HB.out)) hb); have n1_ := qge (hbox); have n2_ := qge ((by rw [hg]; exact (qae (by repeat (first | (with_reducible first | exact HB.out | apply q1e | apply q2e | apply q3e) | exact HB.out))) : w.heap.size ≤ gb276)); have n3_ := qge ((by rw [hg]; exact (qae (by repeat (first | (with_reducible first | exact HB.out | apply q1e | apply q2e | apply q3e) | exact HB.out))) : w.heap.size ≤ gb276)); clear HB; have HB := n0_; have BK276 := n1_; have GW276 := n2_; have GE276 := n3_; clear n0_ n1_ n2_ n3_; clear hb hbox hg; have hcz18_0 : w17.cell? ⟨gb276, 0, none⟩ = some (.int .i64 a0_0) := (qce BK276.out 0).trans rfl; have hcz18_1 : w17.cell? ⟨gb276, 1, none⟩ = some (.int .i64 a0_1) := (qce BK276.out 1).trans rfl; have hcz18_2 : w17.cell? ⟨gb276, 2, none⟩ = some (.int .i64 a0_2) := (qce BK276.out 2).trans rfl; have hcz18_3 : w17.cell? ⟨gb276, 3, none⟩ = some (.int .i64 a0_3) := (qce BK276.out 3).trans rfl; have hcz18_4 : w17.cell? ⟨gb276, 4, none⟩ = some (.int .i64 a0_4) := (qce BK276.out 4).trans rfl; have hfz18_0 := qbe BK276.out 0; have hfz18_1 := qbe BK276.out 1; have hfz18_2 := qbe BK276.out 2; have hfz18_3 := qbe BK276.out 3; have hfz18_4 := qbe BK276.out 4) | ((with_reducible refine qte (f := 96) rfl ?_); refine goesL_ (some 7) rfl rfl Try.func96 (by kernel_rfl) rfl #[.int .i64 a0_0, .int .i64 (-1024), .int .i64 1024] rfl (by (try simp only [List.map_toArray, List.map_cons, List.map_nil]); first | done | rfl | (simp only [List.length_drop, List.length_take]; rfl)) ?_; (with_reducible refine (spec_l1In.calls a0_0 (-1024) 1024 true _ A2.out).mono ?_); rintro e w' ⟨rfl, ⟨nd, rfl⟩⟩; refine ⟨_, rfl, ?_⟩) | (go_at_call 96; (with_reducible refine (spec_l1In.calls a0_1 (-1024) 1024 false _ A4.out).mono ?_); rintro e w' ⟨rfl, ⟨nd, rfl⟩⟩))
   go_ret
   exact ⟨by first | rfl | (simp [errW_none, errW_some] <;> rfl) | (simp [*, errW_none, errW_some] <;> rfl), by repeat (first | (with_reducible first | exact HB.out | apply q1e | apply q2e | apply q3e | refine q4e ?_ GE276.out) | exact HB.out)⟩
 ·replace c3 := Bool.eq_false_iff.mpr c3
  subst c3
  have H1 : (some false) = some r := by rw [if_neg (show ¬ (false = true) by decide)] at H; exact H
  clear H
  have H := H1
  clear H1
  obtain rfl := Option.some.inj H
  go_enter Try.func94, Try.ntmps94
  go_wp2_with (first | ((with_reducible refine que (N := 1) rfl ?_); refine qhe ?hg (N := 1) ?hd (cs := #[.int .i64 a0_0, .int .i64 a0_1, .int .i64 a0_2, .int .i64 a0_3, .int .i64 a0_4]) (t := 27) ?hr ?_; (case hd => rfl); (case hg => rfl); (case hr => first | (go_simp; done) | (go_simp; rfl)); intro gb276 hg w19 hbox hb; have n0_ := qge (q9e (by repeat (first | (with_reducible first | exact HB.out | apply q1e | apply q2e | apply q3e) | exact HB.out)) hb); have n1_ := qge (hbox); have n2_ := qge ((by rw [hg]; exact (qae (by repeat (first | (with_reducible first | exact HB.out | apply q1e | apply q2e | apply q3e) | exact HB.out))) : w.heap.size ≤ gb276)); have n3_ := qge ((by rw [hg]; exact (qae (by repeat (first | (with_reducible first | exact HB.out | apply q1e | apply q2e | apply q3e) | exact HB.out))) : w.heap.size ≤ gb276)); clear HB; have HB := n0_; have BK276 := n1_; have GW276 := n2_; have GE276 := n3_; clear n0_ n1_ n2_ n3_; clear hb hbox hg; have hcz20_0 : w19.cell? ⟨gb276, 0, none⟩ = some (.int .i64 a0_0) := (qce BK276.out 0).trans rfl; have hcz20_1 : w19.cell? ⟨gb276, 1, none⟩ = some (.int .i64 a0_1) := (qce BK276.out 1).trans rfl; have hcz20_2 : w19.cell? ⟨gb276, 2, none⟩ = some (.int .i64 a0_2) := (qce BK276.out 2).trans rfl; have hcz20_3 : w19.cell? ⟨gb276, 3, none⟩ = some (.int .i64 a0_3) := (qce BK276.out 3).trans rfl; have hcz20_4 : w19.cell? ⟨gb276, 4, none⟩ = some (.int .i64 a0_4) := (qce BK276.out 4).trans rfl; have hfz20_0 := qbe BK276.out 0; have hfz20_1 := qbe BK276.out 1; have hfz20_2 := qbe BK276.out 2; have hfz20_3 := qbe BK276.out 3; have hfz20_4 := qbe BK276.out 4) | ((with_reducible refine qte (f := 96) rfl ?_); refine goesL_ (some 7) rfl rfl Try.func96 (by kernel_rfl) rfl #[.int .i64 a0_0, .int .i64 (-1024), .int .i64 1024] rfl (by (try simp only [List.map_toArray, List.map_cons, List.map_nil]); first | done | rfl | (simp only [List.length_drop, List.length_take]; rfl)) ?_; (with_reducible refine (spec_l1In.calls a0_0 (-1024) 1024 false _ A2.out).mono ?_); rintro e w' ⟨rfl, ⟨nd, rfl⟩⟩; refine ⟨_, rfl, ?_⟩))
  go_ret
  exact ⟨by first | rfl | (simp [errW_none, errW_some] <;> rfl) | (simp [*, errW_none, errW_some] <;> rfl), by repeat (first | (with_reducible first | exact HB.out | apply q1e | apply q2e | apply q3e | refine q4e ?_ GE276.out) | exact HB.out)⟩
/-! ### spec_FlightOf: function 93 -/
def spec_FlightOf.l0 : Nat → Int → Int → Int → Option (Int)
  | 0, _, _, _ => none
  | k + 1, x3, x4, x5 => if x4 > 0 then (spec_FlightOf.l0 k (wrap64 (x3 + 1)) (wrap64 (x4 + x5)) (wrap64 (x5 - 2))) else (some x3)
def spec_FlightOf.f (k : Nat) (a0_0 : Int) (a0_1 : Int) (a0_2 : Int) (a0_3 : Int) (a0_4 : Int) : Option (Int) := (spec_IsJet.f a0_0 a0_1 a0_2 a0_3 a0_4).bind fun t283 => (if t283 = true then (spec_FlightOf.l0 k 1 a0_4 (wrap64 (a0_4 - 2))) else (some 0))
theorem spec_FlightOf.mono_l : ∀ k, (∀ y0 y1 y2, LeO (spec_FlightOf.l0 k y0 y1 y2) (spec_FlightOf.l0 (k + 1) y0 y1 y2))
  | 0 => fun _ _ _ r h => by simp [spec_FlightOf.l0] at h
  | k + 1 => by
    have ih0 := spec_FlightOf.mono_l k
    · intro y0 y1 y2
      unfold spec_FlightOf.l0
      repeat' first
      | (with_reducible exact ih0 _ _ _)
      | (with_reducible exact LeO.refl _)
      | (with_reducible exact LeO.none _)
      | (with_reducible refine LeO.ite ?_ ?_)
      | (with_reducible refine LeO.bind ?_ (fun _ => ?_))
      | exact ih0 _ _ _
      | exact LeO.none _
      | refine LeO.ite ?_ ?_
      | refine LeO.bind ?_ (fun _ => ?_)
theorem spec_FlightOf.mono : ∀ a0 a1 a2 a3 a4 k, LeO (spec_FlightOf.f k a0 a1 a2 a3 a4) (spec_FlightOf.f (k + 1) a0 a1 a2 a3 a4) := by
  intro a0 a1 a2 a3 a4 k
  have ih0 := spec_FlightOf.mono_l k
  unfold spec_FlightOf.f
  repeat' first
      | (with_reducible exact ih0 _ _ _)
      | (with_reducible exact LeO.refl _)
      | (with_reducible exact LeO.none _)
      | (with_reducible refine LeO.ite ?_ ?_)
      | (with_reducible refine LeO.bind ?_ (fun _ => ?_))
      | exact ih0 _ _ _
      | exact LeO.none _
      | refine LeO.ite ?_ ?_
      | refine LeO.bind ?_ (fun _ => ?_)
set_option maxHeartbeats 8000000 in
set_option maxRecDepth 100000 in
theorem spec_FlightOf.calls (k : Nat) (a0_0 : Int) (a0_1 : Int) (a0_2 : Int) (a0_3 : Int) (a0_4 : Int) (r : Int) (w : World) (h : spec_FlightOf.f k a0_0 a0_1 a0_2 a0_3 a0_4 = some r) :
 Calls Try.prog 93 #[.agg #[.int .i64 a0_0, .int .i64 a0_1, .int .i64 a0_2, .int .i64 a0_3, .int .i64 a0_4]] w fun e w' => e = .returned (.int .i64 r) ∧ Below w.heap.size w w' := by
 have hu27 := Try.underlying27
 have HB := qge (Below.refl w.heap.size w)
 have H : ((spec_IsJet.f a0_0 a0_1 a0_2 a0_3 a0_4).bind fun t283 => (if t283 = true then (spec_FlightOf.l0 k 1 a0_4 (wrap64 (a0_4 - 2))) else (some 0))) = some r := h
 clear h
 replace H := Option.bind_eq_some_iff.mp H
 obtain ⟨t283, A20, H⟩ := H
 replace H : (if t283 = true then (spec_FlightOf.l0 k 1 a0_4 (wrap64 (a0_4 - 2))) else (some 0)) = some r := H
 have A2 := qge A20
 clear A20
 by_cases c3 : t283 = true
 ·subst c3
  have H1 : (spec_FlightOf.l0 k 1 a0_4 (wrap64 (a0_4 - 2))) = some r := by rw [if_pos rfl] at H; exact H
  clear H
  have H := H1
  clear H1
  have H' := qge H
  clear H
  go_enter Try.func93, Try.ntmps93
  go_wp2_with (first | ((with_reducible refine que (N := 1) rfl ?_); refine qhe ?hg (N := 1) ?hd (cs := #[.int .i64 a0_0, .int .i64 a0_1, .int .i64 a0_2, .int .i64 a0_3, .int .i64 a0_4]) (t := 27) ?hr ?_; (case hd => rfl); (case hg => rfl); (case hr => first | (go_simp; done) | (go_simp; rfl)); intro gb282 hg w4 hbox hb; have n0_ := qge (q9e (by repeat (first | (with_reducible first | exact HB.out | apply q1e | apply q2e | apply q3e) | exact HB.out)) hb); have n1_ := qge (hbox); have n2_ := qge ((by rw [hg]; exact (qae (by repeat (first | (with_reducible first | exact HB.out | apply q1e | apply q2e | apply q3e) | exact HB.out))) : w.heap.size ≤ gb282)); have n3_ := qge ((by rw [hg]; exact (qae (by repeat (first | (with_reducible first | exact HB.out | apply q1e | apply q2e | apply q3e) | exact HB.out))) : w.heap.size ≤ gb282)); clear HB; have HB := n0_; have BK282 := n1_; have GW282 := n2_; have GE282 := n3_; clear n0_ n1_ n2_ n3_; clear hb hbox hg; have hcz5_0 : w4.cell? ⟨gb282, 0, none⟩ = some (.int .i64 a0_0) := (qce BK282.out 0).trans rfl; have hcz5_1 : w4.cell? ⟨gb282, 1, none⟩ = some (.int .i64 a0_1) := (qce BK282.out 1).trans rfl; have hcz5_2 : w4.cell? ⟨gb282, 2, none⟩ = some (.int .i64 a0_2) := (qce BK282.out 2).trans rfl; have hcz5_3 : w4.cell? ⟨gb282, 3, none⟩ = some (.int .i64 a0_3) := (qce BK282.out 3).trans rfl; have hcz5_4 : w4.cell? ⟨gb282, 4, none⟩ = some (.int .i64 a0_4) := (qce BK282.out 4).trans rfl; have hfz5_0 := qbe BK282.out 0; have hfz5_1 := qbe BK282.out 1; have hfz5_2 := qbe BK282.out 2; have hfz5_3 := qbe BK282.out 3; have hfz5_4 := qbe BK282.out 4) | ((with_reducible refine qte (f := 94) rfl ?_); refine goesL_ (some 7) rfl rfl Try.func94 (by kernel_rfl) rfl #[.agg #[.int .i64 a0_0, .int .i64 a0_1, .int .i64 a0_2, .int .i64 a0_3, .int .i64 a0_4]] rfl (by (try simp only [List.map_toArray, List.map_cons, List.map_nil]); first | done | rfl | (simp only [List.length_drop, List.length_take]; rfl)) ?_; (with_reducible refine (spec_IsJet.calls a0_0 a0_1 a0_2 a0_3 a0_4 true _ A2.out).mono ?_); rintro e w6 ⟨rfl, hb⟩; refine ⟨_, rfl, ?_⟩; have n0_ := qge (q8e (g := gb282) (o := .cells #[.int .i64 a0_0, .int .i64 a0_1, .int .i64 a0_2, .int .i64 a0_3, .int .i64 a0_4] 27 (0, 0)) (by (with_reducible repeat (first | refine q5e ?_ _ | refine q6e ?_ | refine q7e ?_ _)); exact BK282.out) hb); have n1_ := qge (q9e (by repeat (first | (with_reducible first | exact HB.out | apply q1e | apply q2e | apply q3e | refine q4e ?_ GE282.out) | exact HB.out)) hb); clear BK282; clear HB; have BK282 := n0_; have HB := n1_; clear n0_ n1_; (try clear hb); (try clear hb2); (try clear hk); (try clear hi); have hcz7_0 : w6.cell? ⟨gb282, 0, none⟩ = some (.int .i64 a0_0) := (qce BK282.out 0).trans rfl; have hcz7_1 : w6.cell? ⟨gb282, 1, none⟩ = some (.int .i64 a0_1) := (qce BK282.out 1).trans rfl; have hcz7_2 : w6.cell? ⟨gb282, 2, none⟩ = some (.int .i64 a0_2) := (qce BK282.out 2).trans rfl; have hcz7_3 : w6.cell? ⟨gb282, 3, none⟩ = some (.int .i64 a0_3) := (qce BK282.out 3).trans rfl; have hcz7_4 : w6.cell? ⟨gb282, 4, none⟩ = some (.int .i64 a0_4) := (qce BK282.out 4).trans rfl; have hfz7_0 := qbe BK282.out 0; have hfz7_1 := qbe BK282.out 1; have hfz7_2 := qbe BK282.out 2; have hfz7_3 := qbe BK282.out 3; have hfz7_4 := qbe BK282.out 4))
  go_loopg [3, 4, 5] k (fun kq v3 v4 v5 w' => ∃ (x3_1 : Int) (x4_1 : Int) (x5_1 : Int), v3 = .int .i64 x3_1 ∧ v4 = .int .i64 x4_1 ∧ v5 = .int .i64 x5_1 ∧ Aside0 (spec_FlightOf.l0 kq x3_1 x4_1 x5_1 = some r) ∧ Aside0 (kq ≤ k) ∧ Aside0 (w'.heap[gb282]? = some (.cells #[.int .i64 a0_0, .int .i64 a0_1, .int .i64 a0_2, .int .i64 a0_3, .int .i64 a0_4] 27 (0, 0))) ∧ Aside0 (Below w.heap.size w w'))
  case atStart => exact ⟨(1), (a0_4), (wrap64 (a0_4 - 2)), (by first | rfl | (simp; done) | (simp [*]; done)), (by first | rfl | (simp; done) | (simp [*]; done)), (by first | rfl | (simp; done) | (simp [*]; done)), H', ⟨Nat.le_refl _⟩, ⟨by (with_reducible repeat (first | refine q5e ?_ _ | refine q6e ?_ | refine q7e ?_ _)); exact BK282.out⟩, ⟨by repeat (first | (with_reducible first | exact HB.out | apply q1e | apply q2e | apply q3e | refine q4e ?_ GE282.out) | exact HB.out)⟩⟩
  case round =>
   clear H'
   try clear p2
   try clear c3
   try clear p6
   try clear hcz5_0
   try clear hcz5_1
   try clear hcz5_2
   try clear hcz5_3
   try clear hcz5_4
   try clear hcz7_0
   try clear hcz7_1
   try clear hcz7_2
   try clear hcz7_3
   try clear hcz7_4
   try clear hfz5_0
   try clear hfz5_1
   try clear hfz5_2
   try clear hfz5_3
   try clear hfz5_4
   try clear hfz7_0
   try clear hfz7_1
   try clear hfz7_2
   try clear hfz7_3
   try clear hfz7_4
   obtain ⟨x3_1, x4_1, x5_1, rfl, rfl, rfl, HA, HK1, BK282, HB⟩ := hrel
   cases gk with
   | zero => exact absurd HA.out (by simp [spec_FlightOf.l0])
   | succ k1 =>
    have H := HA.out
    clear HA
    simp only [spec_FlightOf.l0] at H
    by_cases c8 : x4_1 > 0
    ·rw [if_pos c8] at H
     have c8b0 : decide (0 < x4_1) = true := decide_eq_true c8
     clear c8
     have H' := qge H
     clear H
     go_wp2
     go_roundg k1
     case measure => have := HK1.out; omega
     case rel => exact ⟨(wrap64 (x3_1 + 1)), (wrap64 (x4_1 + x5_1)), (wrap64 (x5_1 - 2)), (by first | rfl | (simp; done) | (simp [*]; done)), (by first | rfl | (simp; done) | (simp [*]; done)), (by first | rfl | (simp; done) | (simp [*]; done)), H', ⟨by have := HK1.out; omega⟩, ⟨by (with_reducible repeat (first | refine q5e ?_ _ | refine q6e ?_ | refine q7e ?_ _)); exact BK282.out⟩, ⟨by repeat (first | (with_reducible first | exact HB.out | apply q1e | apply q2e | apply q3e | refine q4e ?_ GE282.out) | exact HB.out)⟩⟩
    ·rw [if_neg c8] at H
     have c8b0 : decide (0 < x4_1) = false := decide_eq_false c8
     clear c8
     obtain rfl := Option.some.inj H
     go_wp2
     go_ret
     exact ⟨by first | rfl | (simp [errW_none, errW_some] <;> rfl) | (simp [*, errW_none, errW_some] <;> rfl), by repeat (first | (with_reducible first | exact HB.out | apply q1e | apply q2e | apply q3e | refine q4e ?_ GE282.out) | exact HB.out)⟩
 ·replace c3 := Bool.eq_false_iff.mpr c3
  subst c3
  have H1 : (some 0) = some r := by rw [if_neg (show ¬ (false = true) by decide)] at H; exact H
  clear H
  have H := H1
  clear H1
  obtain rfl := Option.some.inj H
  go_enter Try.func93, Try.ntmps93
  go_wp2_with (first | ((with_reducible refine que (N := 1) rfl ?_); refine qhe ?hg (N := 1) ?hd (cs := #[.int .i64 a0_0, .int .i64 a0_1, .int .i64 a0_2, .int .i64 a0_3, .int .i64 a0_4]) (t := 27) ?hr ?_; (case hd => rfl); (case hg => rfl); (case hr => first | (go_simp; done) | (go_simp; rfl)); intro gb282 hg w9 hbox hb; have n0_ := qge (q9e (by repeat (first | (with_reducible first | exact HB.out | apply q1e | apply q2e | apply q3e) | exact HB.out)) hb); have n1_ := qge (hbox); have n2_ := qge ((by rw [hg]; exact (qae (by repeat (first | (with_reducible first | exact HB.out | apply q1e | apply q2e | apply q3e) | exact HB.out))) : w.heap.size ≤ gb282)); have n3_ := qge ((by rw [hg]; exact (qae (by repeat (first | (with_reducible first | exact HB.out | apply q1e | apply q2e | apply q3e) | exact HB.out))) : w.heap.size ≤ gb282)); clear HB; have HB := n0_; have BK282 := n1_; have GW282 := n2_; have GE282 := n3_; clear n0_ n1_ n2_ n3_; clear hb hbox hg; have hcz10_0 : w9.cell? ⟨gb282, 0, none⟩ = some (.int .i64 a0_0) := (qce BK282.out 0).trans rfl; have hcz10_1 : w9.cell? ⟨gb282, 1, none⟩ = some (.int .i64 a0_1) := (qce BK282.out 1).trans rfl; have hcz10_2 : w9.cell? ⟨gb282, 2, none⟩ = some (.int .i64 a0_2) := (qce BK282.out 2).trans rfl; have hcz10_3 : w9.cell? ⟨gb282, 3, none⟩ = some (.int .i64 a0_3) := (qce BK282.out 3).trans rfl; have hcz10_4 : w9.cell? ⟨gb282, 4, none⟩ = some (.int .i64 a0_4) := (qce BK282.out 4).trans rfl; have hfz10_0 := qbe BK282.out 0; have hfz10_1 := qbe BK282.out 1; have hfz10_2 := qbe BK282.out 2; have hfz10_3 := qbe BK282.out 3; have hfz10_4 := qbe BK282.out 4) | ((with_reducible refine qte (f := 94) rfl ?_); refine goesL_ (some 7) rfl rfl Try.func94 (by kernel_rfl) rfl #[.agg #[.int .i64 a0_0, .int .i64 a0_1, .int .i64 a0_2, .int .i64 a0_3, .int .i64 a0_4]] rfl (by (try simp only [List.map_toArray, List.map_cons, List.map_nil]); first | done | rfl | (simp only [List.length_drop, List.length_take]; rfl)) ?_; (with_reducible refine (spec_IsJet.calls a0_0 a0_1 a0_2 a0_3 a0_4 false _ A2.out).mono ?_); rintro e w11 ⟨rfl, hb⟩; refine ⟨_, rfl, ?_⟩; have n0_ := qge (q8e (g := gb282) (o := .cells #[.int .i64 a0_0, .int .i64 a0_1, .int .i64 a0_2, .int .i64 a0_3, .int .i64 a0_4] 27 (0, 0)) (by (with_reducible repeat (first | refine q5e ?_ _ | refine q6e ?_ | refine q7e ?_ _)); exact BK282.out) hb); have n1_ := qge (q9e (by repeat (first | (with_reducible first | exact HB.out | apply q1e | apply q2e | apply q3e | refine q4e ?_ GE282.out) | exact HB.out)) hb); clear BK282; clear HB; have BK282 := n0_; have HB := n1_; clear n0_ n1_; (try clear hb); (try clear hb2); (try clear hk); (try clear hi)))
  go_ret
  exact ⟨by first | rfl | (simp [errW_none, errW_some] <;> rfl) | (simp [*, errW_none, errW_some] <;> rfl), by repeat (first | (with_reducible first | exact HB.out | apply q1e | apply q2e | apply q3e | refine q4e ?_ GE282.out) | exact HB.out)⟩
/-! ### spec_l2Add: function 79 -/
def spec_l2Add.f (a0_0 : Int) (a0_1 : Int) (a1_0 : Int) (a1_1 : Int) : Option (Int × Int) := some (wrap64 (a0_0 + a1_0), wrap64 (a0_1 + a1_1))
set_option maxHeartbeats 8000000 in
set_option maxRecDepth 100000 in
theorem spec_l2Add.calls (a0_0 : Int) (a0_1 : Int) (a1_0 : Int) (a1_1 : Int) (r1 : Int) (r2 : Int) (w : World) (h : spec_l2Add.f a0_0 a0_1 a1_0 a1_1 = some (r1, r2)) :
 Calls Try.prog 79 #[.agg #[.int .i64 a0_0, .int .i64 a0_1], .agg #[.int .i64 a1_0, .int .i64 a1_1]] w fun e w' => e = .returned (.agg #[.int .i64 r1, .int .i64 r2]) ∧ Below w.heap.size w w' := by
 have hu25 := Try.underlying25
 have HB := qge (Below.refl w.heap.size w)
 have H : (some (wrap64 (a0_0 + a1_0), wrap64 (a0_1 + a1_1))) = some (r1, r2) := h
 clear h
 simp only [Option.some.injEq, Prod.mk.injEq] at H
 obtain ⟨rfl, rfl⟩ := H
 go_enter Try.func79, Try.ntmps79
 go_wp2_with (first | ((with_reducible refine que (N := 2) rfl ?_); refine qhe ?hg (N := 2) ?hd (cs := #[.int .i64 a0_0, .int .i64 a0_1]) (t := 25) ?hr ?_; (case hd => rfl); (case hg => rfl); (case hr => first | (go_simp; done) | (go_simp; rfl)); intro gb284 hg w3 hbox hb; have n0_ := qge (q9e (by repeat (first | (with_reducible first | exact HB.out | apply q1e | apply q2e | apply q3e) | exact HB.out)) hb); have n1_ := qge (hbox); have n2_ := qge ((by rw [hg]; exact (qae (by repeat (first | (with_reducible first | exact HB.out | apply q1e | apply q2e | apply q3e) | exact HB.out))) : w.heap.size ≤ gb284)); have n3_ := qge ((by rw [hg]; exact (qae (by repeat (first | (with_reducible first | exact HB.out | apply q1e | apply q2e | apply q3e) | exact HB.out))) : w.heap.size ≤ gb284)); clear HB; have HB := n0_; have BK284 := n1_; have GW284 := n2_; have GE284 := n3_; clear n0_ n1_ n2_ n3_; clear hb hbox hg) | ((with_reducible refine que (N := 3) rfl ?_); refine qhe ?hg (N := 3) ?hd (cs := #[.int .i64 a1_0, .int .i64 a1_1]) (t := 25) ?hr ?_; (case hd => rfl); (case hg => rfl); (case hr => first | (go_simp; done) | (go_simp; rfl)); intro gb285 hg w4 hbox hb; have n0_ := qge (q8e (g := gb284) (o := .cells #[.int .i64 a0_0, .int .i64 a0_1] 25 (0, 0)) (by (with_reducible repeat (first | refine q5e ?_ _ | refine q6e ?_ | refine q7e ?_ _)); exact BK284.out) hb); have n1_ := qge (q9e (by repeat (first | (with_reducible first | exact HB.out | apply q1e | apply q2e | apply q3e | refine q4e ?_ GE284.out) | exact HB.out)) hb); have n2_ := qge (hbox); have n3_ := qge ((by rw [hg]; exact (qae (by repeat (first | (with_reducible first | exact HB.out | apply q1e | apply q2e | apply q3e | refine q4e ?_ GE284.out) | exact HB.out))) : w.heap.size ≤ gb285)); have n4_ := qge ((by rw [hg]; exact (qae (by repeat (first | (with_reducible first | exact HB.out | apply q1e | apply q2e | apply q3e | refine q4e ?_ GE284.out) | exact HB.out))) : w.heap.size ≤ gb285)); have n5_ := qge ((by rw [hg]; exact qve (qde (g := gb284) (o := .cells #[.int .i64 a0_0, .int .i64 a0_1] 25 (0, 0)) (by (with_reducible repeat (first | refine q5e ?_ _ | refine q6e ?_ | refine q7e ?_ _)); exact BK284.out)) : gb284 ≠ gb285)); have n6_ := qge ((by rw [hg]; exact qwe (qde (g := gb284) (o := .cells #[.int .i64 a0_0, .int .i64 a0_1] 25 (0, 0)) (by (with_reducible repeat (first | refine q5e ?_ _ | refine q6e ?_ | refine q7e ?_ _)); exact BK284.out)) : gb285 ≠ gb284)); clear BK284; clear HB; have BK284 := n0_; have HB := n1_; have BK285 := n2_; have GW285 := n3_; have GE285 := n4_; have NB284_285 := n5_; have NB285_284 := n6_; clear n0_ n1_ n2_ n3_ n4_ n5_ n6_; clear hb hbox hg) | ((with_reducible refine que (N := 4) rfl ?_); refine qhe ?hg (N := 4) ?hd (cs := #[.int .i64 0, .int .i64 0]) (t := 25) ?hr ?_; (case hd => rfl); (case hg => rfl); (case hr => first | (go_simp; done) | (go_simp; rfl)); intro gb286 hg w5 hbox hb; have n0_ := qge (q8e (g := gb284) (o := .cells #[.int .i64 a0_0, .int .i64 a0_1] 25 (0, 0)) (by (with_reducible repeat (first | refine q5e ?_ _ | refine q6e ?_ | refine q7e ?_ _)); exact BK284.out) hb); have n1_ := qge (q8e (g := gb285) (o := .cells #[.int .i64 a1_0, .int .i64 a1_1] 25 (0, 0)) (by (with_reducible repeat (first | refine q5e ?_ _ | refine q6e ?_ | refine q7e ?_ _)); exact BK285.out) hb); have n2_ := qge (q9e (by repeat (first | (with_reducible first | exact HB.out | apply q1e | apply q2e | apply q3e | refine q4e ?_ GE284.out | refine q4e ?_ GE285.out) | exact HB.out)) hb); have n3_ := qge (hbox); have n4_ := qge ((by rw [hg]; exact (qae (by repeat (first | (with_reducible first | exact HB.out | apply q1e | apply q2e | apply q3e | refine q4e ?_ GE284.out | refine q4e ?_ GE285.out) | exact HB.out))) : w.heap.size ≤ gb286)); have n5_ := qge ((by rw [hg]; exact (qae (by repeat (first | (with_reducible first | exact HB.out | apply q1e | apply q2e | apply q3e | refine q4e ?_ GE284.out | refine q4e ?_ GE285.out) | exact HB.out))) : w.heap.size ≤ gb286)); have n6_ := qge ((by rw [hg]; exact qve (qde (g := gb284) (o := .cells #[.int .i64 a0_0, .int .i64 a0_1] 25 (0, 0)) (by (with_reducible repeat (first | refine q5e ?_ _ | refine q6e ?_ | refine q7e ?_ _)); exact BK284.out)) : gb284 ≠ gb286)); have n7_ := qge ((by rw [hg]; exact qwe (qde (g := gb284) (o := .cells #[.int .i64 a0_0, .int .i64 a0_1] 25 (0, 0)) (by (with_reducible repeat (first | refine q5e ?_ _ | refine q6e ?_ | refine q7e ?_ _)); exact BK284.out)) : gb286 ≠ gb284)); have n8_ := qge ((by rw [hg]; exact qve (qde (g := gb285) (o := .cells #[.int .i64 a1_0, .int .i64 a1_1] 25 (0, 0)) (by (with_reducible repeat (first | refine q5e ?_ _ | refine q6e ?_ | refine q7e ?_ _)); exact BK285.out)) : gb285 ≠ gb286)); have n9_ := qge ((by rw [hg]; exact qwe (qde (g := gb285) (o := .cells #[.int .i64 a1_0, .int .i64 a1_1] 25 (0, 0)) (by (with_reducible repeat (first | refine q5e ?_ _ | refine q6e ?_ | refine q7e ?_ _)); exact BK285.out)) : gb286 ≠ gb285)); clear BK284; clear BK285; clear HB; have BK284 := n0_; have BK285 := n1_; have HB := n2_; have BK286 := n3_; have GW286 := n4_; have GE286 := n5_; have NB284_286 := n6_; have NB286_284 := n7_; have NB285_286 := n8_; have NB286_285 := n9_; clear n0_ n1_ n2_ n3_ n4_ n5_ n6_ n7_ n8_ n9_; clear hb hbox hg; have hnb6 := NB284_285.out; have hnc6 := NB285_284.out; have hnb7 := NB284_286.out; have hnc7 := NB286_284.out; have hcz8_0 : w5.cell? ⟨gb284, 0, none⟩ = some (.int .i64 a0_0) := (qce BK284.out 0).trans rfl; have hcz8_1 : w5.cell? ⟨gb284, 1, none⟩ = some (.int .i64 a0_1) := (qce BK284.out 1).trans rfl; have hfz8_0 := qbe BK284.out 0; have hfz8_1 := qbe BK284.out 1; have hnb9 := NB285_286.out; have hnc9 := NB286_285.out; have hcz10_0 : w5.cell? ⟨gb285, 0, none⟩ = some (.int .i64 a1_0) := (qce BK285.out 0).trans rfl; have hcz10_1 : w5.cell? ⟨gb285, 1, none⟩ = some (.int .i64 a1_1) := (qce BK285.out 1).trans rfl; have hfz10_0 := qbe BK285.out 0; have hfz10_1 := qbe BK285.out 1; have hcz11_0 : w5.cell? ⟨gb286, 0, none⟩ = some (.int .i64 0) := (qce BK286.out 0).trans rfl; have hcz11_1 : w5.cell? ⟨gb286, 1, none⟩ = some (.int .i64 0) := (qce BK286.out 1).trans rfl; have hfz11_0 := qbe BK286.out 0; have hfz11_1 := qbe BK286.out 1))
 refine bodyPost_ret (results_cell_row rfl _ _ gb286 25 #[.int .i64 (wrap64 (a0_0 + a1_0)), .int .i64 (wrap64 (a0_1 + a1_1))] (0, 0) _ rfl (by (with_reducible repeat (first | refine q5e ?_ _ | refine q6e ?_ | refine q7e ?_ _)); refine qfe (cs := #[.int .i64 (wrap64 (a0_0 + a1_0)), .int .i64 0]) ?_ 1 _ rfl; (with_reducible repeat (first | refine q5e ?_ _ | refine q6e ?_ | refine q7e ?_ _)); refine qfe (cs := #[.int .i64 0, .int .i64 0]) ?_ 0 _ rfl; (with_reducible repeat (first | refine q5e ?_ _ | refine q6e ?_ | refine q7e ?_ _)); exact BK286.out) Try.underlying25 rfl (by kernel_rfl)) rfl ?_
 exact ⟨by first | rfl | (simp [errW_none, errW_some] <;> rfl) | (simp [*, errW_none, errW_some] <;> rfl), by repeat (first | (with_reducible first | exact HB.out | apply q1e | apply q2e | apply q3e | refine q4e ?_ GE284.out | refine q4e ?_ GE285.out | refine q4e ?_ GE286.out) | exact HB.out)⟩
/-! ### spec_l2Mod: function 91 -/
def spec_l2Mod.f (a0 : Int) : Option (Int) := if (Int.tmod a0 4) < 0 then (some (wrap64 ((Int.tmod a0 4) + 4))) else (some (Int.tmod a0 4))
set_option maxHeartbeats 8000000 in
set_option maxRecDepth 100000 in
theorem spec_l2Mod.calls (a0 : Int) (r : Int) (w : World) (h : spec_l2Mod.f a0 = some r) :
 Calls Try.prog 91 #[.int .i64 a0] w fun e w' => e = .returned (.int .i64 r) ∧ Drawn0 w w' := by
 have H : (if (Int.tmod a0 4) < 0 then (some (wrap64 ((Int.tmod a0 4) + 4))) else (some (Int.tmod a0 4))) = some r := h
 clear h
 by_cases c2 : (Int.tmod a0 4) < 0
 ·rw [if_pos c2] at H
  have c2b0 : decide ((Int.tmod a0 4) < 0) = true := decide_eq_true c2
  clear c2
  obtain rfl := Option.some.inj H
  go_enter Try.func91, Try.ntmps91
  go_wp2
  go_ret
  exact ⟨by first | rfl | (simp; done) | (simp [*]; done), by repeat (first | exact Drawn0.refl _ | apply Drawn0.step)⟩
 ·rw [if_neg c2] at H
  have c2b0 : decide ((Int.tmod a0 4) < 0) = false := decide_eq_false c2
  clear c2
  obtain rfl := Option.some.inj H
  go_enter Try.func91, Try.ntmps91
  go_wp2
  go_ret
  exact ⟨by first | rfl | (simp; done) | (simp [*]; done), by repeat (first | exact Drawn0.refl _ | apply Drawn0.step)⟩
/-! ### spec_l2Turn: function 80 -/
def spec_l2Turn.l0 : Nat → Int → Int → Int → Option (Int × Int)
  | 0, _, _, _ => none
  | k + 1, x5, x288000, x288001 => if x5 > 0 then (spec_l2Turn.l0 k (wrap64 (x5 - 1)) (wrap64 (-x288001)) x288000) else (some (x288000, x288001))
def spec_l2Turn.f (k : Nat) (a0_0 : Int) (a0_1 : Int) (a1 : Int) : Option (Int × Int) := (spec_l2Mod.f a1).bind fun t289 => (spec_l2Turn.l0 k t289 a0_0 a0_1)
theorem spec_l2Turn.mono_l : ∀ k, (∀ y0 y1 y2, LeO (spec_l2Turn.l0 k y0 y1 y2) (spec_l2Turn.l0 (k + 1) y0 y1 y2))
  | 0 => fun _ _ _ r h => by simp [spec_l2Turn.l0] at h
  | k + 1 => by
    have ih0 := spec_l2Turn.mono_l k
    · intro y0 y1 y2
      unfold spec_l2Turn.l0
      repeat' first
      | (with_reducible exact ih0 _ _ _)
      | (with_reducible exact LeO.refl _)
      | (with_reducible exact LeO.none _)
      | (with_reducible refine LeO.ite ?_ ?_)
      | (with_reducible refine LeO.bind ?_ (fun _ => ?_))
      | exact ih0 _ _ _
      | exact LeO.none _
      | refine LeO.ite ?_ ?_
      | refine LeO.bind ?_ (fun _ => ?_)
theorem spec_l2Turn.mono : ∀ a0 a1 a2 k, LeO (spec_l2Turn.f k a0 a1 a2) (spec_l2Turn.f (k + 1) a0 a1 a2) := by
  intro a0 a1 a2 k
  have ih0 := spec_l2Turn.mono_l k
  unfold spec_l2Turn.f
  repeat' first
      | (with_reducible exact ih0 _ _ _)
      | (with_reducible exact LeO.refl _)
      | (with_reducible exact LeO.none _)
      | (with_reducible refine LeO.ite ?_ ?_)
      | (with_reducible refine LeO.bind ?_ (fun _ => ?_))
      | exact ih0 _ _ _
      | exact LeO.none _
      | refine LeO.ite ?_ ?_
      | refine LeO.bind ?_ (fun _ => ?_)
set_option maxHeartbeats 8000000 in
set_option maxRecDepth 100000 in
theorem spec_l2Turn.calls (k : Nat) (a0_0 : Int) (a0_1 : Int) (a1 : Int) (r1 : Int) (r2 : Int) (w : World) (h : spec_l2Turn.f k a0_0 a0_1 a1 = some (r1, r2)) :
 Calls Try.prog 80 #[.agg #[.int .i64 a0_0, .int .i64 a0_1], .int .i64 a1] w fun e w' => e = .returned (.agg #[.int .i64 r1, .int .i64 r2]) ∧ Below w.heap.size w w' := by
 have hu25 := Try.underlying25
 have HB := qge (Below.refl w.heap.size w)
 have H : ((spec_l2Mod.f a1).bind fun t289 => (spec_l2Turn.l0 k t289 a0_0 a0_1)) = some (r1, r2) := h
 clear h
 replace H := Option.bind_eq_some_iff.mp H
 obtain ⟨t289, A30, H⟩ := H
 replace H : (spec_l2Turn.l0 k t289 a0_0 a0_1) = some (r1, r2) := H
 have A3 := qge A30
 clear A30
 have H' := qge H
 clear H
 go_enter Try.func80, Try.ntmps80
 go_wp2_with (first | ((with_reducible refine que (N := 2) rfl ?_); refine qhe ?hg (N := 2) ?hd (cs := #[.int .i64 a0_0, .int .i64 a0_1]) (t := 25) ?hr ?_; (case hd => rfl); (case hg => rfl); (case hr => first | (go_simp; done) | (go_simp; rfl)); intro gb287 hg w4 hbox hb; have n0_ := qge (q9e (by repeat (first | (with_reducible first | exact HB.out | apply q1e | apply q2e | apply q3e) | exact HB.out)) hb); have n1_ := qge (hbox); have n2_ := qge ((by rw [hg]; exact (qae (by repeat (first | (with_reducible first | exact HB.out | apply q1e | apply q2e | apply q3e) | exact HB.out))) : w.heap.size ≤ gb287)); have n3_ := qge ((by rw [hg]; exact (qae (by repeat (first | (with_reducible first | exact HB.out | apply q1e | apply q2e | apply q3e) | exact HB.out))) : w.heap.size ≤ gb287)); clear HB; have HB := n0_; have BK287 := n1_; have GW287 := n2_; have GE287 := n3_; clear n0_ n1_ n2_ n3_; clear hb hbox hg) | ((with_reducible refine que (N := 4) rfl ?_); refine qhe ?hg (N := 4) ?hd (cs := #[.int .i64 0, .int .i64 0]) (t := 25) ?hr ?_; (case hd => rfl); (case hg => rfl); (case hr => first | (go_simp; done) | (go_simp; rfl)); intro gb288 hg w5 hbox hb; have n0_ := qge (q8e (g := gb287) (o := .cells #[.int .i64 a0_0, .int .i64 a0_1] 25 (0, 0)) (by (with_reducible repeat (first | refine q5e ?_ _ | refine q6e ?_ | refine q7e ?_ _)); exact BK287.out) hb); have n1_ := qge (q9e (by repeat (first | (with_reducible first | exact HB.out | apply q1e | apply q2e | apply q3e | refine q4e ?_ GE287.out) | exact HB.out)) hb); have n2_ := qge (hbox); have n3_ := qge ((by rw [hg]; exact (qae (by repeat (first | (with_reducible first | exact HB.out | apply q1e | apply q2e | apply q3e | refine q4e ?_ GE287.out) | exact HB.out))) : w.heap.size ≤ gb288)); have n4_ := qge ((by rw [hg]; exact (qae (by repeat (first | (with_reducible first | exact HB.out | apply q1e | apply q2e | apply q3e | refine q4e ?_ GE287.out) | exact HB.out))) : w.heap.size ≤ gb288)); have n5_ := qge ((by rw [hg]; exact qve (qde (g := gb287) (o := .cells #[.int .i64 a0_0, .int .i64 a0_1] 25 (0, 0)) (by (with_reducible repeat (first | refine q5e ?_ _ | refine q6e ?_ | refine q7e ?_ _)); exact BK287.out)) : gb287 ≠ gb288)); have n6_ := qge ((by rw [hg]; exact qwe (qde (g := gb287) (o := .cells #[.int .i64 a0_0, .int .i64 a0_1] 25 (0, 0)) (by (with_reducible repeat (first | refine q5e ?_ _ | refine q6e ?_ | refine q7e ?_ _)); exact BK287.out)) : gb288 ≠ gb287)); clear BK287; clear HB; have BK287 := n0_; have HB := n1_; have BK288 := n2_; have GW288 := n3_; have GE288 := n4_; have NB287_288 := n5_; have NB288_287 := n6_; clear n0_ n1_ n2_ n3_ n4_ n5_ n6_; clear hb hbox hg) | ((with_reducible refine qte (f := 91) rfl ?_); refine goesL_ (some 7) rfl rfl Try.func91 (by kernel_rfl) rfl #[.int .i64 a1] rfl (by (try simp only [List.map_toArray, List.map_cons, List.map_nil]); first | done | rfl | (simp only [List.length_drop, List.length_take]; rfl)) ?_; (with_reducible refine (spec_l2Mod.calls a1 t289 _ A3.out).mono ?_); rintro e w' ⟨rfl, ⟨nd, rfl⟩⟩; refine ⟨_, rfl, ?_⟩))
 go_loopg [5] k (fun kq v5 w' => ∃ (x5_1 : Int) (x288000_1 : Int) (x288001_1 : Int), v5 = .int .i64 x5_1 ∧ Aside0 (spec_l2Turn.l0 kq x5_1 x288000_1 x288001_1 = some (r1, r2)) ∧ Aside0 (kq ≤ k) ∧ Aside0 (w'.heap[gb287]? = some (.cells #[.int .i64 x288000_1, .int .i64 x288001_1] 25 (0, 0))) ∧ Aside0 (w'.heap[gb288]? = some (.cells #[.int .i64 0, .int .i64 0] 25 (0, 0))) ∧ Aside0 (Below w.heap.size w w'))
 case atStart => exact ⟨(t289), (a0_0), (a0_1), (by first | rfl | (simp; done) | (simp [*]; done)), H', ⟨Nat.le_refl _⟩, ⟨by (with_reducible repeat (first | refine q5e ?_ _ | refine q6e ?_ | refine q7e ?_ _)); exact BK287.out⟩, ⟨by (with_reducible repeat (first | refine q5e ?_ _ | refine q6e ?_ | refine q7e ?_ _)); exact BK288.out⟩, ⟨by repeat (first | (with_reducible first | exact HB.out | apply q1e | apply q2e | apply q3e | refine q4e ?_ GE287.out | refine q4e ?_ GE288.out) | exact HB.out)⟩⟩
 case round =>
  clear H'
  try clear p2
  obtain ⟨x5_1, x288000_1, x288001_1, rfl, HA, HK1, BK287, BK288, HB⟩ := hrel
  cases gk with
  | zero => exact absurd HA.out (by simp [spec_l2Turn.l0])
  | succ k1 =>
   have H := HA.out
   clear HA
   simp only [spec_l2Turn.l0] at H
   by_cases c6 : x5_1 > 0
   ·rw [if_pos c6] at H
    have c6b0 : decide (0 < x5_1) = true := decide_eq_true c6
    clear c6
    have H' := qge H
    clear H
    have hnb7 := NB287_288.out
    have hnc7 := NB288_287.out
    have hcz8_0 : wr.cell? ⟨gb287, 0, none⟩ = some (.int .i64 x288000_1) := (qce BK287.out 0).trans rfl
    have hcz8_1 : wr.cell? ⟨gb287, 1, none⟩ = some (.int .i64 x288001_1) := (qce BK287.out 1).trans rfl
    have hfz8_0 := qbe BK287.out 0
    have hfz8_1 := qbe BK287.out 1
    go_wp2
    go_roundg k1
    case measure => have := HK1.out; omega
    case rel => exact ⟨(wrap64 (x5_1 - 1)), (wrap64 (-x288001_1)), (x288000_1), (by first | rfl | (simp; done) | (simp [*]; done)), H', ⟨by have := HK1.out; omega⟩, ⟨by (with_reducible repeat (first | refine q5e ?_ _ | refine q6e ?_ | refine q7e ?_ _)); refine qfe (cs := #[.int .i64 (wrap64 (-x288001_1)), .int .i64 x288001_1]) ?_ 1 _ rfl; (with_reducible repeat (first | refine q5e ?_ _ | refine q6e ?_ | refine q7e ?_ _)); refine qfe (cs := #[.int .i64 x288000_1, .int .i64 x288001_1]) ?_ 0 _ rfl; (with_reducible repeat (first | refine q5e ?_ _ | refine q6e ?_ | refine q7e ?_ _)); exact BK287.out⟩, ⟨by (with_reducible repeat (first | refine q5e ?_ _ | refine q6e ?_ | refine q7e ?_ _)); refine qee ?_ NB288_287.out _; (with_reducible repeat (first | refine q5e ?_ _ | refine q6e ?_ | refine q7e ?_ _)); refine qee ?_ NB288_287.out _; (with_reducible repeat (first | refine q5e ?_ _ | refine q6e ?_ | refine q7e ?_ _)); exact BK288.out⟩, ⟨by repeat (first | (with_reducible first | exact HB.out | apply q1e | apply q2e | apply q3e | refine q4e ?_ GE287.out | refine q4e ?_ GE288.out) | exact HB.out)⟩⟩
   ·rw [if_neg c6] at H
    have c6b0 : decide (0 < x5_1) = false := decide_eq_false c6
    clear c6
    simp only [Option.some.injEq, Prod.mk.injEq] at H
    obtain ⟨rfl, rfl⟩ := H
    have hnb9 := NB287_288.out
    have hnc9 := NB288_287.out
    have hcz10_0 : wr.cell? ⟨gb287, 0, none⟩ = some (.int .i64 x288000_1) := (qce BK287.out 0).trans rfl
    have hcz10_1 : wr.cell? ⟨gb287, 1, none⟩ = some (.int .i64 x288001_1) := (qce BK287.out 1).trans rfl
    have hfz10_0 := qbe BK287.out 0
    have hfz10_1 := qbe BK287.out 1
    have hcz11_0 : wr.cell? ⟨gb288, 0, none⟩ = some (.int .i64 0) := (qce BK288.out 0).trans rfl
    have hcz11_1 : wr.cell? ⟨gb288, 1, none⟩ = some (.int .i64 0) := (qce BK288.out 1).trans rfl
    have hfz11_0 := qbe BK288.out 0
    have hfz11_1 := qbe BK288.out 1
    go_wp2
    refine bodyPost_ret (results_cell_row rfl _ _ gb288 25 #[.int .i64 x288000_1, .int .i64 x288001_1] (0, 0) _ rfl (by (with_reducible repeat (first | refine q5e ?_ _ | refine q6e ?_ | refine q7e ?_ _)); refine qfe (cs := #[.int .i64 x288000_1, .int .i64 0]) ?_ 1 _ rfl; (with_reducible repeat (first | refine q5e ?_ _ | refine q6e ?_ | refine q7e ?_ _)); refine qfe (cs := #[.int .i64 0, .int .i64 0]) ?_ 0 _ rfl; (with_reducible repeat (first | refine q5e ?_ _ | refine q6e ?_ | refine q7e ?_ _)); exact BK288.out) Try.underlying25 rfl (by kernel_rfl)) rfl ?_
    exact ⟨by first | rfl | (simp [errW_none, errW_some] <;> rfl) | (simp [*, errW_none, errW_some] <;> rfl), by repeat (first | (with_reducible first | exact HB.out | apply q1e | apply q2e | apply q3e | refine q4e ?_ GE287.out | refine q4e ?_ GE288.out) | exact HB.out)⟩
/-! ### spec_l3Place: function 95 -/
def spec_l3Place.f (k : Nat) (a0_0 : Int) (a0_1 : Int) (a0_2 : Int) (a0_3 : Int) (a0_4 : Int) (a1 : Int) : Option (Int × Int) := (spec_l2Turn.f k (wrap64 (a1 * a0_3)) 0 a0_2).bind fun bt292 => ((spec_l2Add.f a0_0 a0_1 bt292.1 bt292.2).bind fun bt294 => (some (bt294.1, bt294.2)))
theorem spec_l3Place.mono : ∀ a0 a1 a2 a3 a4 a5 k, LeO (spec_l3Place.f k a0 a1 a2 a3 a4 a5) (spec_l3Place.f (k + 1) a0 a1 a2 a3 a4 a5) := by
  intro a0 a1 a2 a3 a4 a5 k
  unfold spec_l3Place.f
  repeat' first
      | (with_reducible exact spec_l2Turn.mono _ _ _ _)
      | (with_reducible exact LeO.refl _)
      | (with_reducible exact LeO.none _)
      | (with_reducible refine LeO.ite ?_ ?_)
      | (with_reducible refine LeO.bind ?_ (fun _ => ?_))
      | exact spec_l2Turn.mono _ _ _ _
      | exact LeO.none _
      | refine LeO.ite ?_ ?_
      | refine LeO.bind ?_ (fun _ => ?_)
def spec_l3Place.T1 : Bool × List (List Nat × List Nat) := (true, [([], []), ([0], [0]), ([], []), ([], []), ([3], [3]), ([2, 4], [2, 4]), ([5], [5]), ([], []), ([7], [7]), ([6, 8], [6, 8]), ([1, 9, 9], [1, 9]), ([10, 10, 0, 1, 2, 3, 4, 5, 6, 7, 8, 9, 10], [10])])
def spec_l3Place.B1 : List Nat := [0, 1, 0, 0, 8, 28, 60, 0, 128, 508, 1023, 2047]
theorem spec_l3Place.tab1 : rtab .any (opsOf Try.f95 1) = spec_l3Place.T1 := by kernel_rfl
theorem spec_l3Place.bits1 : waitsOk spec_l3Place.T1.2 spec_l3Place.B1 = true := by kernel_rfl
set_option maxHeartbeats 8000000 in
set_option maxRecDepth 100000 in
theorem spec_l3Place.calls (k : Nat) (a0_0 : Int) (a0_1 : Int) (a0_2 : Int) (a0_3 : Int) (a0_4 : Int) (a1 : Int) (r1 : Int) (r2 : Int) (w : World) (h : spec_l3Place.f k a0_0 a0_1 a0_2 a0_3 a0_4 a1 = some (r1, r2)) :
 Calls Try.prog 95 #[.agg #[.int .i64 a0_0, .int .i64 a0_1, .int .i64 a0_2, .int .i64 a0_3, .int .i64 a0_4], .int .i64 a1] w fun e w' => e = .returned (.agg #[.int .i64 r1, .int .i64 r2]) ∧ Below w.heap.size w w' := by
 have hu27 := Try.underlying27
 have hu25 := Try.underlying25
 have HB := qge (Below.refl w.heap.size w)
 have H : ((spec_l2Turn.f k (wrap64 (a1 * a0_3)) 0 a0_2).bind fun bt292 => ((spec_l2Add.f a0_0 a0_1 bt292.1 bt292.2).bind fun bt294 => (some (bt294.1, bt294.2)))) = some (r1, r2) := h
 clear h
 replace H := Option.bind_eq_some_iff.mp H
 obtain ⟨⟨t292, t293⟩, A30, H⟩ := H
 replace H : ((spec_l2Add.f a0_0 a0_1 t292 t293).bind fun bt294 => (some (bt294.1, bt294.2))) = some (r1, r2) := H
 have A3 := qge A30
 clear A30
 replace H := Option.bind_eq_some_iff.mp H
 obtain ⟨⟨t294, t295⟩, A40, H⟩ := H
 replace H : (some (t294, t295)) = some (r1, r2) := H
 have A4 := qge A40
 clear A40
 simp only [Option.some.injEq, Prod.mk.injEq] at H
 obtain ⟨rfl, rfl⟩ := H
 go_enter Try.func95, Try.ntmps95
 try go_wp2_with (first | ((with_reducible refine que (N := 2) rfl ?_); refine qhe ?hg (N := 2) ?hd (cs := #[.int .i64 a0_0, .int .i64 a0_1, .int .i64 a0_2, .int .i64 a0_3, .int .i64 a0_4]) (t := 27) ?hr ?_; (case hd => rfl); (case hg => rfl); (case hr => first | (go_simp; done) | (go_simp; rfl)); intro gb290 hg w5 hbox hb; have n0_ := qge (q9e (by repeat (first | (with_reducible first | exact HB.out | apply q1e | apply q2e | apply q3e) | exact HB.out)) hb); have n1_ := qge (hbox); have n2_ := qge ((by rw [hg]; exact (qae (by repeat (first | (with_reducible first | exact HB.out | apply q1e | apply q2e | apply q3e) | exact HB.out))) : w.heap.size ≤ gb290)); have n3_ := qge ((by rw [hg]; exact (qae (by repeat (first | (with_reducible first | exact HB.out | apply q1e | apply q2e | apply q3e) | exact HB.out))) : w.heap.size ≤ gb290)); clear HB; have HB := n0_; have BK290 := n1_; have GW290 := n2_; have GE290 := n3_; clear n0_ n1_ n2_ n3_; clear hb hbox hg) | ((with_reducible refine que (N := 4) rfl ?_); refine qhe ?hg (N := 4) ?hd (cs := #[.int .i64 0, .int .i64 0]) (t := 25) ?hr ?_; (case hd => rfl); (case hg => rfl); (case hr => first | (go_simp; done) | (go_simp; rfl)); intro gb291 hg w6 hbox hb; have n0_ := qge (q8e (g := gb290) (o := .cells #[.int .i64 a0_0, .int .i64 a0_1, .int .i64 a0_2, .int .i64 a0_3, .int .i64 a0_4] 27 (0, 0)) (by (with_reducible repeat (first | refine q5e ?_ _ | refine q6e ?_ | refine q7e ?_ _)); exact BK290.out) hb); have n1_ := qge (q9e (by repeat (first | (with_reducible first | exact HB.out | apply q1e | apply q2e | apply q3e | refine q4e ?_ GE290.out) | exact HB.out)) hb); have n2_ := qge (hbox); have n3_ := qge ((by rw [hg]; exact (qae (by repeat (first | (with_reducible first | exact HB.out | apply q1e | apply q2e | apply q3e | refine q4e ?_ GE290.out) | exact HB.out))) : w.heap.size ≤ gb291)); have n4_ := qge ((by rw [hg]; exact (qae (by repeat (first | (with_reducible first | exact HB.out | apply q1e | apply q2e | apply q3e | refine q4e ?_ GE290.out) | exact HB.out))) : w.heap.size ≤ gb291)); have n5_ := qge ((by rw [hg]; exact qve (qde (g := gb290) (o := .cells #[.int .i64 a0_0, .int .i64 a0_1, .int .i64 a0_2, .int .i64 a0_3, .int .i64 a0_4] 27 (0, 0)) (by (with_reducible repeat (first | refine q5e ?_ _ | refine q6e ?_ | refine q7e ?_ _)); exact BK290.out)) : gb290 ≠ gb291)); have n6_ := qge ((by rw [hg]; exact qwe (qde (g := gb290) (o := .cells #[.int .i64 a0_0, .int .i64 a0_1, .int .i64 a0_2, .int .i64 a0_3, .int .i64 a0_4] 27 (0, 0)) (by (with_reducible repeat (first | refine q5e ?_ _ | refine q6e ?_ | refine q7e ?_ _)); exact BK290.out)) : gb291 ≠ gb290)); clear BK290; clear HB; have BK290 := n0_; have HB := n1_; have BK291 := n2_; have GW291 := n3_; have GE291 := n4_; have NB290_291 := n5_; have NB291_290 := n6_; clear n0_ n1_ n2_ n3_ n4_ n5_ n6_; clear hb hbox hg))
 have n0_ := qge (q6e BK290.out)
 have n1_ := qge (q6e BK291.out)
 have n2_ := qge (q3e HB.out)
 clear BK290
 clear BK291
 clear HB
 have BK290 := n0_
 have BK291 := n1_
 have HB := n2_
 clear n0_ n1_ n2_
 refine start_ (n := 12) (S := fun w' => w'.cell? ⟨gb290, 0, none⟩ = some (.int .i64 a0_0) ∧ w'.cell? ⟨gb290, 1, none⟩ = some (.int .i64 a0_1) ∧ w'.cell? ⟨gb290, 2, none⟩ = some (.int .i64 a0_2) ∧ w'.cell? ⟨gb290, 3, none⟩ = some (.int .i64 a0_3) ∧ w'.cell? ⟨gb290, 4, none⟩ = some (.int .i64 a0_4)) (ds := []) #[false, false, false, false, false, false, false, false, false, false, false, false] (by kernel_rfl) rfl rfl ⟨(qce BK290.out 0).trans rfl, (qce BK290.out 1).trans rfl, (qce BK290.out 2).trans rfl, (qce BK290.out 3).trans rfl, (qce BK290.out 4).trans rfl⟩ (fun hHeld => ?_); refine with_tabW spec_l3Place.tab1 spec_l3Place.bits1 (fun HT_ HW_ => ?_)
 generalize w6.drew = w7 at BK290 BK291 HB hHeld ⊢
 refine pure_ (i := 0) (N := some 5) (v := ?_) (a' := ?_) #[true, false, false, false, false, false, false, false, false, false, false, false] rfl rfl (any_of HT_.out (by kernel_rfl)) (fun _ _ _ h => h) (Or.inl ⟨by rfl, ?_⟩) ?_ ?_
 rotate_left
 ·intro w'
  go_simp
  with_reducible rfl
 rotate_left
 ·simp only [Act.put, p1e, p2e, p3e, i64_w, i32_w]
  rfl
 refine pure_ (i := 2) (N := some 7) (v := ?_) (a' := ?_) #[true, false, true, false, false, false, false, false, false, false, false, false] rfl rfl (any_of HT_.out (by kernel_rfl)) (fun _ _ _ h => h) (Or.inl ⟨by rfl, ?_⟩) ?_ ?_
 rotate_left
 ·intro w'
  go_simp
  with_reducible rfl
 rotate_left
 ·simp only [Act.put, p1e, p2e, p3e, i64_w, i32_w]
  rfl
 refine pure_ (i := 3) (N := some 8) (v := ?_) (a' := ?_) #[true, false, true, true, false, false, false, false, false, false, false, false] rfl rfl (any_of HT_.out (by kernel_rfl)) (fun _ _ _ h => h) (Or.inl ⟨by rfl, ?_⟩) ?_ ?_
 rotate_left
 ·intro w'
  go_simp
  with_reducible rfl
 rotate_left
 ·simp only [Act.put, p1e, p2e, p3e, i64_w, i32_w]
  rfl
 refine pure_ (i := 7) (N := some 12) (v := ?_) (a' := ?_) #[true, false, true, true, false, false, false, true, false, false, false, false] rfl rfl (any_of HT_.out (by kernel_rfl)) (fun _ _ _ h => h) (Or.inl ⟨by rfl, ?_⟩) ?_ ?_
 rotate_left
 ·intro w'
  go_simp
  with_reducible rfl
 rotate_left
 ·simp only [Act.put, p1e, p2e, p3e, i64_w, i32_w]
  rfl
 refine take_ (i := 1) (N := some 6) (v := ?_) (a' := ?_) #[true, true, true, true, false, false, false, true, false, false, false, false] rfl rfl (take_ofW HT_.out HW_.out (by kernel_rfl)) (fun _ _ _ h => h) (Or.inl ⟨by rfl, ?_⟩) hHeld ?_ ?_
 rotate_left
 ·rintro w' ⟨s0, s1, s2, s3, s4⟩
  go_simp
  with_reducible rfl
 rotate_left
 ·simp only [Act.put, p1e, p2e, p3e, i64_w, i32_w]
  rfl
 refine take_ (i := 4) (N := some 9) (v := ?_) (a' := ?_) #[true, true, true, true, true, false, false, true, false, false, false, false] rfl rfl (take_ofW HT_.out HW_.out (by kernel_rfl)) (fun _ _ _ h => h) (Or.inl ⟨by rfl, ?_⟩) hHeld ?_ ?_
 rotate_left
 ·rintro w' ⟨s0, s1, s2, s3, s4⟩
  go_simp
  with_reducible rfl
 rotate_left
 ·simp only [Act.put, p1e, p2e, p3e, i64_w, i32_w]
  rfl
 refine pure_ (i := 5) (N := some 10) (v := ?_) (a' := ?_) #[true, true, true, true, true, true, false, true, false, false, false, false] rfl rfl (any_of HT_.out (by kernel_rfl)) (fun _ _ _ h => h) (Or.inl ⟨by rfl, ?_⟩) ?_ ?_
 rotate_left
 ·intro w'
  go_simp
  with_reducible rfl
 rotate_left
 ·simp only [Act.put, p1e, p2e, p3e, i64_w, i32_w]
  rfl
 refine pure_ (i := 6) (N := some 11) (v := ?_) (a' := ?_) #[true, true, true, true, true, true, true, true, false, false, false, false] rfl rfl (any_of HT_.out (by kernel_rfl)) (fun _ _ _ h => h) (Or.inl ⟨by rfl, ?_⟩) ?_ ?_
 rotate_left
 ·intro w'
  go_simp
  with_reducible rfl
 rotate_left
 ·simp only [Act.put, p1e, p2e, p3e, i64_w, i32_w]
  rfl
 refine take_ (i := 8) (N := some 13) (v := ?_) (a' := ?_) #[true, true, true, true, true, true, true, true, true, false, false, false] rfl rfl (take_ofW HT_.out HW_.out (by kernel_rfl)) (fun _ _ _ h => h) (Or.inl ⟨by rfl, ?_⟩) hHeld ?_ ?_
 rotate_left
 ·rintro w' ⟨s0, s1, s2, s3, s4⟩
  go_simp
  with_reducible rfl
 rotate_left
 ·simp only [Act.put, p1e, p2e, p3e, i64_w, i32_w]
  rfl
 refine one_ (i := 9) (N := some 14) #[true, true, true, true, true, true, true, true, true, true, false, false] rfl rfl (one_of HT_.out (by kernel_rfl)) (by decide) (fun K hK => ?_)
 refine goes_ Try.func80 (by kernel_rfl) rfl #[.agg #[.int .i64 (wrap64 (a1 * a0_3)), .int .i64 0], .int .i64 a0_2] (by rfl) rfl rfl (by (try simp only [List.map_toArray, List.map_cons, List.map_nil]); first | done | rfl | (simp only [List.length_drop, List.length_take]; rfl)) ?_
 with_reducible refine (spec_l2Turn.calls k (wrap64 (a1 * a0_3)) 0 a0_2 t292 t293 _ A3.out).mono ?_
 rintro e w8 ⟨rfl, hb⟩
 refine ⟨_, rfl, ?_⟩
 have n0_ := qge (q8e (g := gb290) (o := .cells #[.int .i64 a0_0, .int .i64 a0_1, .int .i64 a0_2, .int .i64 a0_3, .int .i64 a0_4] 27 (0, 0)) (by (with_reducible repeat (first | refine q5e ?_ _ | refine q6e ?_ | refine q7e ?_ _)); exact BK290.out) hb)
 have n1_ := qge (q8e (g := gb291) (o := .cells #[.int .i64 0, .int .i64 0] 25 (0, 0)) (by (with_reducible repeat (first | refine q5e ?_ _ | refine q6e ?_ | refine q7e ?_ _)); exact BK291.out) hb)
 have n2_ := qge (q9e (by repeat (first | (with_reducible first | exact HB.out | apply q1e | apply q2e | apply q3e | refine q4e ?_ GE290.out | refine q4e ?_ GE291.out) | exact HB.out)) hb)
 clear BK290
 clear BK291
 clear HB
 have BK290 := n0_
 have BK291 := n1_
 have HB := n2_
 clear n0_ n1_ n2_
 (try clear hb)
 (try clear hb2)
 (try clear hk)
 (try clear hi)
 refine hK.out _ _ ⟨(qce BK290.out 0).trans rfl, (qce BK290.out 1).trans rfl, (qce BK290.out 2).trans rfl, (qce BK290.out 3).trans rfl, (qce BK290.out 4).trans rfl⟩ (fun hHeld => ?_)
 clear hK K
 refine norm_ (a' := ?_) ?_ ?_
 rotate_left
 ·show Act.put _ (some 14) _ = _
  simp only [Act.put, p1e, p2e, p3e, i64_w, i32_w]
  rfl
 refine one_ (i := 10) (N := some 15) #[true, true, true, true, true, true, true, true, true, true, true, false] rfl rfl (one_of HT_.out (by kernel_rfl)) (by decide) (fun K hK => ?_)
 refine goes_ Try.func79 (by kernel_rfl) rfl #[.agg #[.int .i64 a0_0, .int .i64 a0_1], .agg #[.int .i64 t292, .int .i64 t293]] (by rfl) rfl rfl (by (try simp only [List.map_toArray, List.map_cons, List.map_nil]); first | done | rfl | (simp only [List.length_drop, List.length_take]; rfl)) ?_
 with_reducible refine (spec_l2Add.calls a0_0 a0_1 t292 t293 t294 t295 _ A4.out).mono ?_
 rintro e w9 ⟨rfl, hb⟩
 refine ⟨_, rfl, ?_⟩
 have n0_ := qge (q8e (g := gb290) (o := .cells #[.int .i64 a0_0, .int .i64 a0_1, .int .i64 a0_2, .int .i64 a0_3, .int .i64 a0_4] 27 (0, 0)) (by (with_reducible repeat (first | refine q5e ?_ _ | refine q6e ?_ | refine q7e ?_ _)); exact BK290.out) hb)
 have n1_ := qge (q8e (g := gb291) (o := .cells #[.int .i64 0, .int .i64 0] 25 (0, 0)) (by (with_reducible repeat (first | refine q5e ?_ _ | refine q6e ?_ | refine q7e ?_ _)); exact BK291.out) hb)
 have n2_ := qge (q9e (by repeat (first | (with_reducible first | exact HB.out | apply q1e | apply q2e | apply q3e | refine q4e ?_ GE290.out | refine q4e ?_ GE291.out) | exact HB.out)) hb)
 clear BK290
 clear BK291
 clear HB
 have BK290 := n0_
 have BK291 := n1_
 have HB := n2_
 clear n0_ n1_ n2_
 (try clear hb)
 (try clear hb2)
 (try clear hk)
 (try clear hi)
 refine hK.out _ _ ⟨(qce BK290.out 0).trans rfl, (qce BK290.out 1).trans rfl, (qce BK290.out 2).trans rfl, (qce BK290.out 3).trans rfl, (qce BK290.out 4).trans rfl⟩ (fun hHeld => ?_)
 clear hK K
 refine norm_ (a' := ?_) ?_ ?_
 rotate_left
 ·show Act.put _ (some 15) _ = _
  simp only [Act.put, p1e, p2e, p3e, i64_w, i32_w]
  rfl
 refine one_ (i := 11) (N := none) #[true, true, true, true, true, true, true, true, true, true, true, true] rfl rfl (one_of HT_.out (by kernel_rfl)) (by decide) (fun K hK => ?_)
 have hs10 : w9.cell? ⟨gb291, 0, none⟩ = some (.int .i64 0) := (qce BK291.out 0).trans rfl
 have hfs10 := qbe BK291.out 0
 have hns10_0 := NB290_291.out
 have hms10_0 := NB291_290.out
 have hs11 : w9.cell? ⟨gb291, 1, none⟩ = some (.int .i64 0) := (qce BK291.out 1).trans rfl
 have hfs11 := qbe BK291.out 1
 have hns11_0 := NB290_291.out
 have hms11_0 := NB291_290.out
 refine skip_ (w1 := ?_) (by rfl) rfl ?_ ?_
 rotate_left
 ·go_simp
  rfl
 refine hK.out _ _ ⟨((qie (p := ⟨gb291, _, none⟩) NB290_291.out _).trans (((qie (p := ⟨gb291, _, none⟩) NB290_291.out _).trans (hHeld.1)))), ((qie (p := ⟨gb291, _, none⟩) NB290_291.out _).trans (((qie (p := ⟨gb291, _, none⟩) NB290_291.out _).trans (hHeld.2.1)))), ((qie (p := ⟨gb291, _, none⟩) NB290_291.out _).trans (((qie (p := ⟨gb291, _, none⟩) NB290_291.out _).trans (hHeld.2.2.1)))), ((qie (p := ⟨gb291, _, none⟩) NB290_291.out _).trans (((qie (p := ⟨gb291, _, none⟩) NB290_291.out _).trans (hHeld.2.2.2.1)))), ((qie (p := ⟨gb291, _, none⟩) NB290_291.out _).trans (((qie (p := ⟨gb291, _, none⟩) NB290_291.out _).trans (hHeld.2.2.2.2))))⟩ (fun hHeld => ?_)
 clear hK K
 refine done_ (done_of HT_.out (by kernel_rfl)) ?_
 try go_wp2
 refine bodyPost_ret (results_cell_row rfl _ _ gb291 25 #[.int .i64 t294, .int .i64 t295] (0, 0) _ rfl (by (with_reducible repeat (first | refine q5e ?_ _ | refine q6e ?_ | refine q7e ?_ _)); refine qfe (cs := #[.int .i64 t294, .int .i64 0]) ?_ 1 _ rfl; (with_reducible repeat (first | refine q5e ?_ _ | refine q6e ?_ | refine q7e ?_ _)); refine qfe (cs := #[.int .i64 0, .int .i64 0]) ?_ 0 _ rfl; (with_reducible repeat (first | refine q5e ?_ _ | refine q6e ?_ | refine q7e ?_ _)); exact BK291.out) Try.underlying25 rfl (by kernel_rfl)) rfl ?_
 exact ⟨by first | rfl | (simp [errW_none, errW_some] <;> rfl) | (simp [*, errW_none, errW_some] <;> rfl), by repeat (first | (with_reducible first | exact HB.out | apply q1e | apply q2e | apply q3e | refine q4e ?_ GE290.out | refine q4e ?_ GE291.out) | exact HB.out)⟩
/-! ### spec_PlaceAt: function 92 -/
def spec_PlaceAt.f (k : Nat) (a0_0 : Int) (a0_1 : Int) (a0_2 : Int) (a0_3 : Int) (a0_4 : Int) (a1 : Int) : Option (Int × Int × Bool) := (spec_IsJet.f a0_0 a0_1 a0_2 a0_3 a0_4).bind fun t298 => (if t298 = true then (if a1 < 0 then (some (0, 0, false)) else ((spec_FlightOf.f k a0_0 a0_1 a0_2 a0_3 a0_4).bind fun t299 => (if a1 > t299 then (some (0, 0, false)) else ((spec_l3Place.f k a0_0 a0_1 a0_2 a0_3 a0_4 a1).bind fun bt300 => (some (bt300.1, bt300.2, true)))))) else (some (0, 0, false)))
theorem spec_PlaceAt.mono : ∀ a0 a1 a2 a3 a4 a5 k, LeO (spec_PlaceAt.f k a0 a1 a2 a3 a4 a5) (spec_PlaceAt.f (k + 1) a0 a1 a2 a3 a4 a5) := by
  intro a0 a1 a2 a3 a4 a5 k
  unfold spec_PlaceAt.f
  repeat' first
      | (with_reducible exact spec_FlightOf.mono _ _ _ _ _ _)
      | (with_reducible exact spec_l3Place.mono _ _ _ _ _ _ _)
      | (with_reducible exact LeO.refl _)
      | (with_reducible exact LeO.none _)
      | (with_reducible refine LeO.ite ?_ ?_)
      | (with_reducible refine LeO.bind ?_ (fun _ => ?_))
      | exact spec_FlightOf.mono _ _ _ _ _ _
      | exact spec_l3Place.mono _ _ _ _ _ _ _
      | exact LeO.none _
      | refine LeO.ite ?_ ?_
      | refine LeO.bind ?_ (fun _ => ?_)
set_option maxHeartbeats 8000000 in
set_option maxRecDepth 100000 in
theorem spec_PlaceAt.calls (k : Nat) (a0_0 : Int) (a0_1 : Int) (a0_2 : Int) (a0_3 : Int) (a0_4 : Int) (a1 : Int) (r1 : Int) (r2 : Int) (r3 : Bool) (w : World) (h : spec_PlaceAt.f k a0_0 a0_1 a0_2 a0_3 a0_4 a1 = some (r1, r2, r3)) :
 Calls Try.prog 92 #[.agg #[.int .i64 a0_0, .int .i64 a0_1, .int .i64 a0_2, .int .i64 a0_3, .int .i64 a0_4], .int .i64 a1] w fun e w' => e = .returned (.tuple #[.agg #[.int .i64 r1, .int .i64 r2], .bool r3]) ∧ Below w.heap.size w w' := by
 have hu27 := Try.underlying27
 have hu25 := Try.underlying25
 have HB := qge (Below.refl w.heap.size w)
 have H : ((spec_IsJet.f a0_0 a0_1 a0_2 a0_3 a0_4).bind fun t298 => (if t298 = true then (if a1 < 0 then (some (0, 0, false)) else ((spec_FlightOf.f k a0_0 a0_1 a0_2 a0_3 a0_4).bind fun t299 => (if a1 > t299 then (some (0, 0, false)) else ((spec_l3Place.f k a0_0 a0_1 a0_2 a0_3 a0_4 a1).bind fun bt300 => (some (bt300.1, bt300.2, true)))))) else (some (0, 0, false)))) = some (r1, r2, r3) := h
 clear h
 replace H := Option.bind_eq_some_iff.mp H
 obtain ⟨t298, A30, H⟩ := H
 replace H : (if t298 = true then (if a1 < 0 then (some (0, 0, false)) else ((spec_FlightOf.f k a0_0 a0_1 a0_2 a0_3 a0_4).bind fun t299 => (if a1 > t299 then (some (0, 0, false)) else ((spec_l3Place.f k a0_0 a0_1 a0_2 a0_3 a0_4 a1).bind fun bt300 => (some (bt300.1, bt300.2, true)))))) else (some (0, 0, false))) = some (r1, r2, r3) := H
 have A3 := qge A30
 clear A30
 by_cases c4 : t298 = true
 ·subst c4
  have H1 : (if a1 < 0 then (some (0, 0, false)) else ((spec_FlightOf.f k a0_0 a0_1 a0_2 a0_3 a0_4).bind fun t299 => (if a1 > t299 then (some (0, 0, false)) else ((spec_l3Place.f k a0_0 a0_1 a0_2 a0_3 a0_4 a1).bind fun bt300 => (some (bt300.1, bt300.2, true)))))) = some (r1, r2, r3) := by rw [if_pos rfl] at H; exact H
  clear H
  have H := H1
  clear H1
  by_cases c5 : a1 < 0
  ·rw [if_pos c5] at H
   have c5b0 : decide (a1 < 0) = true := decide_eq_true c5
   clear c5
   simp only [Option.some.injEq, Prod.mk.injEq] at H
   obtain ⟨rfl, rfl, rfl⟩ := H
   go_enter Try.func92, Try.ntmps92
   go_wp2_with (first | ((with_reducible refine que (N := 2) rfl ?_); refine qhe ?hg (N := 2) ?hd (cs := #[.int .i64 a0_0, .int .i64 a0_1, .int .i64 a0_2, .int .i64 a0_3, .int .i64 a0_4]) (t := 27) ?hr ?_; (case hd => rfl); (case hg => rfl); (case hr => first | (go_simp; done) | (go_simp; rfl)); intro gb296 hg w6 hbox hb; have n0_ := qge (q9e (by repeat (first | (with_reducible first | exact HB.out | apply q1e | apply q2e | apply q3e) | exact HB.out)) hb); have n1_ := qge (hbox); have n2_ := qge ((by rw [hg]; exact (qae (by repeat (first | (with_reducible first | exact HB.out | apply q1e | apply q2e | apply q3e) | exact HB.out))) : w.heap.size ≤ gb296)); have n3_ := qge ((by rw [hg]; exact (qae (by repeat (first | (with_reducible first | exact HB.out | apply q1e | apply q2e | apply q3e) | exact HB.out))) : w.heap.size ≤ gb296)); clear HB; have HB := n0_; have BK296 := n1_; have GW296 := n2_; have GE296 := n3_; clear n0_ n1_ n2_ n3_; clear hb hbox hg) | ((with_reducible refine que (N := 4) rfl ?_); refine qhe ?hg (N := 4) ?hd (cs := #[.int .i64 0, .int .i64 0]) (t := 25) ?hr ?_; (case hd => rfl); (case hg => rfl); (case hr => first | (go_simp; done) | (go_simp; rfl)); intro gb297 hg w7 hbox hb; have n0_ := qge (q8e (g := gb296) (o := .cells #[.int .i64 a0_0, .int .i64 a0_1, .int .i64 a0_2, .int .i64 a0_3, .int .i64 a0_4] 27 (0, 0)) (by (with_reducible repeat (first | refine q5e ?_ _ | refine q6e ?_ | refine q7e ?_ _)); exact BK296.out) hb); have n1_ := qge (q9e (by repeat (first | (with_reducible first | exact HB.out | apply q1e | apply q2e | apply q3e | refine q4e ?_ GE296.out) | exact HB.out)) hb); have n2_ := qge (hbox); have n3_ := qge ((by rw [hg]; exact (qae (by repeat (first | (with_reducible first | exact HB.out | apply q1e | apply q2e | apply q3e | refine q4e ?_ GE296.out) | exact HB.out))) : w.heap.size ≤ gb297)); have n4_ := qge ((by rw [hg]; exact (qae (by repeat (first | (with_reducible first | exact HB.out | apply q1e | apply q2e | apply q3e | refine q4e ?_ GE296.out) | exact HB.out))) : w.heap.size ≤ gb297)); have n5_ := qge ((by rw [hg]; exact qve (qde (g := gb296) (o := .cells #[.int .i64 a0_0, .int .i64 a0_1, .int .i64 a0_2, .int .i64 a0_3, .int .i64 a0_4] 27 (0, 0)) (by (with_reducible repeat (first | refine q5e ?_ _ | refine q6e ?_ | refine q7e ?_ _)); exact BK296.out)) : gb296 ≠ gb297)); have n6_ := qge ((by rw [hg]; exact qwe (qde (g := gb296) (o := .cells #[.int .i64 a0_0, .int .i64 a0_1, .int .i64 a0_2, .int .i64 a0_3, .int .i64 a0_4] 27 (0, 0)) (by (with_reducible repeat (first | refine q5e ?_ _ | refine q6e ?_ | refine q7e ?_ _)); exact BK296.out)) : gb297 ≠ gb296)); clear BK296; clear HB; have BK296 := n0_; have HB := n1_; have BK297 := n2_; have GW297 := n3_; have GE297 := n4_; have NB296_297 := n5_; have NB297_296 := n6_; clear n0_ n1_ n2_ n3_ n4_ n5_ n6_; clear hb hbox hg; have hnb8 := NB296_297.out; have hnc8 := NB297_296.out; have hcz9_0 : w7.cell? ⟨gb296, 0, none⟩ = some (.int .i64 a0_0) := (qce BK296.out 0).trans rfl; have hcz9_1 : w7.cell? ⟨gb296, 1, none⟩ = some (.int .i64 a0_1) := (qce BK296.out 1).trans rfl; have hcz9_2 : w7.cell? ⟨gb296, 2, none⟩ = some (.int .i64 a0_2) := (qce BK296.out 2).trans rfl; have hcz9_3 : w7.cell? ⟨gb296, 3, none⟩ = some (.int .i64 a0_3) := (qce BK296.out 3).trans rfl; have hcz9_4 : w7.cell? ⟨gb296, 4, none⟩ = some (.int .i64 a0_4) := (qce BK296.out 4).trans rfl; have hfz9_0 := qbe BK296.out 0; have hfz9_1 := qbe BK296.out 1; have hfz9_2 := qbe BK296.out 2; have hfz9_3 := qbe BK296.out 3; have hfz9_4 := qbe BK296.out 4) | ((with_reducible refine qte (f := 94) rfl ?_); refine goesL_ (some 7) rfl rfl Try.func94 (by kernel_rfl) rfl #[.agg #[.int .i64 a0_0, .int .i64 a0_1, .int .i64 a0_2, .int .i64 a0_3, .int .i64 a0_4]] rfl (by (try simp only [List.map_toArray, List.map_cons, List.map_nil]); first | done | rfl | (simp only [List.length_drop, List.length_take]; rfl)) ?_; (with_reducible refine (spec_IsJet.calls a0_0 a0_1 a0_2 a0_3 a0_4 true _ A3.out).mono ?_); rintro e w10 ⟨rfl, hb⟩; refine ⟨_, rfl, ?_⟩; have n0_ := qge (q8e (g := gb296) (o := .cells #[.int .i64 a0_0, .int .i64 a0_1, .int .i64 a0_2, .int .i64 a0_3, .int .i64 a0_4] 27 (0, 0)) (by (with_reducible repeat (first | refine q5e ?_ _ | refine q6e ?_ | refine q7e ?_ _)); exact BK296.out) hb); have n1_ := qge (q8e (g := gb297) (o := .cells #[.int .i64 0, .int .i64 0] 25 (0, 0)) (by (with_reducible repeat (first | refine q5e ?_ _ | refine q6e ?_ | refine q7e ?_ _)); exact BK297.out) hb); have n2_ := qge (q9e (by repeat (first | (with_reducible first | exact HB.out | apply q1e | apply q2e | apply q3e | refine q4e ?_ GE296.out | refine q4e ?_ GE297.out) | exact HB.out)) hb); clear BK296; clear BK297; clear HB; have BK296 := n0_; have BK297 := n1_; have HB := n2_; clear n0_ n1_ n2_; (try clear hb); (try clear hb2); (try clear hk); (try clear hi); have hcz11_0 : w10.cell? ⟨gb297, 0, none⟩ = some (.int .i64 0) := (qce BK297.out 0).trans rfl; have hcz11_1 : w10.cell? ⟨gb297, 1, none⟩ = some (.int .i64 0) := (qce BK297.out 1).trans rfl; have hfz11_0 := qbe BK297.out 0; have hfz11_1 := qbe BK297.out 1))
   refine bodyPost_ret (results_ct rfl _ _ gb297 25 #[.int .i64 0, .int .i64 0] (0, 0) _ rfl (by (with_reducible repeat (first | refine q5e ?_ _ | refine q6e ?_ | refine q7e ?_ _)); refine qfe (cs := #[.int .i64 0, .int .i64 0]) ?_ 1 _ rfl; (with_reducible repeat (first | refine q5e ?_ _ | refine q6e ?_ | refine q7e ?_ _)); refine qfe (cs := #[.int .i64 0, .int .i64 0]) ?_ 0 _ rfl; (with_reducible repeat (first | refine q5e ?_ _ | refine q6e ?_ | refine q7e ?_ _)); exact BK297.out) Try.underlying25 rfl (by kernel_rfl)) rfl ?_
   exact ⟨by first | rfl | (simp [errW_none, errW_some] <;> rfl) | (simp [*, errW_none, errW_some] <;> rfl), by repeat (first | (with_reducible first | exact HB.out | apply q1e | apply q2e | apply q3e | refine q4e ?_ GE296.out | refine q4e ?_ GE297.out) | exact HB.out)⟩
  ·rw [if_neg c5] at H
   have c5b0 : decide (a1 < 0) = false := decide_eq_false c5
   clear c5
   replace H := Option.bind_eq_some_iff.mp H
   obtain ⟨t299, A120, H⟩ := H
   replace H : (if a1 > t299 then (some (0, 0, false)) else ((spec_l3Place.f k a0_0 a0_1 a0_2 a0_3 a0_4 a1).bind fun bt300 => (some (bt300.1, bt300.2, true)))) = some (r1, r2, r3) := H
   have A12 := qge A120
   clear A120
   by_cases c13 : a1 > t299
   ·rw [if_pos c13] at H
    have c13b0 : decide (t299 < a1) = true := decide_eq_true c13
    clear c13
    simp only [Option.some.injEq, Prod.mk.injEq] at H
    obtain ⟨rfl, rfl, rfl⟩ := H
    go_enter Try.func92, Try.ntmps92
    go_wp2_with (first | ((with_reducible refine que (N := 2) rfl ?_); refine qhe ?hg (N := 2) ?hd (cs := #[.int .i64 a0_0, .int .i64 a0_1, .int .i64 a0_2, .int .i64 a0_3, .int .i64 a0_4]) (t := 27) ?hr ?_; (case hd => rfl); (case hg => rfl); (case hr => first | (go_simp; done) | (go_simp; rfl)); intro gb296 hg w14 hbox hb; have n0_ := qge (q9e (by repeat (first | (with_reducible first | exact HB.out | apply q1e | apply q2e | apply q3e) | exact HB.out)) hb); have n1_ := qge (hbox); have n2_ := qge ((by rw [hg]; exact (qae (by repeat (first | (with_reducible first | exact HB.out | apply q1e | apply q2e | apply q3e) | exact HB.out))) : w.heap.size ≤ gb296)); have n3_ := qge ((by rw [hg]; exact (qae (by repeat (first | (with_reducible first | exact HB.out | apply q1e | apply q2e | apply q3e) | exact HB.out))) : w.heap.size ≤ gb296)); clear HB; have HB := n0_; have BK296 := n1_; have GW296 := n2_; have GE296 := n3_; clear n0_ n1_ n2_ n3_; clear hb hbox hg) | ((with_reducible refine que (N := 4) rfl ?_); refine qhe ?hg (N := 4) ?hd (cs := #[.int .i64 0, .int .i64 0]) (t := 25) ?hr ?_; (case hd => rfl); (case hg => rfl); (case hr => first | (go_simp; done) | (go_simp; rfl)); intro gb297 hg w15 hbox hb; have n0_ := qge (q8e (g := gb296) (o := .cells #[.int .i64 a0_0, .int .i64 a0_1, .int .i64 a0_2, .int .i64 a0_3, .int .i64 a0_4] 27 (0, 0)) (by (with_reducible repeat (first | refine q5e ?_ _ | refine q6e ?_ | refine q7e ?_ _)); exact BK296.out) hb); have n1_ := qge (q9e (by repeat (first | (with_reducible first | exact HB.out | apply q1e | apply q2e | apply q3e | refine q4e ?_ GE296.out) | exact HB.out)) hb); have n2_ := qge (hbox); have n3_ := qge ((by rw [hg]; exact (qae (by repeat (first | (with_reducible first | exact HB.out | apply q1e | apply q2e | apply q3e | refine q4e ?_ GE296.out) | exact HB.out))) : w.heap.size ≤ gb297)); have n4_ := qge ((by rw [hg]; exact (qae (by repeat (first | (with_reducible first | exact HB.out | apply q1e | apply q2e | apply q3e | refine q4e ?_ GE296.out) | exact HB.out))) : w.heap.size ≤ gb297)); have n5_ := qge ((by rw [hg]; exact qve (qde (g := gb296) (o := .cells #[.int .i64 a0_0, .int .i64 a0_1, .int .i64 a0_2, .int .i64 a0_3, .int .i64 a0_4] 27 (0, 0)) (by (with_reducible repeat (first | refine q5e ?_ _ | refine q6e ?_ | refine q7e ?_ _)); exact BK296.out)) : gb296 ≠ gb297)); have n6_ := qge ((by rw [hg]; exact qwe (qde (g := gb296) (o := .cells #[.int .i64 a0_0, .int .i64 a0_1, .int .i64 a0_2, .int .i64 a0_3, .int .i64 a0_4] 27 (0, 0)) (by (with_reducible repeat (first | refine q5e ?_ _ | refine q6e ?_ | refine q7e ?_ _)); exact BK296.out)) : gb297 ≠ gb296)); clear BK296; clear HB; have BK296 := n0_; have HB := n1_; have BK297 := n2_; have GW297 := n3_; have GE297 := n4_; have NB296_297 := n5_; have NB297_296 := n6_; clear n0_ n1_ n2_ n3_ n4_ n5_ n6_; clear hb hbox hg; have hnb16 := NB296_297.out; have hnc16 := NB297_296.out; have hcz17_0 : w15.cell? ⟨gb296, 0, none⟩ = some (.int .i64 a0_0) := (qce BK296.out 0).trans rfl; have hcz17_1 : w15.cell? ⟨gb296, 1, none⟩ = some (.int .i64 a0_1) := (qce BK296.out 1).trans rfl; have hcz17_2 : w15.cell? ⟨gb296, 2, none⟩ = some (.int .i64 a0_2) := (qce BK296.out 2).trans rfl; have hcz17_3 : w15.cell? ⟨gb296, 3, none⟩ = some (.int .i64 a0_3) := (qce BK296.out 3).trans rfl; have hcz17_4 : w15.cell? ⟨gb296, 4, none⟩ = some (.int .i64 a0_4) := (qce BK296.out 4).trans rfl; have hfz17_0 := qbe BK296.out 0; have hfz17_1 := qbe BK296.out 1; have hfz17_2 := qbe BK296.out 2; have hfz17_3 := qbe BK296.out 3; have hfz17_4 := qbe BK296.out 4) | ((with_reducible refine qte (f := 94) rfl ?_); refine goesL_ (some 7) rfl rfl Try.func94 (by kernel_rfl) rfl #[.agg #[.int .i64 a0_0, .int .i64 a0_1, .int .i64 a0_2, .int .i64 a0_3, .int .i64 a0_4]] rfl (by (try simp only [List.map_toArray, List.map_cons, List.map_nil]); first | done | rfl | (simp only [List.length_drop, List.length_take]; rfl)) ?_; (with_reducible refine (spec_IsJet.calls a0_0 a0_1 a0_2 a0_3 a0_4 true _ A3.out).mono ?_); rintro e w18 ⟨rfl, hb⟩; refine ⟨_, rfl, ?_⟩; have n0_ := qge (q8e (g := gb296) (o := .cells #[.int .i64 a0_0, .int .i64 a0_1, .int .i64 a0_2, .int .i64 a0_3, .int .i64 a0_4] 27 (0, 0)) (by (with_reducible repeat (first | refine q5e ?_ _ | refine q6e ?_ | refine q7e ?_ _)); exact BK296.out) hb); have n1_ := qge (q8e (g := gb297) (o := .cells #[.int .i64 0, .int .i64 0] 25 (0, 0)) (by (with_reducible repeat (first | refine q5e ?_ _ | refine q6e ?_ | refine q7e ?_ _)); exact BK297.out) hb); have n2_ := qge (q9e (by repeat (first | (with_reducible first | exact HB.out | apply q1e | apply q2e | apply q3e | refine q4e ?_ GE296.out | refine q4e ?_ GE297.out) | exact HB.out)) hb); clear BK296; clear BK297; clear HB; have BK296 := n0_; have BK297 := n1_; have HB := n2_; clear n0_ n1_ n2_; (try clear hb); (try clear hb2); (try clear hk); (try clear hi); have hcz19_0 : w18.cell? ⟨gb296, 0, none⟩ = some (.int .i64 a0_0) := (qce BK296.out 0).trans rfl; have hcz19_1 : w18.cell? ⟨gb296, 1, none⟩ = some (.int .i64 a0_1) := (qce BK296.out 1).trans rfl; have hcz19_2 : w18.cell? ⟨gb296, 2, none⟩ = some (.int .i64 a0_2) := (qce BK296.out 2).trans rfl; have hcz19_3 : w18.cell? ⟨gb296, 3, none⟩ = some (.int .i64 a0_3) := (qce BK296.out 3).trans rfl; have hcz19_4 : w18.cell? ⟨gb296, 4, none⟩ = some (.int .i64 a0_4) := (qce BK296.out 4).trans rfl; have hfz19_0 := qbe BK296.out 0; have hfz19_1 := qbe BK296.out 1; have hfz19_2 := qbe BK296.out 2; have hfz19_3 := qbe BK296.out 3; have hfz19_4 := qbe BK296.out 4) | (go_at_call 93; (with_reducible refine (spec_FlightOf.calls k a0_0 a0_1 a0_2 a0_3 a0_4 t299 _ A12.out).mono ?_); rintro e w20 ⟨rfl, hb⟩; have n0_ := qge (q8e (g := gb296) (o := .cells #[.int .i64 a0_0, .int .i64 a0_1, .int .i64 a0_2, .int .i64 a0_3, .int .i64 a0_4] 27 (0, 0)) (by (with_reducible repeat (first | refine q5e ?_ _ | refine q6e ?_ | refine q7e ?_ _)); exact BK296.out) hb); have n1_ := qge (q8e (g := gb297) (o := .cells #[.int .i64 0, .int .i64 0] 25 (0, 0)) (by (with_reducible repeat (first | refine q5e ?_ _ | refine q6e ?_ | refine q7e ?_ _)); exact BK297.out) hb); have n2_ := qge (q9e (by repeat (first | (with_reducible first | exact HB.out | apply q1e | apply q2e | apply q3e | refine q4e ?_ GE296.out | refine q4e ?_ GE297.out) | exact HB.out)) hb); clear BK296; clear BK297; clear HB; have BK296 := n0_; have BK297 := n1_; have HB := n2_; clear n0_ n1_ n2_; (try clear hb); (try clear hb2); (try clear hk); (try clear hi); have hcz21_0 : w20.cell? ⟨gb297, 0, none⟩ = some (.int .i64 0) := (qce BK297.out 0).trans rfl; have hcz21_1 : w20.cell? ⟨gb297, 1, none⟩ = some (.int .i64 0) := (qce BK297.out 1).trans rfl; have hfz21_0 := qbe BK297.out 0; have hfz21_1 := qbe BK297.out 1))
    refine bodyPost_ret (results_ct rfl _ _ gb297 25 #[.int .i64 0, .int .i64 0] (0, 0) _ rfl (by (with_reducible repeat (first | refine q5e ?_ _ | refine q6e ?_ | refine q7e ?_ _)); refine qfe (cs := #[.int .i64 0, .int .i64 0]) ?_ 1 _ rfl; (with_reducible repeat (first | refine q5e ?_ _ | refine q6e ?_ | refine q7e ?_ _)); refine qfe (cs := #[.int .i64 0, .int .i64 0]) ?_ 0 _ rfl; (with_reducible repeat (first | refine q5e ?_ _ | refine q6e ?_ | refine q7e ?_ _)); exact BK297.out) Try.underlying25 rfl (by kernel_rfl)) rfl ?_
    exact ⟨by first | rfl | (simp [errW_none, errW_some] <;> rfl) | (simp [*, errW_none, errW_some] <;> rfl), by repeat (first | (with_reducible first | exact HB.out | apply q1e | apply q2e | apply q3e | refine q4e ?_ GE296.out | refine q4e ?_ GE297.out) | exact HB.out)⟩
   ·rw [if_neg c13] at H
    have c13b0 : decide (t299 < a1) = false := decide_eq_false c13
    clear c13
    replace H := Option.bind_eq_some_iff.mp H
    obtain ⟨⟨t300, t301⟩, A220, H⟩ := H
    replace H : (some (t300, t301, true)) = some (r1, r2, r3) := H
    have A22 := qge A220
    clear A220
    simp only [Option.some.injEq, Prod.mk.injEq] at H
    obtain ⟨rfl, rfl, rfl⟩ := H
    go_enter Try.func92, Try.ntmps92
    go_wp2_with (first | ((with_reducible refine que (N := 2) rfl ?_); refine qhe ?hg (N := 2) ?hd (cs := #[.int .i64 a0_0, .int .i64 a0_1, .int .i64 a0_2, .int .i64 a0_3, .int .i64 a0_4]) (t := 27) ?hr ?_; (case hd => rfl); (case hg => rfl); (case hr => first | (go_simp; done) | (go_simp; rfl)); intro gb296 hg w23 hbox hb; have n0_ := qge (q9e (by repeat (first | (with_reducible first | exact HB.out | apply q1e | apply q2e | apply q3e) | exact HB.out)) hb); have n1_ := qge (hbox); have n2_ := qge ((by rw [hg]; exact (qae (by repeat (first | (with_reducible first | exact HB.out | apply q1e | apply q2e | apply q3e) | exact HB.out))) : w.heap.size ≤ gb296)); have n3_ := qge ((by rw [hg]; exact (qae (by repeat (first | (with_reducible first | exact HB.out | apply q1e | apply q2e | apply q3e) | exact HB.out))) : w.heap.size ≤ gb296)); clear HB; have HB := n0_; have BK296 := n1_; have GW296 := n2_; have GE296 := n3_; clear n0_ n1_ n2_ n3_; clear hb hbox hg) | ((with_reducible refine que (N := 4) rfl ?_); refine qhe ?hg (N := 4) ?hd (cs := #[.int .i64 0, .int .i64 0]) (t := 25) ?hr ?_; (case hd => rfl); (case hg => rfl); (case hr => first | (go_simp; done) | (go_simp; rfl)); intro gb297 hg w24 hbox hb; have n0_ := qge (q8e (g := gb296) (o := .cells #[.int .i64 a0_0, .int .i64 a0_1, .int .i64 a0_2, .int .i64 a0_3, .int .i64 a0_4] 27 (0, 0)) (by (with_reducible repeat (first | refine q5e ?_ _ | refine q6e ?_ | refine q7e ?_ _)); exact BK296.out) hb); have n1_ := qge (q9e (by repeat (first | (with_reducible first | exact HB.out | apply q1e | apply q2e | apply q3e | refine q4e ?_ GE296.out) | exact HB.out)) hb); have n2_ := qge (hbox); have n3_ := qge ((by rw [hg]; exact (qae (by repeat (first | (with_reducible first | exact HB.out | apply q1e | apply q2e | apply q3e | refine q4e ?_ GE296.out) | exact HB.out))) : w.heap.size ≤ gb297)); have n4_ := qge ((by rw [hg]; exact (qae (by repeat (first | (with_reducible first | exact HB.out | apply q1e | apply q2e | apply q3e | refine q4e ?_ GE296.out) | exact HB.out))) : w.heap.size ≤ gb297)); have n5_ := qge ((by rw [hg]; exact qve (qde (g := gb296) (o := .cells #[.int .i64 a0_0, .int .i64 a0_1, .int .i64 a0_2, .int .i64 a0_3, .int .i64 a0_4] 27 (0, 0)) (by (with_reducible repeat (first | refine q5e ?_ _ | refine q6e ?_ | refine q7e ?_ _)); exact BK296.out)) : gb296 ≠ gb297)); have n6_ := qge ((by rw [hg]; exact qwe (qde (g := gb296) (o := .cells #[.int .i64 a0_0, .int .i64 a0_1, .int .i64 a0_2, .int .i64 a0_3, .int .i64 a0_4] 27 (0, 0)) (by (with_reducible repeat (first | refine q5e ?_ _ | refine q6e ?_ | refine q7e ?_ _)); exact BK296.out)) : gb297 ≠ gb296)); clear BK296; clear HB; have BK296 := n0_; have HB := n1_; have BK297 := n2_; have GW297 := n3_; have GE297 := n4_; have NB296_297 := n5_; have NB297_296 := n6_; clear n0_ n1_ n2_ n3_ n4_ n5_ n6_; clear hb hbox hg; have hnb25 := NB296_297.out; have hnc25 := NB297_296.out; have hcz26_0 : w24.cell? ⟨gb296, 0, none⟩ = some (.int .i64 a0_0) := (qce BK296.out 0).trans rfl; have hcz26_1 : w24.cell? ⟨gb296, 1, none⟩ = some (.int .i64 a0_1) := (qce BK296.out 1).trans rfl; have hcz26_2 : w24.cell? ⟨gb296, 2, none⟩ = some (.int .i64 a0_2) := (qce BK296.out 2).trans rfl; have hcz26_3 : w24.cell? ⟨gb296, 3, none⟩ = some (.int .i64 a0_3) := (qce BK296.out 3).trans rfl; have hcz26_4 : w24.cell? ⟨gb296, 4, none⟩ = some (.int .i64 a0_4) := (qce BK296.out 4).trans rfl; have hfz26_0 := qbe BK296.out 0; have hfz26_1 := qbe BK296.out 1; have hfz26_2 := qbe BK296.out 2; have hfz26_3 := qbe BK296.out 3; have hfz26_4 := qbe BK296.out 4) | ((with_reducible refine qte (f := 94) rfl ?_); refine goesL_ (some 7) rfl rfl Try.func94 (by kernel_rfl) rfl #[.agg #[.int .i64 a0_0, .int .i64 a0_1, .int .i64 a0_2, .int .i64 a0_3, .int .i64 a0_4]] rfl (by (try simp only [List.map_toArray, List.map_cons, List.map_nil]); first | done | rfl | (simp only [List.length_drop, List.length_take]; rfl)) ?_; (with_reducible refine (spec_IsJet.calls a0_0 a0_1 a0_2 a0_3 a0_4 true _ A3.out).mono ?_); rintro e w27 ⟨rfl, hb⟩; refine ⟨_, rfl, ?_⟩; have n0_ := qge (q8e (g := gb296) (o := .cells #[.int .i64 a0_0, .int .i64 a0_1, .int .i64 a0_2, .int .i64 a0_3, .int .i64 a0_4] 27 (0, 0)) (by (with_reducible repeat (first | refine q5e ?_ _ | refine q6e ?_ | refine q7e ?_ _)); exact BK296.out) hb); have n1_ := qge (q8e (g := gb297) (o := .cells #[.int .i64 0, .int .i64 0] 25 (0, 0)) (by (with_reducible repeat (first | refine q5e ?_ _ | refine q6e ?_ | refine q7e ?_ _)); exact BK297.out) hb); have n2_ := qge (q9e (by repeat (first | (with_reducible first | exact HB.out | apply q1e | apply q2e | apply q3e | refine q4e ?_ GE296.out | refine q4e ?_ GE297.out) | exact HB.out)) hb); clear BK296; clear BK297; clear HB; have BK296 := n0_; have BK297 := n1_; have HB := n2_; clear n0_ n1_ n2_; (try clear hb); (try clear hb2); (try clear hk); (try clear hi); have hcz28_0 : w27.cell? ⟨gb296, 0, none⟩ = some (.int .i64 a0_0) := (qce BK296.out 0).trans rfl; have hcz28_1 : w27.cell? ⟨gb296, 1, none⟩ = some (.int .i64 a0_1) := (qce BK296.out 1).trans rfl; have hcz28_2 : w27.cell? ⟨gb296, 2, none⟩ = some (.int .i64 a0_2) := (qce BK296.out 2).trans rfl; have hcz28_3 : w27.cell? ⟨gb296, 3, none⟩ = some (.int .i64 a0_3) := (qce BK296.out 3).trans rfl; have hcz28_4 : w27.cell? ⟨gb296, 4, none⟩ = some (.int .i64 a0_4) := (qce BK296.out 4).trans rfl; have hfz28_0 := qbe BK296.out 0; have hfz28_1 := qbe BK296.out 1; have hfz28_2 := qbe BK296.out 2; have hfz28_3 := qbe BK296.out 3; have hfz28_4 := qbe BK296.out 4) | (go_at_call 93; (with_reducible refine (spec_FlightOf.calls k a0_0 a0_1 a0_2 a0_3 a0_4 t299 _ A12.out).mono ?_); rintro e w29 ⟨rfl, hb⟩; have n0_ := qge (q8e (g := gb296) (o := .cells #[.int .i64 a0_0, .int .i64 a0_1, .int .i64 a0_2, .int .i64 a0_3, .int .i64 a0_4] 27 (0, 0)) (by (with_reducible repeat (first | refine q5e ?_ _ | refine q6e ?_ | refine q7e ?_ _)); exact BK296.out) hb); have n1_ := qge (q8e (g := gb297) (o := .cells #[.int .i64 0, .int .i64 0] 25 (0, 0)) (by (with_reducible repeat (first | refine q5e ?_ _ | refine q6e ?_ | refine q7e ?_ _)); exact BK297.out) hb); have n2_ := qge (q9e (by repeat (first | (with_reducible first | exact HB.out | apply q1e | apply q2e | apply q3e | refine q4e ?_ GE296.out | refine q4e ?_ GE297.out) | exact HB.out)) hb); clear BK296; clear BK297; clear HB; have BK296 := n0_; have BK297 := n1_; have HB := n2_; clear n0_ n1_ n2_; (try clear hb); (try clear hb2); (try clear hk); (try clear hi); have hcz30_0 : w29.cell? ⟨gb296, 0, none⟩ = some (.int .i64 a0_0) := (qce BK296.out 0).trans rfl; have hcz30_1 : w29.cell? ⟨gb296, 1, none⟩ = some (.int .i64 a0_1) := (qce BK296.out 1).trans rfl; have hcz30_2 : w29.cell? ⟨gb296, 2, none⟩ = some (.int .i64 a0_2) := (qce BK296.out 2).trans rfl; have hcz30_3 : w29.cell? ⟨gb296, 3, none⟩ = some (.int .i64 a0_3) := (qce BK296.out 3).trans rfl; have hcz30_4 : w29.cell? ⟨gb296, 4, none⟩ = some (.int .i64 a0_4) := (qce BK296.out 4).trans rfl; have hfz30_0 := qbe BK296.out 0; have hfz30_1 := qbe BK296.out 1; have hfz30_2 := qbe BK296.out 2; have hfz30_3 := qbe BK296.out 3; have hfz30_4 := qbe BK296.out 4) | ((with_reducible refine qte (f := 95) rfl ?_); refine goesL_ (some 22) rfl rfl Try.func95 (by kernel_rfl) rfl #[.agg #[.int .i64 a0_0, .int .i64 a0_1, .int .i64 a0_2, .int .i64 a0_3, .int .i64 a0_4], .int .i64 a1] rfl (by (try simp only [List.map_toArray, List.map_cons, List.map_nil]); first | done | rfl | (simp only [List.length_drop, List.length_take]; rfl)) ?_; (with_reducible refine (spec_l3Place.calls k a0_0 a0_1 a0_2 a0_3 a0_4 a1 t300 t301 _ A22.out).mono ?_); rintro e w31 ⟨rfl, hb⟩; refine ⟨_, rfl, ?_⟩; have n0_ := qge (q8e (g := gb296) (o := .cells #[.int .i64 a0_0, .int .i64 a0_1, .int .i64 a0_2, .int .i64 a0_3, .int .i64 a0_4] 27 (0, 0)) (by (with_reducible repeat (first | refine q5e ?_ _ | refine q6e ?_ | refine q7e ?_ _)); exact BK296.out) hb); have n1_ := qge (q8e (g := gb297) (o := .cells #[.int .i64 0, .int .i64 0] 25 (0, 0)) (by (with_reducible repeat (first | refine q5e ?_ _ | refine q6e ?_ | refine q7e ?_ _)); exact BK297.out) hb); have n2_ := qge (q9e (by repeat (first | (with_reducible first | exact HB.out | apply q1e | apply q2e | apply q3e | refine q4e ?_ GE296.out | refine q4e ?_ GE297.out) | exact HB.out)) hb); clear BK296; clear BK297; clear HB; have BK296 := n0_; have BK297 := n1_; have HB := n2_; clear n0_ n1_ n2_; (try clear hb); (try clear hb2); (try clear hk); (try clear hi); have hcz32_0 : w31.cell? ⟨gb297, 0, none⟩ = some (.int .i64 0) := (qce BK297.out 0).trans rfl; have hcz32_1 : w31.cell? ⟨gb297, 1, none⟩ = some (.int .i64 0) := (qce BK297.out 1).trans rfl; have hfz32_0 := qbe BK297.out 0; have hfz32_1 := qbe BK297.out 1))
    refine bodyPost_ret (results_ct rfl _ _ gb297 25 #[.int .i64 t300, .int .i64 t301] (0, 0) _ rfl (by (with_reducible repeat (first | refine q5e ?_ _ | refine q6e ?_ | refine q7e ?_ _)); refine qfe (cs := #[.int .i64 t300, .int .i64 0]) ?_ 1 _ rfl; (with_reducible repeat (first | refine q5e ?_ _ | refine q6e ?_ | refine q7e ?_ _)); refine qfe (cs := #[.int .i64 0, .int .i64 0]) ?_ 0 _ rfl; (with_reducible repeat (first | refine q5e ?_ _ | refine q6e ?_ | refine q7e ?_ _)); exact BK297.out) Try.underlying25 rfl (by kernel_rfl)) rfl ?_
    exact ⟨by first | rfl | (simp [errW_none, errW_some] <;> rfl) | (simp [*, errW_none, errW_some] <;> rfl), by repeat (first | (with_reducible first | exact HB.out | apply q1e | apply q2e | apply q3e | refine q4e ?_ GE296.out | refine q4e ?_ GE297.out) | exact HB.out)⟩
 ·replace c4 := Bool.eq_false_iff.mpr c4
  subst c4
  have H1 : (some (0, 0, false)) = some (r1, r2, r3) := by rw [if_neg (show ¬ (false = true) by decide)] at H; exact H
  clear H
  have H := H1
  clear H1
  simp only [Option.some.injEq, Prod.mk.injEq] at H
  obtain ⟨rfl, rfl, rfl⟩ := H
  go_enter Try.func92, Try.ntmps92
  go_wp2_with (first | ((with_reducible refine que (N := 2) rfl ?_); refine qhe ?hg (N := 2) ?hd (cs := #[.int .i64 a0_0, .int .i64 a0_1, .int .i64 a0_2, .int .i64 a0_3, .int .i64 a0_4]) (t := 27) ?hr ?_; (case hd => rfl); (case hg => rfl); (case hr => first | (go_simp; done) | (go_simp; rfl)); intro gb296 hg w33 hbox hb; have n0_ := qge (q9e (by repeat (first | (with_reducible first | exact HB.out | apply q1e | apply q2e | apply q3e) | exact HB.out)) hb); have n1_ := qge (hbox); have n2_ := qge ((by rw [hg]; exact (qae (by repeat (first | (with_reducible first | exact HB.out | apply q1e | apply q2e | apply q3e) | exact HB.out))) : w.heap.size ≤ gb296)); have n3_ := qge ((by rw [hg]; exact (qae (by repeat (first | (with_reducible first | exact HB.out | apply q1e | apply q2e | apply q3e) | exact HB.out))) : w.heap.size ≤ gb296)); clear HB; have HB := n0_; have BK296 := n1_; have GW296 := n2_; have GE296 := n3_; clear n0_ n1_ n2_ n3_; clear hb hbox hg) | ((with_reducible refine que (N := 4) rfl ?_); refine qhe ?hg (N := 4) ?hd (cs := #[.int .i64 0, .int .i64 0]) (t := 25) ?hr ?_; (case hd => rfl); (case hg => rfl); (case hr => first | (go_simp; done) | (go_simp; rfl)); intro gb297 hg w34 hbox hb; have n0_ := qge (q8e (g := gb296) (o := .cells #[.int .i64 a0_0, .int .i64 a0_1, .int .i64 a0_2, .int .i64 a0_3, .int .i64 a0_4] 27 (0, 0)) (by (with_reducible repeat (first | refine q5e ?_ _ | refine q6e ?_ | refine q7e ?_ _)); exact BK296.out) hb); have n1_ := qge (q9e (by repeat (first | (with_reducible first | exact HB.out | apply q1e | apply q2e | apply q3e | refine q4e ?_ GE296.out) | exact HB.out)) hb); have n2_ := qge (hbox); have n3_ := qge ((by rw [hg]; exact (qae (by repeat (first | (with_reducible first | exact HB.out | apply q1e | apply q2e | apply q3e | refine q4e ?_ GE296.out) | exact HB.out))) : w.heap.size ≤ gb297)); have n4_ := qge ((by rw [hg]; exact (qae (by repeat (first | (with_reducible first | exact HB.out | apply q1e | apply q2e | apply q3e | refine q4e ?_ GE296.out) | exact HB.out))) : w.heap.size ≤ gb297)); have n5_ := qge ((by rw [hg]; exact qve (qde (g := gb296) (o := .cells #[.int .i64 a0_0, .int .i64 a0_1, .int .i64 a0_2, .int .i64 a0_3, .int .i64 a0_4] 27 (0, 0)) (by (with_reducible repeat (first | refine q5e ?_ _ | refine q6e ?_ | refine q7e ?_ _)); exact BK296.out)) : gb296 ≠ gb297)); have n6_ := qge ((by rw [hg]; exact qwe (qde (g := gb296) (o := .cells #[.int .i64 a0_0, .int .i64 a0_1, .int .i64 a0_2, .int .i64 a0_3, .int .i64 a0_4] 27 (0, 0)) (by (with_reducible repeat (first | refine q5e ?_ _ | refine q6e ?_ | refine q7e ?_ _)); exact BK296.out)) : gb297 ≠ gb296)); clear BK296; clear HB; have BK296 := n0_; have HB := n1_; have BK297 := n2_; have GW297 := n3_; have GE297 := n4_; have NB296_297 := n5_; have NB297_296 := n6_; clear n0_ n1_ n2_ n3_ n4_ n5_ n6_; clear hb hbox hg; have hnb35 := NB296_297.out; have hnc35 := NB297_296.out; have hcz36_0 : w34.cell? ⟨gb296, 0, none⟩ = some (.int .i64 a0_0) := (qce BK296.out 0).trans rfl; have hcz36_1 : w34.cell? ⟨gb296, 1, none⟩ = some (.int .i64 a0_1) := (qce BK296.out 1).trans rfl; have hcz36_2 : w34.cell? ⟨gb296, 2, none⟩ = some (.int .i64 a0_2) := (qce BK296.out 2).trans rfl; have hcz36_3 : w34.cell? ⟨gb296, 3, none⟩ = some (.int .i64 a0_3) := (qce BK296.out 3).trans rfl; have hcz36_4 : w34.cell? ⟨gb296, 4, none⟩ = some (.int .i64 a0_4) := (qce BK296.out 4).trans rfl; have hfz36_0 := qbe BK296.out 0; have hfz36_1 := qbe BK296.out 1; have hfz36_2 := qbe BK296.out 2; have hfz36_3 := qbe BK296.out 3; have hfz36_4 := qbe BK296.out 4) | ((with_reducible refine qte (f := 94) rfl ?_); refine goesL_ (some 7) rfl rfl Try.func94 (by kernel_rfl) rfl #[.agg #[.int .i64 a0_0, .int .i64 a0_1, .int .i64 a0_2, .int .i64 a0_3, .int .i64 a0_4]] rfl (by (try simp only [List.map_toArray, List.map_cons, List.map_nil]); first | done | rfl | (simp only [List.length_drop, List.length_take]; rfl)) ?_; (with_reducible refine (spec_IsJet.calls a0_0 a0_1 a0_2 a0_3 a0_4 false _ A3.out).mono ?_); rintro e w37 ⟨rfl, hb⟩; refine ⟨_, rfl, ?_⟩; have n0_ := qge (q8e (g := gb296) (o := .cells #[.int .i64 a0_0, .int .i64 a0_1, .int .i64 a0_2, .int .i64 a0_3, .int .i64 a0_4] 27 (0, 0)) (by (with_reducible repeat (first | refine q5e ?_ _ | refine q6e ?_ | refine q7e ?_ _)); exact BK296.out) hb); have n1_ := qge (q8e (g := gb297) (o := .cells #[.int .i64 0, .int .i64 0] 25 (0, 0)) (by (with_reducible repeat (first | refine q5e ?_ _ | refine q6e ?_ | refine q7e ?_ _)); exact BK297.out) hb); have n2_ := qge (q9e (by repeat (first | (with_reducible first | exact HB.out | apply q1e | apply q2e | apply q3e | refine q4e ?_ GE296.out | refine q4e ?_ GE297.out) | exact HB.out)) hb); clear BK296; clear BK297; clear HB; have BK296 := n0_; have BK297 := n1_; have HB := n2_; clear n0_ n1_ n2_; (try clear hb); (try clear hb2); (try clear hk); (try clear hi); have hcz38_0 : w37.cell? ⟨gb297, 0, none⟩ = some (.int .i64 0) := (qce BK297.out 0).trans rfl; have hcz38_1 : w37.cell? ⟨gb297, 1, none⟩ = some (.int .i64 0) := (qce BK297.out 1).trans rfl; have hfz38_0 := qbe BK297.out 0; have hfz38_1 := qbe BK297.out 1))
  refine bodyPost_ret (results_ct rfl _ _ gb297 25 #[.int .i64 0, .int .i64 0] (0, 0) _ rfl (by (with_reducible repeat (first | refine q5e ?_ _ | refine q6e ?_ | refine q7e ?_ _)); refine qfe (cs := #[.int .i64 0, .int .i64 0]) ?_ 1 _ rfl; (with_reducible repeat (first | refine q5e ?_ _ | refine q6e ?_ | refine q7e ?_ _)); refine qfe (cs := #[.int .i64 0, .int .i64 0]) ?_ 0 _ rfl; (with_reducible repeat (first | refine q5e ?_ _ | refine q6e ?_ | refine q7e ?_ _)); exact BK297.out) Try.underlying25 rfl (by kernel_rfl)) rfl ?_
  exact ⟨by first | rfl | (simp [errW_none, errW_some] <;> rfl) | (simp [*, errW_none, errW_some] <;> rfl), by repeat (first | (with_reducible first | exact HB.out | apply q1e | apply q2e | apply q3e | refine q4e ?_ GE296.out | refine q4e ?_ GE297.out) | exact HB.out)⟩
/-! ### spec_LandingOf: function 86 -/
def spec_LandingOf.f (k : Nat) (a0_0 : Int) (a0_1 : Int) (a0_2 : Int) (a0_3 : Int) (a0_4 : Int) : Option (Int × Int × Bool) := (spec_FlightOf.f k a0_0 a0_1 a0_2 a0_3 a0_4).bind fun t304 => ((spec_PlaceAt.f k a0_0 a0_1 a0_2 a0_3 a0_4 t304).bind fun bt305 => (some (bt305.1, bt305.2.1, bt305.2.2)))
theorem spec_LandingOf.mono : ∀ a0 a1 a2 a3 a4 k, LeO (spec_LandingOf.f k a0 a1 a2 a3 a4) (spec_LandingOf.f (k + 1) a0 a1 a2 a3 a4) := by
  intro a0 a1 a2 a3 a4 k
  unfold spec_LandingOf.f
  repeat' first
      | (with_reducible exact spec_FlightOf.mono _ _ _ _ _ _)
      | (with_reducible exact spec_PlaceAt.mono _ _ _ _ _ _ _)
      | (with_reducible exact LeO.refl _)
      | (with_reducible exact LeO.none _)
      | (with_reducible refine LeO.ite ?_ ?_)
      | (with_reducible refine LeO.bind ?_ (fun _ => ?_))
      | exact spec_FlightOf.mono _ _ _ _ _ _
      | exact spec_PlaceAt.mono _ _ _ _ _ _ _
      | exact LeO.none _
      | refine LeO.ite ?_ ?_
      | refine LeO.bind ?_ (fun _ => ?_)
def spec_LandingOf.T1 : Bool × List (List Nat × List Nat) := (true, [([], []), ([], []), ([1], [1]), ([0, 2, 2], [0, 2]), ([3], [3]), ([3], [3]), ([4, 3, 0, 1, 2, 3, 4, 5], [4]), ([5, 6, 0, 1, 2, 3, 4, 5, 6], [5])])
def spec_LandingOf.B1 : List Nat := [0, 0, 2, 7, 15, 15, 63, 127]
theorem spec_LandingOf.tab1 : rtab .any (opsOf Try.f86 1) = spec_LandingOf.T1 := by kernel_rfl
theorem spec_LandingOf.bits1 : waitsOk spec_LandingOf.T1.2 spec_LandingOf.B1 = true := by kernel_rfl
set_option maxHeartbeats 8000000 in
set_option maxRecDepth 100000 in
theorem spec_LandingOf.calls (k : Nat) (a0_0 : Int) (a0_1 : Int) (a0_2 : Int) (a0_3 : Int) (a0_4 : Int) (r1 : Int) (r2 : Int) (r3 : Bool) (w : World) (h : spec_LandingOf.f k a0_0 a0_1 a0_2 a0_3 a0_4 = some (r1, r2, r3)) :
 Calls Try.prog 86 #[.agg #[.int .i64 a0_0, .int .i64 a0_1, .int .i64 a0_2, .int .i64 a0_3, .int .i64 a0_4]] w fun e w' => e = .returned (.tuple #[.agg #[.int .i64 r1, .int .i64 r2], .bool r3]) ∧ Below w.heap.size w w' := by
 have hu27 := Try.underlying27
 have hu25 := Try.underlying25
 have HB := qge (Below.refl w.heap.size w)
 have H : ((spec_FlightOf.f k a0_0 a0_1 a0_2 a0_3 a0_4).bind fun t304 => ((spec_PlaceAt.f k a0_0 a0_1 a0_2 a0_3 a0_4 t304).bind fun bt305 => (some (bt305.1, bt305.2.1, bt305.2.2)))) = some (r1, r2, r3) := h
 clear h
 replace H := Option.bind_eq_some_iff.mp H
 obtain ⟨t304, A20, H⟩ := H
 replace H : ((spec_PlaceAt.f k a0_0 a0_1 a0_2 a0_3 a0_4 t304).bind fun bt305 => (some (bt305.1, bt305.2.1, bt305.2.2))) = some (r1, r2, r3) := H
 have A2 := qge A20
 clear A20
 replace H := Option.bind_eq_some_iff.mp H
 obtain ⟨⟨t305, t306, t307⟩, A30, H⟩ := H
 replace H : (some (t305, t306, t307)) = some (r1, r2, r3) := H
 have A3 := qge A30
 clear A30
 simp only [Option.some.injEq, Prod.mk.injEq] at H
 obtain ⟨rfl, rfl, rfl⟩ := H
 go_enter Try.func86, Try.ntmps86
 try go_wp2_with (first | ((with_reducible refine que (N := 1) rfl ?_); refine qhe ?hg (N := 1) ?hd (cs := #[.int .i64 a0_0, .int .i64 a0_1, .int .i64 a0_2, .int .i64 a0_3, .int .i64 a0_4]) (t := 27) ?hr ?_; (case hd => rfl); (case hg => rfl); (case hr => first | (go_simp; done) | (go_simp; rfl)); intro gb302 hg w4 hbox hb; have n0_ := qge (q9e (by repeat (first | (with_reducible first | exact HB.out | apply q1e | apply q2e | apply q3e) | exact HB.out)) hb); have n1_ := qge (hbox); have n2_ := qge ((by rw [hg]; exact (qae (by repeat (first | (with_reducible first | exact HB.out | apply q1e | apply q2e | apply q3e) | exact HB.out))) : w.heap.size ≤ gb302)); have n3_ := qge ((by rw [hg]; exact (qae (by repeat (first | (with_reducible first | exact HB.out | apply q1e | apply q2e | apply q3e) | exact HB.out))) : w.heap.size ≤ gb302)); clear HB; have HB := n0_; have BK302 := n1_; have GW302 := n2_; have GE302 := n3_; clear n0_ n1_ n2_ n3_; clear hb hbox hg) | ((with_reducible refine que (N := 2) rfl ?_); refine qhe ?hg (N := 2) ?hd (cs := #[.int .i64 0, .int .i64 0]) (t := 25) ?hr ?_; (case hd => rfl); (case hg => rfl); (case hr => first | (go_simp; done) | (go_simp; rfl)); intro gb303 hg w5 hbox hb; have n0_ := qge (q8e (g := gb302) (o := .cells #[.int .i64 a0_0, .int .i64 a0_1, .int .i64 a0_2, .int .i64 a0_3, .int .i64 a0_4] 27 (0, 0)) (by (with_reducible repeat (first | refine q5e ?_ _ | refine q6e ?_ | refine q7e ?_ _)); exact BK302.out) hb); have n1_ := qge (q9e (by repeat (first | (with_reducible first | exact HB.out | apply q1e | apply q2e | apply q3e | refine q4e ?_ GE302.out) | exact HB.out)) hb); have n2_ := qge (hbox); have n3_ := qge ((by rw [hg]; exact (qae (by repeat (first | (with_reducible first | exact HB.out | apply q1e | apply q2e | apply q3e | refine q4e ?_ GE302.out) | exact HB.out))) : w.heap.size ≤ gb303)); have n4_ := qge ((by rw [hg]; exact (qae (by repeat (first | (with_reducible first | exact HB.out | apply q1e | apply q2e | apply q3e | refine q4e ?_ GE302.out) | exact HB.out))) : w.heap.size ≤ gb303)); have n5_ := qge ((by rw [hg]; exact qve (qde (g := gb302) (o := .cells #[.int .i64 a0_0, .int .i64 a0_1, .int .i64 a0_2, .int .i64 a0_3, .int .i64 a0_4] 27 (0, 0)) (by (with_reducible repeat (first | refine q5e ?_ _ | refine q6e ?_ | refine q7e ?_ _)); exact BK302.out)) : gb302 ≠ gb303)); have n6_ := qge ((by rw [hg]; exact qwe (qde (g := gb302) (o := .cells #[.int .i64 a0_0, .int .i64 a0_1, .int .i64 a0_2, .int .i64 a0_3, .int .i64 a0_4] 27 (0, 0)) (by (with_reducible repeat (first | refine q5e ?_ _ | refine q6e ?_ | refine q7e ?_ _)); exact BK302.out)) : gb303 ≠ gb302)); clear BK302; clear HB; have BK302 := n0_; have HB := n1_; have BK303 := n2_; have GW303 := n3_; have GE303 := n4_; have NB302_303 := n5_; have NB303_302 := n6_; clear n0_ n1_ n2_ n3_ n4_ n5_ n6_; clear hb hbox hg))
 have n0_ := qge (q6e BK302.out)
 have n1_ := qge (q6e BK303.out)
 have n2_ := qge (q3e HB.out)
 clear BK302
 clear BK303
 clear HB
 have BK302 := n0_
 have BK303 := n1_
 have HB := n2_
 clear n0_ n1_ n2_
 refine start_ (n := 8) (S := fun w' => w'.cell? ⟨gb302, 0, none⟩ = some (.int .i64 a0_0) ∧ w'.cell? ⟨gb302, 1, none⟩ = some (.int .i64 a0_1) ∧ w'.cell? ⟨gb302, 2, none⟩ = some (.int .i64 a0_2) ∧ w'.cell? ⟨gb302, 3, none⟩ = some (.int .i64 a0_3) ∧ w'.cell? ⟨gb302, 4, none⟩ = some (.int .i64 a0_4)) (ds := []) #[false, false, false, false, false, false, false, false] (by kernel_rfl) rfl rfl ⟨(qce BK302.out 0).trans rfl, (qce BK302.out 1).trans rfl, (qce BK302.out 2).trans rfl, (qce BK302.out 3).trans rfl, (qce BK302.out 4).trans rfl⟩ (fun hHeld => ?_); refine with_tabW spec_LandingOf.tab1 spec_LandingOf.bits1 (fun HT_ HW_ => ?_)
 generalize w5.drew = w6 at BK302 BK303 HB hHeld ⊢
 refine take_ (i := 0) (N := some 4) (v := ?_) (a' := ?_) #[true, false, false, false, false, false, false, false] rfl rfl (take_ofW HT_.out HW_.out (by kernel_rfl)) (fun _ _ _ h => h) (Or.inl ⟨by rfl, ?_⟩) hHeld ?_ ?_
 rotate_left
 ·rintro w' ⟨s0, s1, s2, s3, s4⟩
  go_simp
  with_reducible rfl
 rotate_left
 ·simp only [Act.put, p1e, p2e, p3e, i64_w, i32_w]
  rfl
 refine take_ (i := 1) (N := some 5) (v := ?_) (a' := ?_) #[true, true, false, false, false, false, false, false] rfl rfl (take_ofW HT_.out HW_.out (by kernel_rfl)) (fun _ _ _ h => h) (Or.inl ⟨by rfl, ?_⟩) hHeld ?_ ?_
 rotate_left
 ·rintro w' ⟨s0, s1, s2, s3, s4⟩
  go_simp
  with_reducible rfl
 rotate_left
 ·simp only [Act.put, p1e, p2e, p3e, i64_w, i32_w]
  rfl
 refine one_ (i := 2) (N := some 6) #[true, true, true, false, false, false, false, false] rfl rfl (one_of HT_.out (by kernel_rfl)) (by decide) (fun K hK => ?_)
 refine goes_ Try.func93 (by kernel_rfl) rfl #[.agg #[.int .i64 a0_0, .int .i64 a0_1, .int .i64 a0_2, .int .i64 a0_3, .int .i64 a0_4]] (by rfl) rfl rfl (by (try simp only [List.map_toArray, List.map_cons, List.map_nil]); first | done | rfl | (simp only [List.length_drop, List.length_take]; rfl)) ?_
 with_reducible refine (spec_FlightOf.calls k a0_0 a0_1 a0_2 a0_3 a0_4 t304 _ A2.out).mono ?_
 rintro e w7 ⟨rfl, hb⟩
 refine ⟨_, rfl, ?_⟩
 have n0_ := qge (q8e (g := gb302) (o := .cells #[.int .i64 a0_0, .int .i64 a0_1, .int .i64 a0_2, .int .i64 a0_3, .int .i64 a0_4] 27 (0, 0)) (by (with_reducible repeat (first | refine q5e ?_ _ | refine q6e ?_ | refine q7e ?_ _)); exact BK302.out) hb)
 have n1_ := qge (q8e (g := gb303) (o := .cells #[.int .i64 0, .int .i64 0] 25 (0, 0)) (by (with_reducible repeat (first | refine q5e ?_ _ | refine q6e ?_ | refine q7e ?_ _)); exact BK303.out) hb)
 have n2_ := qge (q9e (by repeat (first | (with_reducible first | exact HB.out | apply q1e | apply q2e | apply q3e | refine q4e ?_ GE302.out | refine q4e ?_ GE303.out) | exact HB.out)) hb)
 clear BK302
 clear BK303
 clear HB
 have BK302 := n0_
 have BK303 := n1_
 have HB := n2_
 clear n0_ n1_ n2_
 (try clear hb)
 (try clear hb2)
 (try clear hk)
 (try clear hi)
 refine hK.out _ _ ⟨(qce BK302.out 0).trans rfl, (qce BK302.out 1).trans rfl, (qce BK302.out 2).trans rfl, (qce BK302.out 3).trans rfl, (qce BK302.out 4).trans rfl⟩ (fun hHeld => ?_)
 clear hK K
 refine norm_ (a' := ?_) ?_ ?_
 rotate_left
 ·show Act.put _ (some 6) _ = _
  simp only [Act.put, p1e, p2e, p3e, i64_w, i32_w]
  rfl
 refine one_ (i := 3) (N := some 7) #[true, true, true, true, false, false, false, false] rfl rfl (one_of HT_.out (by kernel_rfl)) (by decide) (fun K hK => ?_)
 refine goes_ Try.func92 (by kernel_rfl) rfl #[.agg #[.int .i64 a0_0, .int .i64 a0_1, .int .i64 a0_2, .int .i64 a0_3, .int .i64 a0_4], .int .i64 t304] (by rfl) rfl rfl (by (try simp only [List.map_toArray, List.map_cons, List.map_nil]); first | done | rfl | (simp only [List.length_drop, List.length_take]; rfl)) ?_
 with_reducible refine (spec_PlaceAt.calls k a0_0 a0_1 a0_2 a0_3 a0_4 t304 t305 t306 t307 _ A3.out).mono ?_
 rintro e w8 ⟨rfl, hb⟩
 refine ⟨_, rfl, ?_⟩
 have n0_ := qge (q8e (g := gb302) (o := .cells #[.int .i64 a0_0, .int .i64 a0_1, .int .i64 a0_2, .int .i64 a0_3, .int .i64 a0_4] 27 (0, 0)) (by (with_reducible repeat (first | refine q5e ?_ _ | refine q6e ?_ | refine q7e ?_ _)); exact BK302.out) hb)
 have n1_ := qge (q8e (g := gb303) (o := .cells #[.int .i64 0, .int .i64 0] 25 (0, 0)) (by (with_reducible repeat (first | refine q5e ?_ _ | refine q6e ?_ | refine q7e ?_ _)); exact BK303.out) hb)
 have n2_ := qge (q9e (by repeat (first | (with_reducible first | exact HB.out | apply q1e | apply q2e | apply q3e | refine q4e ?_ GE302.out | refine q4e ?_ GE303.out) | exact HB.out)) hb)
 clear BK302
 clear BK303
 clear HB
 have BK302 := n0_
 have BK303 := n1_
 have HB := n2_
 clear n0_ n1_ n2_
 (try clear hb)
 (try clear hb2)
 (try clear hk)
 (try clear hi)
 refine hK.out _ _ ⟨(qce BK302.out 0).trans rfl, (qce BK302.out 1).trans rfl, (qce BK302.out 2).trans rfl, (qce BK302.out 3).trans rfl, (qce BK302.out 4).trans rfl⟩ (fun hHeld => ?_)
 clear hK K
 refine norm_ (a' := ?_) ?_ ?_
 rotate_left
 ·show Act.put _ (some 7) _ = _
  simp only [Act.put, p1e, p2e, p3e, i64_w, i32_w]
  rfl
 refine pure_ (i := 4) (N := some 8) (v := ?_) (a' := ?_) #[true, true, true, true, true, false, false, false] rfl rfl (any_of HT_.out (by kernel_rfl)) (fun _ _ _ h => h) (Or.inl ⟨by rfl, ?_⟩) ?_ ?_
 rotate_left
 ·intro w'
  go_simp
  with_reducible rfl
 rotate_left
 ·simp only [Act.put, p1e, p2e, p3e, i64_w, i32_w]
  rfl
 refine pure_ (i := 5) (N := some 9) (v := ?_) (a' := ?_) #[true, true, true, true, true, true, false, false] rfl rfl (any_of HT_.out (by kernel_rfl)) (fun _ _ _ h => h) (Or.inl ⟨by rfl, ?_⟩) ?_ ?_
 rotate_left
 ·intro w'
  go_simp
  with_reducible rfl
 rotate_left
 ·simp only [Act.put, p1e, p2e, p3e, i64_w, i32_w]
  rfl
 refine one_ (i := 6) (N := none) #[true, true, true, true, true, true, true, false] rfl rfl (one_of HT_.out (by kernel_rfl)) (by decide) (fun K hK => ?_)
 have hs9 : w8.cell? ⟨gb303, 0, none⟩ = some (.int .i64 0) := (qce BK303.out 0).trans rfl
 have hfs9 := qbe BK303.out 0
 have hns9_0 := NB302_303.out
 have hms9_0 := NB303_302.out
 have hs10 : w8.cell? ⟨gb303, 1, none⟩ = some (.int .i64 0) := (qce BK303.out 1).trans rfl
 have hfs10 := qbe BK303.out 1
 have hns10_0 := NB302_303.out
 have hms10_0 := NB303_302.out
 refine skip_ (w1 := ?_) (by rfl) rfl ?_ ?_
 rotate_left
 ·go_simp
  rfl
 refine hK.out _ _ ⟨((qie (p := ⟨gb303, _, none⟩) NB302_303.out _).trans (((qie (p := ⟨gb303, _, none⟩) NB302_303.out _).trans (hHeld.1)))), ((qie (p := ⟨gb303, _, none⟩) NB302_303.out _).trans (((qie (p := ⟨gb303, _, none⟩) NB302_303.out _).trans (hHeld.2.1)))), ((qie (p := ⟨gb303, _, none⟩) NB302_303.out _).trans (((qie (p := ⟨gb303, _, none⟩) NB302_303.out _).trans (hHeld.2.2.1)))), ((qie (p := ⟨gb303, _, none⟩) NB302_303.out _).trans (((qie (p := ⟨gb303, _, none⟩) NB302_303.out _).trans (hHeld.2.2.2.1)))), ((qie (p := ⟨gb303, _, none⟩) NB302_303.out _).trans (((qie (p := ⟨gb303, _, none⟩) NB302_303.out _).trans (hHeld.2.2.2.2))))⟩ (fun hHeld => ?_)
 clear hK K
 refine pure_ (i := 7) (N := some 3) (v := ?_) (a' := ?_) #[true, true, true, true, true, true, true, true] rfl rfl (any_of HT_.out (by kernel_rfl)) (fun _ _ _ h => h) (Or.inl ⟨by rfl, ?_⟩) ?_ ?_
 rotate_left
 ·intro w'
  go_simp
  with_reducible rfl
 rotate_left
 ·simp only [Act.put, p1e, p2e, p3e, i64_w, i32_w]
  rfl
 refine done_ (done_of HT_.out (by kernel_rfl)) ?_
 try go_wp2
 refine bodyPost_ret (results_ct rfl _ _ gb303 25 #[.int .i64 t305, .int .i64 t306] (0, 0) _ rfl (by (with_reducible repeat (first | refine q5e ?_ _ | refine q6e ?_ | refine q7e ?_ _)); refine qfe (cs := #[.int .i64 t305, .int .i64 0]) ?_ 1 _ rfl; (with_reducible repeat (first | refine q5e ?_ _ | refine q6e ?_ | refine q7e ?_ _)); refine qfe (cs := #[.int .i64 0, .int .i64 0]) ?_ 0 _ rfl; (with_reducible repeat (first | refine q5e ?_ _ | refine q6e ?_ | refine q7e ?_ _)); exact BK303.out) Try.underlying25 rfl (by kernel_rfl)) rfl ?_
 exact ⟨by first | rfl | (simp [errW_none, errW_some] <;> rfl) | (simp [*, errW_none, errW_some] <;> rfl), by repeat (first | (with_reducible first | exact HB.out | apply q1e | apply q2e | apply q3e | refine q4e ?_ GE302.out | refine q4e ?_ GE303.out) | exact HB.out)⟩
end Go.Proofs.Ytkioodeeadhdaaa.PFnAim
