/- Plain functions and walks of the law FnMovedJet: each function answers as its plain function does. No condition beside. Out of the print, turned by program (wip/tools/fixnew). -/
import Derived.Test.YtlmgokicanlcpaaPFnMovedJetx0
import Derived.Test.YtlmgokicanlcpaaPFnMovedJetx1
namespace Go.Proofs.Ytlmgokicanlcpaa.PFnMovedJet
open Go.RowKit Go.Proofs.YtlmgokicanlcpaaW.PrintWords Go.Proofs.YtlmgokicanlcpaaW.PrintLast Go.Proofs.YtlmgokicanlcpaaW.PrintMore
attribute [local go_sem] max2_int min2_int max_two min_two max_three min_three max_four min_four   -- for this text's walks alone
set_option linter.unusedVariables false
set_option linter.unusedSimpArgs false

theorem p1c : type_of% @List.setIfInBounds_toArray := @List.setIfInBounds_toArray
theorem p2c : type_of% @List.set_cons_zero := @List.set_cons_zero
theorem p3c : type_of% @List.set_cons_succ := @List.set_cons_succ
theorem q1c : type_of% @below_alloc := @below_alloc
theorem q2c : type_of% @pw_below_drewN := @pw_below_drewN
theorem q3c : type_of% @below_drew1 := @below_drew1
theorem q4c : type_of% @below_set := @below_set
theorem q5c : type_of% @blk_drewN := @blk_drewN
theorem q6c : type_of% @blk_drew := @blk_drew
theorem q7c : type_of% @blk_alloc := @blk_alloc
theorem q8c : type_of% @blk_below := @blk_below
theorem q9c : type_of% @below_step := @below_step
theorem qac : type_of% @below_size := @below_size
theorem qbc : type_of% @blk_frozen := @blk_frozen
theorem qcc : type_of% @blk_cell := @blk_cell
theorem qdc : type_of% @blk_lt := @blk_lt
theorem qec : type_of% @blk_far := @blk_far
theorem qfc : type_of% @blk_put := @blk_put
theorem qgc : type_of% @Aside0.mk := @Aside0.mk
theorem qhc : type_of% @box_event := @box_event
theorem qic : type_of% @cell_far := @cell_far
theorem qkc : type_of% @Kd.R_alloc := @Kd.R_alloc
theorem qlc : type_of% @Kd.R_drewN := @Kd.R_drewN
theorem qmc : type_of% @Kd.R_drew := @Kd.R_drew
theorem qoc : type_of% @Kd.C_alloc := @Kd.C_alloc
theorem qrc : type_of% @Kd.C_drewN := @Kd.C_drewN
theorem qsc : type_of% @Kd.C_drew := @Kd.C_drew
theorem qtc : type_of% @gate_callee := @gate_callee
theorem quc : type_of% @gate_dst := @gate_dst
theorem qvc : type_of% @Nat.ne_of_lt := @Nat.ne_of_lt
theorem qwc : type_of% @Nat.ne_of_gt := @Nat.ne_of_gt
/-! ### impl_StepFrom: function 73 -/
def impl_StepFrom.j0 : Nat → Int → Int → Bool → Int → Int → Option (Int × Int × Bool)
  | 0, _, _, _, _, _ => none
  | k + 1, x1, x2, x21, x133000, x133001 => if x21 = true then (some (0, 0, false)) else ((impl_turned.f k x2 0 x1).bind fun bt137 => ((impl_checked.f (wrap64 (x133000 + bt137.1)) (wrap64 (x133001 + bt137.2))).bind fun bt140 => (some (bt140.1, bt140.2.1, bt140.2.2))))
def impl_StepFrom.f (k : Nat) (a0_0 : Int) (a0_1 : Int) (a1 : Int) (a2 : Int) : Option (Int × Int × Bool) := (impl_IsPlace.f a0_0 a0_1).bind fun t134 => (if t134 = true then ((impl_IsHeading.f a1).bind fun t135 => (if t135 = true then ((impl_IsMeasure.f a2).bind fun t136 => (impl_StepFrom.j0 k a1 a2 (!t136) a0_0 a0_1)) else (impl_StepFrom.j0 k a1 a2 true a0_0 a0_1))) else (impl_StepFrom.j0 k a1 a2 true a0_0 a0_1))
theorem impl_StepFrom.mono_l : ∀ k, (∀ y0 y1 y2 y3 y4, LeO (impl_StepFrom.j0 k y0 y1 y2 y3 y4) (impl_StepFrom.j0 (k + 1) y0 y1 y2 y3 y4))
  | 0 => fun _ _ _ _ _ r h => by simp [impl_StepFrom.j0] at h
  | k + 1 => by
    have ih0 := impl_StepFrom.mono_l k
    · intro y0 y1 y2 y3 y4
      unfold impl_StepFrom.j0
      repeat' first
      | (with_reducible exact ih0 _ _ _ _ _)
      | (with_reducible exact impl_turned.mono _ _ _ _)
      | (with_reducible exact LeO.refl _)
      | (with_reducible exact LeO.none _)
      | (with_reducible refine LeO.ite ?_ ?_)
      | (with_reducible refine LeO.bind ?_ (fun _ => ?_))
      | exact ih0 _ _ _ _ _
      | exact impl_turned.mono _ _ _ _
      | exact LeO.none _
      | refine LeO.ite ?_ ?_
      | refine LeO.bind ?_ (fun _ => ?_)
theorem impl_StepFrom.mono : ∀ a0 a1 a2 a3 k, LeO (impl_StepFrom.f k a0 a1 a2 a3) (impl_StepFrom.f (k + 1) a0 a1 a2 a3) := by
  intro a0 a1 a2 a3 k
  have ih0 := impl_StepFrom.mono_l k
  unfold impl_StepFrom.f
  repeat' first
      | (with_reducible exact ih0 _ _ _ _ _)
      | (with_reducible exact impl_turned.mono _ _ _ _)
      | (with_reducible exact LeO.refl _)
      | (with_reducible exact LeO.none _)
      | (with_reducible refine LeO.ite ?_ ?_)
      | (with_reducible refine LeO.bind ?_ (fun _ => ?_))
      | exact ih0 _ _ _ _ _
      | exact impl_turned.mono _ _ _ _
      | exact LeO.none _
      | refine LeO.ite ?_ ?_
      | refine LeO.bind ?_ (fun _ => ?_)
set_option maxHeartbeats 8000000 in
set_option maxRecDepth 100000 in
theorem impl_StepFrom.calls (k : Nat) (a0_0 : Int) (a0_1 : Int) (a1 : Int) (a2 : Int) (r1 : Int) (r2 : Int) (r3 : Bool) (w : World) (h : impl_StepFrom.f k a0_0 a0_1 a1 a2 = some (r1, r2, r3)) :
 Calls Try.prog 73 #[.agg #[.int .i64 a0_0, .int .i64 a0_1], .int .i64 a1, .int .i64 a2] w fun e w' => e = .returned (.tuple #[.agg #[.int .i64 r1, .int .i64 r2], .bool r3]) ∧ Below w.heap.size w w' := by
 have hu26 := Try.underlying26
 have HB := qgc (Below.refl w.heap.size w)
 have H : ((impl_IsPlace.f a0_0 a0_1).bind fun t134 => (if t134 = true then ((impl_IsHeading.f a1).bind fun t135 => (if t135 = true then ((impl_IsMeasure.f a2).bind fun t136 => (impl_StepFrom.j0 k a1 a2 (!t136) a0_0 a0_1)) else (impl_StepFrom.j0 k a1 a2 true a0_0 a0_1))) else (impl_StepFrom.j0 k a1 a2 true a0_0 a0_1))) = some (r1, r2, r3) := h
 clear h
 have HC4 := qgc H
 clear H
 go_enter Try.func73, Try.ntmps73
 go_upto_region 1 with (first | ((with_reducible refine quc (N := 3) rfl ?_); refine qhc ?hg (N := 3) ?hd (cs := #[.int .i64 a0_0, .int .i64 a0_1]) (t := 26) ?hr ?_; (case hd => rfl); (case hg => rfl); (case hr => first | (go_simp; done) | (go_simp; rfl)); intro gb132 hg w5 hbox hb; have n0_ := qgc (q9c (by repeat (first | (with_reducible first | exact HB.out | apply q1c | apply q2c | apply q3c) | exact HB.out)) hb); have n1_ := qgc (hbox); have n2_ := qgc ((by rw [hg]; exact (qac (by repeat (first | (with_reducible first | exact HB.out | apply q1c | apply q2c | apply q3c) | exact HB.out))) : w.heap.size ≤ gb132)); have n3_ := qgc ((by rw [hg]; exact (qac (by repeat (first | (with_reducible first | exact HB.out | apply q1c | apply q2c | apply q3c) | exact HB.out))) : w.heap.size ≤ gb132)); clear HB; have HB := n0_; have BK132 := n1_; have GW132 := n2_; have GE132 := n3_; clear n0_ n1_ n2_ n3_; clear hb hbox hg) | ((with_reducible refine quc (N := 6) rfl ?_); refine qhc ?hg (N := 6) ?hd (cs := #[.int .i64 0, .int .i64 0]) (t := 26) ?hr ?_; (case hd => rfl); (case hg => rfl); (case hr => first | (go_simp; done) | (go_simp; rfl)); intro gb133 hg w6 hbox hb; have n0_ := qgc (q8c (g := gb132) (o := .cells #[.int .i64 a0_0, .int .i64 a0_1] 26 (0, 0)) (by (with_reducible repeat (first | refine q5c ?_ _ | refine q6c ?_ | refine q7c ?_ _)); exact BK132.out) hb); have n1_ := qgc (q9c (by repeat (first | (with_reducible first | exact HB.out | apply q1c | apply q2c | apply q3c | refine q4c ?_ GE132.out) | exact HB.out)) hb); have n2_ := qgc (hbox); have n3_ := qgc ((by rw [hg]; exact (qac (by repeat (first | (with_reducible first | exact HB.out | apply q1c | apply q2c | apply q3c | refine q4c ?_ GE132.out) | exact HB.out))) : w.heap.size ≤ gb133)); have n4_ := qgc ((by rw [hg]; exact (qac (by repeat (first | (with_reducible first | exact HB.out | apply q1c | apply q2c | apply q3c | refine q4c ?_ GE132.out) | exact HB.out))) : w.heap.size ≤ gb133)); have n5_ := qgc ((by rw [hg]; exact qvc (qdc (g := gb132) (o := .cells #[.int .i64 a0_0, .int .i64 a0_1] 26 (0, 0)) (by (with_reducible repeat (first | refine q5c ?_ _ | refine q6c ?_ | refine q7c ?_ _)); exact BK132.out)) : gb132 ≠ gb133)); have n6_ := qgc ((by rw [hg]; exact qwc (qdc (g := gb132) (o := .cells #[.int .i64 a0_0, .int .i64 a0_1] 26 (0, 0)) (by (with_reducible repeat (first | refine q5c ?_ _ | refine q6c ?_ | refine q7c ?_ _)); exact BK132.out)) : gb133 ≠ gb132)); clear BK132; clear HB; have BK132 := n0_; have HB := n1_; have BK133 := n2_; have GW133 := n3_; have GE133 := n4_; have NB132_133 := n5_; have NB133_132 := n6_; clear n0_ n1_ n2_ n3_ n4_ n5_ n6_; clear hb hbox hg))
 (try simp only [Act.put, p1c, p2c, p3c])
 go_cut [21] (fun v21 wc => ∃ (kq : Nat) (x21_3 : Bool), v21 = .bool x21_3 ∧ Aside0 (impl_StepFrom.j0 kq a1 a2 x21_3 a0_0 a0_1 = some (r1, r2, r3)) ∧ Aside0 (kq ≤ k) ∧ Aside0 (wc.heap[gb132]? = some (.cells #[.int .i64 a0_0, .int .i64 a0_1] 26 (0, 0))) ∧ Aside0 (wc.heap[gb133]? = some (.cells #[.int .i64 0, .int .i64 0] 26 (0, 0))) ∧ Aside0 (Below w.heap.size w wc))
 case first =>
  have H := HC4.out
  clear HC4
  replace H := Option.bind_eq_some_iff.mp H
  obtain ⟨t134, A70, H⟩ := H
  replace H : (if t134 = true then ((impl_IsHeading.f a1).bind fun t135 => (if t135 = true then ((impl_IsMeasure.f a2).bind fun t136 => (impl_StepFrom.j0 k a1 a2 (!t136) a0_0 a0_1)) else (impl_StepFrom.j0 k a1 a2 true a0_0 a0_1))) else (impl_StepFrom.j0 k a1 a2 true a0_0 a0_1)) = some (r1, r2, r3) := H
  have A7 := qgc A70
  clear A70
  by_cases c8 : t134 = true
  ·subst c8
   have H1 : ((impl_IsHeading.f a1).bind fun t135 => (if t135 = true then ((impl_IsMeasure.f a2).bind fun t136 => (impl_StepFrom.j0 k a1 a2 (!t136) a0_0 a0_1)) else (impl_StepFrom.j0 k a1 a2 true a0_0 a0_1))) = some (r1, r2, r3) := by rw [if_pos rfl] at H; exact H
   clear H
   have H := H1
   clear H1
   replace H := Option.bind_eq_some_iff.mp H
   obtain ⟨t135, A90, H⟩ := H
   replace H : (if t135 = true then ((impl_IsMeasure.f a2).bind fun t136 => (impl_StepFrom.j0 k a1 a2 (!t136) a0_0 a0_1)) else (impl_StepFrom.j0 k a1 a2 true a0_0 a0_1)) = some (r1, r2, r3) := H
   have A9 := qgc A90
   clear A90
   by_cases c10 : t135 = true
   ·subst c10
    have H1 : ((impl_IsMeasure.f a2).bind fun t136 => (impl_StepFrom.j0 k a1 a2 (!t136) a0_0 a0_1)) = some (r1, r2, r3) := by rw [if_pos rfl] at H; exact H
    clear H
    have H := H1
    clear H1
    replace H := Option.bind_eq_some_iff.mp H
    obtain ⟨t136, A110, H⟩ := H
    replace H : (impl_StepFrom.j0 k a1 a2 (!t136) a0_0 a0_1) = some (r1, r2, r3) := H
    have A11 := qgc A110
    clear A110
    have H' := qgc H
    clear H
    have hnb12 := NB132_133.out
    have hnc12 := NB133_132.out
    have hcz13_0 : w6.cell? ⟨gb132, 0, none⟩ = some (.int .i64 a0_0) := (qcc BK132.out 0).trans rfl
    have hcz13_1 : w6.cell? ⟨gb132, 1, none⟩ = some (.int .i64 a0_1) := (qcc BK132.out 1).trans rfl
    have hfz13_0 := qbc BK132.out 0
    have hfz13_1 := qbc BK132.out 1
    go_wp2_with (first | ((with_reducible refine qtc (f := 69) rfl ?_); refine goesL_ (some 10) rfl rfl Try.func69 (by kernel_rfl) rfl #[.agg #[.int .i64 a0_0, .int .i64 a0_1]] rfl (by (try simp only [List.map_toArray, List.map_cons, List.map_nil]); first | done | rfl | (simp only [List.length_drop, List.length_take]; rfl)) ?_; (with_reducible refine (impl_IsPlace.calls a0_0 a0_1 true _ A7.out).mono ?_); rintro e w14 ⟨rfl, hb⟩; refine ⟨_, rfl, ?_⟩; have n0_ := qgc (q8c (g := gb132) (o := .cells #[.int .i64 a0_0, .int .i64 a0_1] 26 (0, 0)) (by (with_reducible repeat (first | refine q5c ?_ _ | refine q6c ?_ | refine q7c ?_ _)); exact BK132.out) hb); have n1_ := qgc (q8c (g := gb133) (o := .cells #[.int .i64 0, .int .i64 0] 26 (0, 0)) (by (with_reducible repeat (first | refine q5c ?_ _ | refine q6c ?_ | refine q7c ?_ _)); exact BK133.out) hb); have n2_ := qgc (q9c (by repeat (first | (with_reducible first | exact HB.out | apply q1c | apply q2c | apply q3c | refine q4c ?_ GE132.out | refine q4c ?_ GE133.out) | exact HB.out)) hb); clear BK132; clear BK133; clear HB; have BK132 := n0_; have BK133 := n1_; have HB := n2_; clear n0_ n1_ n2_; (try clear hb); (try clear hb2); (try clear hk); (try clear hi)) | (go_at_call 91; (with_reducible refine (impl_IsHeading.calls a1 true _ A9.out).mono ?_); rintro e w' ⟨rfl, ⟨nd, rfl⟩⟩) | (go_at_call 98; (with_reducible refine (impl_IsMeasure.calls a2 t136 _ A11.out).mono ?_); rintro e w' ⟨rfl, ⟨nd, rfl⟩⟩))
    go_meet
    case rel => exact ⟨_, (!t136), (by first | rfl | (simp; done) | (simp [*]; done)), H', ⟨by first | omega | exact Nat.le_refl _⟩, ⟨by (with_reducible repeat (first | refine q5c ?_ _ | refine q6c ?_ | refine q7c ?_ _)); exact BK132.out⟩, ⟨by (with_reducible repeat (first | refine q5c ?_ _ | refine q6c ?_ | refine q7c ?_ _)); exact BK133.out⟩, ⟨by repeat (first | (with_reducible first | exact HB.out | apply q1c | apply q2c | apply q3c | refine q4c ?_ GE132.out | refine q4c ?_ GE133.out) | exact HB.out)⟩⟩
   ·replace c10 := Bool.eq_false_iff.mpr c10
    subst c10
    have H1 : (impl_StepFrom.j0 k a1 a2 true a0_0 a0_1) = some (r1, r2, r3) := by rw [if_neg (show ¬ (false = true) by decide)] at H; exact H
    clear H
    have H := H1
    clear H1
    have H' := qgc H
    clear H
    have hnb15 := NB132_133.out
    have hnc15 := NB133_132.out
    have hcz16_0 : w6.cell? ⟨gb132, 0, none⟩ = some (.int .i64 a0_0) := (qcc BK132.out 0).trans rfl
    have hcz16_1 : w6.cell? ⟨gb132, 1, none⟩ = some (.int .i64 a0_1) := (qcc BK132.out 1).trans rfl
    have hfz16_0 := qbc BK132.out 0
    have hfz16_1 := qbc BK132.out 1
    go_wp2_with (first | ((with_reducible refine qtc (f := 69) rfl ?_); refine goesL_ (some 10) rfl rfl Try.func69 (by kernel_rfl) rfl #[.agg #[.int .i64 a0_0, .int .i64 a0_1]] rfl (by (try simp only [List.map_toArray, List.map_cons, List.map_nil]); first | done | rfl | (simp only [List.length_drop, List.length_take]; rfl)) ?_; (with_reducible refine (impl_IsPlace.calls a0_0 a0_1 true _ A7.out).mono ?_); rintro e w17 ⟨rfl, hb⟩; refine ⟨_, rfl, ?_⟩; have n0_ := qgc (q8c (g := gb132) (o := .cells #[.int .i64 a0_0, .int .i64 a0_1] 26 (0, 0)) (by (with_reducible repeat (first | refine q5c ?_ _ | refine q6c ?_ | refine q7c ?_ _)); exact BK132.out) hb); have n1_ := qgc (q8c (g := gb133) (o := .cells #[.int .i64 0, .int .i64 0] 26 (0, 0)) (by (with_reducible repeat (first | refine q5c ?_ _ | refine q6c ?_ | refine q7c ?_ _)); exact BK133.out) hb); have n2_ := qgc (q9c (by repeat (first | (with_reducible first | exact HB.out | apply q1c | apply q2c | apply q3c | refine q4c ?_ GE132.out | refine q4c ?_ GE133.out) | exact HB.out)) hb); clear BK132; clear BK133; clear HB; have BK132 := n0_; have BK133 := n1_; have HB := n2_; clear n0_ n1_ n2_; (try clear hb); (try clear hb2); (try clear hk); (try clear hi)) | (go_at_call 91; (with_reducible refine (impl_IsHeading.calls a1 false _ A9.out).mono ?_); rintro e w' ⟨rfl, ⟨nd, rfl⟩⟩))
    go_meet
    case rel => exact ⟨_, (true), (by first | rfl | (simp; done) | (simp [*]; done)), H', ⟨by first | omega | exact Nat.le_refl _⟩, ⟨by (with_reducible repeat (first | refine q5c ?_ _ | refine q6c ?_ | refine q7c ?_ _)); exact BK132.out⟩, ⟨by (with_reducible repeat (first | refine q5c ?_ _ | refine q6c ?_ | refine q7c ?_ _)); exact BK133.out⟩, ⟨by repeat (first | (with_reducible first | exact HB.out | apply q1c | apply q2c | apply q3c | refine q4c ?_ GE132.out | refine q4c ?_ GE133.out) | exact HB.out)⟩⟩
  ·replace c8 := Bool.eq_false_iff.mpr c8
   subst c8
   have H1 : (impl_StepFrom.j0 k a1 a2 true a0_0 a0_1) = some (r1, r2, r3) := by rw [if_neg (show ¬ (false = true) by decide)] at H; exact H
   clear H
   have H := H1
   clear H1
   have H' := qgc H
   clear H
   have hnb18 := NB132_133.out
   have hnc18 := NB133_132.out
   have hcz19_0 : w6.cell? ⟨gb132, 0, none⟩ = some (.int .i64 a0_0) := (qcc BK132.out 0).trans rfl
   have hcz19_1 : w6.cell? ⟨gb132, 1, none⟩ = some (.int .i64 a0_1) := (qcc BK132.out 1).trans rfl
   have hfz19_0 := qbc BK132.out 0
   have hfz19_1 := qbc BK132.out 1
   go_wp2_with (first | ((with_reducible refine qtc (f := 69) rfl ?_); refine goesL_ (some 10) rfl rfl Try.func69 (by kernel_rfl) rfl #[.agg #[.int .i64 a0_0, .int .i64 a0_1]] rfl (by (try simp only [List.map_toArray, List.map_cons, List.map_nil]); first | done | rfl | (simp only [List.length_drop, List.length_take]; rfl)) ?_; (with_reducible refine (impl_IsPlace.calls a0_0 a0_1 false _ A7.out).mono ?_); rintro e w20 ⟨rfl, hb⟩; refine ⟨_, rfl, ?_⟩; have n0_ := qgc (q8c (g := gb132) (o := .cells #[.int .i64 a0_0, .int .i64 a0_1] 26 (0, 0)) (by (with_reducible repeat (first | refine q5c ?_ _ | refine q6c ?_ | refine q7c ?_ _)); exact BK132.out) hb); have n1_ := qgc (q8c (g := gb133) (o := .cells #[.int .i64 0, .int .i64 0] 26 (0, 0)) (by (with_reducible repeat (first | refine q5c ?_ _ | refine q6c ?_ | refine q7c ?_ _)); exact BK133.out) hb); have n2_ := qgc (q9c (by repeat (first | (with_reducible first | exact HB.out | apply q1c | apply q2c | apply q3c | refine q4c ?_ GE132.out | refine q4c ?_ GE133.out) | exact HB.out)) hb); clear BK132; clear BK133; clear HB; have BK132 := n0_; have BK133 := n1_; have HB := n2_; clear n0_ n1_ n2_; (try clear hb); (try clear hb2); (try clear hk); (try clear hi)))
   go_meet
   case rel => exact ⟨_, (true), (by first | rfl | (simp; done) | (simp [*]; done)), H', ⟨by first | omega | exact Nat.le_refl _⟩, ⟨by (with_reducible repeat (first | refine q5c ?_ _ | refine q6c ?_ | refine q7c ?_ _)); exact BK132.out⟩, ⟨by (with_reducible repeat (first | refine q5c ?_ _ | refine q6c ?_ | refine q7c ?_ _)); exact BK133.out⟩, ⟨by repeat (first | (with_reducible first | exact HB.out | apply q1c | apply q2c | apply q3c | refine q4c ?_ GE132.out | refine q4c ?_ GE133.out) | exact HB.out)⟩⟩
 case rest =>
  clear HC4
  try clear c1
  try clear p2
  try clear c6
  try clear c7
  try clear c8
  try clear c10
  try clear c12
  try clear c15
  try clear c18
  try clear hcz13_0
  try clear hcz13_1
  try clear hcz16_0
  try clear hcz16_1
  try clear hcz19_0
  try clear hcz19_1
  try clear hfz13_0
  try clear hfz13_1
  try clear hfz16_0
  try clear hfz16_1
  try clear hfz19_0
  try clear hfz19_1
  obtain ⟨kq, x21_3, rfl, HA, HJ3, BK132, BK133, HB⟩ := hcut
  cases kq with
  | zero => exact absurd HA.out (by simp [impl_StepFrom.j0])
  | succ kj3 =>
   have H := HA.out
   clear HA
   simp only [impl_StepFrom.j0] at H
   by_cases c21 : x21_3 = true
   ·subst c21
    have H1 : (some (0, 0, false)) = some (r1, r2, r3) := by rw [if_pos rfl] at H; exact H
    clear H
    have H := H1
    clear H1
    simp only [Option.some.injEq, Prod.mk.injEq] at H
    obtain ⟨rfl, rfl, rfl⟩ := H
    have hnb22 := NB133_132.out
    have hnc22 := NB132_133.out
    have hcz23_0 : wc.cell? ⟨gb133, 0, none⟩ = some (.int .i64 0) := (qcc BK133.out 0).trans rfl
    have hcz23_1 : wc.cell? ⟨gb133, 1, none⟩ = some (.int .i64 0) := (qcc BK133.out 1).trans rfl
    have hfz23_0 := qbc BK133.out 0
    have hfz23_1 := qbc BK133.out 1
    go_wp2
    refine bodyPost_ret (results_ct rfl _ _ gb133 26 #[.int .i64 0, .int .i64 0] (0, 0) _ rfl (by (with_reducible repeat (first | refine q5c ?_ _ | refine q6c ?_ | refine q7c ?_ _)); refine qfc (cs := #[.int .i64 0, .int .i64 0]) ?_ 1 _ rfl; (with_reducible repeat (first | refine q5c ?_ _ | refine q6c ?_ | refine q7c ?_ _)); refine qfc (cs := #[.int .i64 0, .int .i64 0]) ?_ 0 _ rfl; (with_reducible repeat (first | refine q5c ?_ _ | refine q6c ?_ | refine q7c ?_ _)); exact BK133.out) Try.underlying26 rfl (by kernel_rfl)) rfl ?_
    exact ⟨by first | rfl | (simp [errW_none, errW_some] <;> rfl) | (simp [*, errW_none, errW_some] <;> rfl), by repeat (first | (with_reducible first | exact HB.out | apply q1c | apply q2c | apply q3c | refine q4c ?_ GE132.out | refine q4c ?_ GE133.out) | exact HB.out)⟩
   ·replace c21 := Bool.eq_false_iff.mpr c21
    subst c21
    have H1 : ((impl_turned.f kj3 a2 0 a1).bind fun bt137 => ((impl_checked.f (wrap64 (a0_0 + bt137.1)) (wrap64 (a0_1 + bt137.2))).bind fun bt140 => (some (bt140.1, bt140.2.1, bt140.2.2)))) = some (r1, r2, r3) := by rw [if_neg (show ¬ (false = true) by decide)] at H; exact H
    clear H
    have H := H1
    clear H1
    replace H := Option.bind_eq_some_iff.mp H
    obtain ⟨⟨t137, t138⟩, A240, H⟩ := H
    replace H : ((impl_checked.f (wrap64 (a0_0 + t137)) (wrap64 (a0_1 + t138))).bind fun bt140 => (some (bt140.1, bt140.2.1, bt140.2.2))) = some (r1, r2, r3) := H
    have A24 := qgc A240
    clear A240
    replace H := Option.bind_eq_some_iff.mp H
    obtain ⟨⟨t140, t141, t142⟩, A250, H⟩ := H
    replace H : (some (t140, t141, t142)) = some (r1, r2, r3) := H
    have A25 := qgc A250
    clear A250
    simp only [Option.some.injEq, Prod.mk.injEq] at H
    obtain ⟨rfl, rfl, rfl⟩ := H
    go_wp2_with (first | ((with_reducible refine qtc (f := 64) rfl ?_); refine goesL_ (some 26) rfl rfl Try.func64 (by kernel_rfl) rfl #[.agg #[.int .i64 a2, .int .i64 0], .int .i64 a1] rfl (by (try simp only [List.map_toArray, List.map_cons, List.map_nil]); first | done | rfl | (simp only [List.length_drop, List.length_take]; rfl)) ?_; (with_reducible refine (impl_turned.calls kj3 a2 0 a1 t137 t138 _ A24.out).mono ?_); rintro e w26 ⟨rfl, hb⟩; refine ⟨_, rfl, ?_⟩; have n0_ := qgc (q8c (g := gb132) (o := .cells #[.int .i64 a0_0, .int .i64 a0_1] 26 (0, 0)) (by (with_reducible repeat (first | refine q5c ?_ _ | refine q6c ?_ | refine q7c ?_ _)); exact BK132.out) hb); have n1_ := qgc (q8c (g := gb133) (o := .cells #[.int .i64 0, .int .i64 0] 26 (0, 0)) (by (with_reducible repeat (first | refine q5c ?_ _ | refine q6c ?_ | refine q7c ?_ _)); exact BK133.out) hb); have n2_ := qgc (q9c (by repeat (first | (with_reducible first | exact HB.out | apply q1c | apply q2c | apply q3c | refine q4c ?_ GE132.out | refine q4c ?_ GE133.out) | exact HB.out)) hb); clear BK132; clear BK133; clear HB; have BK132 := n0_; have BK133 := n1_; have HB := n2_; clear n0_ n1_ n2_; (try clear hb); (try clear hb2); (try clear hk); (try clear hi)) | ((with_reducible refine quc (N := 8) rfl ?_); refine qhc ?hg (N := 8) ?hd (cs := #[.int .i64 0, .int .i64 0]) (t := 26) ?hr ?_; (case hd => rfl); (case hg => rfl); (case hr => first | (go_simp; done) | (go_simp; rfl)); intro gb139 hg w27 hbox hb; have n0_ := qgc (q8c (g := gb132) (o := .cells #[.int .i64 a0_0, .int .i64 a0_1] 26 (0, 0)) (by (with_reducible repeat (first | refine q5c ?_ _ | refine q6c ?_ | refine q7c ?_ _)); exact BK132.out) hb); have n1_ := qgc (q8c (g := gb133) (o := .cells #[.int .i64 0, .int .i64 0] 26 (0, 0)) (by (with_reducible repeat (first | refine q5c ?_ _ | refine q6c ?_ | refine q7c ?_ _)); exact BK133.out) hb); have n2_ := qgc (q9c (by repeat (first | (with_reducible first | exact HB.out | apply q1c | apply q2c | apply q3c | refine q4c ?_ GE132.out | refine q4c ?_ GE133.out) | exact HB.out)) hb); have n3_ := qgc (hbox); have n4_ := qgc ((by rw [hg]; exact (qac (by repeat (first | (with_reducible first | exact HB.out | apply q1c | apply q2c | apply q3c | refine q4c ?_ GE132.out | refine q4c ?_ GE133.out) | exact HB.out))) : w.heap.size ≤ gb139)); have n5_ := qgc ((by rw [hg]; exact (qac (by repeat (first | (with_reducible first | exact HB.out | apply q1c | apply q2c | apply q3c | refine q4c ?_ GE132.out | refine q4c ?_ GE133.out) | exact HB.out))) : w.heap.size ≤ gb139)); have n6_ := qgc ((by rw [hg]; exact qvc (qdc (g := gb132) (o := .cells #[.int .i64 a0_0, .int .i64 a0_1] 26 (0, 0)) (by (with_reducible repeat (first | refine q5c ?_ _ | refine q6c ?_ | refine q7c ?_ _)); exact BK132.out)) : gb132 ≠ gb139)); have n7_ := qgc ((by rw [hg]; exact qwc (qdc (g := gb132) (o := .cells #[.int .i64 a0_0, .int .i64 a0_1] 26 (0, 0)) (by (with_reducible repeat (first | refine q5c ?_ _ | refine q6c ?_ | refine q7c ?_ _)); exact BK132.out)) : gb139 ≠ gb132)); have n8_ := qgc ((by rw [hg]; exact qvc (qdc (g := gb133) (o := .cells #[.int .i64 0, .int .i64 0] 26 (0, 0)) (by (with_reducible repeat (first | refine q5c ?_ _ | refine q6c ?_ | refine q7c ?_ _)); exact BK133.out)) : gb133 ≠ gb139)); have n9_ := qgc ((by rw [hg]; exact qwc (qdc (g := gb133) (o := .cells #[.int .i64 0, .int .i64 0] 26 (0, 0)) (by (with_reducible repeat (first | refine q5c ?_ _ | refine q6c ?_ | refine q7c ?_ _)); exact BK133.out)) : gb139 ≠ gb133)); clear BK132; clear BK133; clear HB; have BK132 := n0_; have BK133 := n1_; have HB := n2_; have BK139 := n3_; have GW139 := n4_; have GE139 := n5_; have NB132_139 := n6_; have NB139_132 := n7_; have NB133_139 := n8_; have NB139_133 := n9_; clear n0_ n1_ n2_ n3_ n4_ n5_ n6_ n7_ n8_ n9_; clear hb hbox hg; have hnb28 := NB139_132.out; have hnc28 := NB132_139.out; have hnb29 := NB139_133.out; have hnc29 := NB133_139.out; have hcz30_0 : w27.cell? ⟨gb139, 0, none⟩ = some (.int .i64 0) := (qcc BK139.out 0).trans rfl; have hcz30_1 : w27.cell? ⟨gb139, 1, none⟩ = some (.int .i64 0) := (qcc BK139.out 1).trans rfl; have hfz30_0 := qbc BK139.out 0; have hfz30_1 := qbc BK139.out 1; have hnb31 := NB132_133.out; have hnc31 := NB133_132.out; have hcz32_0 : w27.cell? ⟨gb132, 0, none⟩ = some (.int .i64 a0_0) := (qcc BK132.out 0).trans rfl; have hcz32_1 : w27.cell? ⟨gb132, 1, none⟩ = some (.int .i64 a0_1) := (qcc BK132.out 1).trans rfl; have hfz32_0 := qbc BK132.out 0; have hfz32_1 := qbc BK132.out 1) | ((with_reducible refine qtc (f := 99) rfl ?_); refine goesL_ (some 38) rfl rfl Try.func99 (by kernel_rfl) rfl #[.agg #[.int .i64 (wrap64 (a0_0 + t137)), .int .i64 (wrap64 (a0_1 + t138))]] rfl (by (try simp only [List.map_toArray, List.map_cons, List.map_nil]); first | done | rfl | (simp only [List.length_drop, List.length_take]; rfl)) ?_; (with_reducible refine (impl_checked.calls (wrap64 (a0_0 + t137)) (wrap64 (a0_1 + t138)) t140 t141 t142 _ A25.out).mono ?_); rintro e w33 ⟨rfl, hb⟩; refine ⟨_, rfl, ?_⟩; have n0_ := qgc (q8c (g := gb132) (o := .cells #[.int .i64 a0_0, .int .i64 a0_1] 26 (0, 0)) (by (with_reducible repeat (first | refine q5c ?_ _ | refine q6c ?_ | refine q7c ?_ _)); refine qec ?_ NB132_139.out _; (with_reducible repeat (first | refine q5c ?_ _ | refine q6c ?_ | refine q7c ?_ _)); refine qec ?_ NB132_139.out _; (with_reducible repeat (first | refine q5c ?_ _ | refine q6c ?_ | refine q7c ?_ _)); exact BK132.out) hb); have n1_ := qgc (q8c (g := gb133) (o := .cells #[.int .i64 0, .int .i64 0] 26 (0, 0)) (by (with_reducible repeat (first | refine q5c ?_ _ | refine q6c ?_ | refine q7c ?_ _)); refine qec ?_ NB133_139.out _; (with_reducible repeat (first | refine q5c ?_ _ | refine q6c ?_ | refine q7c ?_ _)); refine qec ?_ NB133_139.out _; (with_reducible repeat (first | refine q5c ?_ _ | refine q6c ?_ | refine q7c ?_ _)); exact BK133.out) hb); have n2_ := qgc (q8c (g := gb139) (o := .cells #[.int .i64 t137, .int .i64 t138] 26 (0, 0)) (by (with_reducible repeat (first | refine q5c ?_ _ | refine q6c ?_ | refine q7c ?_ _)); refine qfc (cs := #[.int .i64 t137, .int .i64 0]) ?_ 1 _ rfl; (with_reducible repeat (first | refine q5c ?_ _ | refine q6c ?_ | refine q7c ?_ _)); refine qfc (cs := #[.int .i64 0, .int .i64 0]) ?_ 0 _ rfl; (with_reducible repeat (first | refine q5c ?_ _ | refine q6c ?_ | refine q7c ?_ _)); exact BK139.out) hb); have n3_ := qgc (q9c (by repeat (first | (with_reducible first | exact HB.out | apply q1c | apply q2c | apply q3c | refine q4c ?_ GE132.out | refine q4c ?_ GE133.out | refine q4c ?_ GE139.out) | exact HB.out)) hb); clear BK132; clear BK133; clear BK139; clear HB; have BK132 := n0_; have BK133 := n1_; have BK139 := n2_; have HB := n3_; clear n0_ n1_ n2_ n3_; (try clear hb); (try clear hb2); (try clear hk); (try clear hi); have hcz34_0 : w33.cell? ⟨gb133, 0, none⟩ = some (.int .i64 0) := (qcc BK133.out 0).trans rfl; have hcz34_1 : w33.cell? ⟨gb133, 1, none⟩ = some (.int .i64 0) := (qcc BK133.out 1).trans rfl; have hfz34_0 := qbc BK133.out 0; have hfz34_1 := qbc BK133.out 1))
    refine bodyPost_ret (results_ct rfl _ _ gb133 26 #[.int .i64 t140, .int .i64 t141] (0, 0) _ rfl (by (with_reducible repeat (first | refine q5c ?_ _ | refine q6c ?_ | refine q7c ?_ _)); refine qfc (cs := #[.int .i64 t140, .int .i64 0]) ?_ 1 _ rfl; (with_reducible repeat (first | refine q5c ?_ _ | refine q6c ?_ | refine q7c ?_ _)); refine qfc (cs := #[.int .i64 0, .int .i64 0]) ?_ 0 _ rfl; (with_reducible repeat (first | refine q5c ?_ _ | refine q6c ?_ | refine q7c ?_ _)); exact BK133.out) Try.underlying26 rfl (by kernel_rfl)) rfl ?_
    exact ⟨by first | rfl | (simp [errW_none, errW_some] <;> rfl) | (simp [*, errW_none, errW_some] <;> rfl), by repeat (first | (with_reducible first | exact HB.out | apply q1c | apply q2c | apply q3c | refine q4c ?_ GE132.out | refine q4c ?_ GE133.out | refine q4c ?_ GE139.out) | exact HB.out)⟩
/-! ### impl_PlaceAt: function 26 -/
def impl_PlaceAt.f (k : Nat) (a0_0 : Int) (a0_1 : Int) (a0_2 : Int) (a0_3 : Int) (a0_4 : Int) (a1 : Int) : Option (Int × Int × Bool) := (impl_isInAir.f a0_0 a0_1 a0_2 a0_3 a0_4 a1).bind fun t145 => (if t145 = true then ((impl_StepFrom.f k a0_0 a0_1 a0_2 (wrap64 (a1 * a0_3))).bind fun bt146 => (some (bt146.1, bt146.2.1, bt146.2.2))) else (some (0, 0, false)))
theorem impl_PlaceAt.mono : ∀ a0 a1 a2 a3 a4 a5 k, LeO (impl_PlaceAt.f k a0 a1 a2 a3 a4 a5) (impl_PlaceAt.f (k + 1) a0 a1 a2 a3 a4 a5) := by
  intro a0 a1 a2 a3 a4 a5 k
  unfold impl_PlaceAt.f
  repeat' first
      | (with_reducible exact impl_StepFrom.mono _ _ _ _ _)
      | (with_reducible exact LeO.refl _)
      | (with_reducible exact LeO.none _)
      | (with_reducible refine LeO.ite ?_ ?_)
      | (with_reducible refine LeO.bind ?_ (fun _ => ?_))
      | exact impl_StepFrom.mono _ _ _ _ _
      | exact LeO.none _
      | refine LeO.ite ?_ ?_
      | refine LeO.bind ?_ (fun _ => ?_)
set_option maxHeartbeats 8000000 in
set_option maxRecDepth 100000 in
theorem impl_PlaceAt.calls (k : Nat) (a0_0 : Int) (a0_1 : Int) (a0_2 : Int) (a0_3 : Int) (a0_4 : Int) (a1 : Int) (r1 : Int) (r2 : Int) (r3 : Bool) (w : World) (h : impl_PlaceAt.f k a0_0 a0_1 a0_2 a0_3 a0_4 a1 = some (r1, r2, r3)) :
 Calls Try.prog 26 #[.agg #[.int .i64 a0_0, .int .i64 a0_1, .int .i64 a0_2, .int .i64 a0_3, .int .i64 a0_4], .int .i64 a1] w fun e w' => e = .returned (.tuple #[.agg #[.int .i64 r1, .int .i64 r2], .bool r3]) ∧ Below w.heap.size w w' := by
 have hu28 := Try.underlying28
 have hu26 := Try.underlying26
 have HB := qgc (Below.refl w.heap.size w)
 have H : ((impl_isInAir.f a0_0 a0_1 a0_2 a0_3 a0_4 a1).bind fun t145 => (if t145 = true then ((impl_StepFrom.f k a0_0 a0_1 a0_2 (wrap64 (a1 * a0_3))).bind fun bt146 => (some (bt146.1, bt146.2.1, bt146.2.2))) else (some (0, 0, false)))) = some (r1, r2, r3) := h
 clear h
 replace H := Option.bind_eq_some_iff.mp H
 obtain ⟨t145, A30, H⟩ := H
 replace H : (if t145 = true then ((impl_StepFrom.f k a0_0 a0_1 a0_2 (wrap64 (a1 * a0_3))).bind fun bt146 => (some (bt146.1, bt146.2.1, bt146.2.2))) else (some (0, 0, false))) = some (r1, r2, r3) := H
 have A3 := qgc A30
 clear A30
 by_cases c4 : t145 = true
 ·subst c4
  have H1 : ((impl_StepFrom.f k a0_0 a0_1 a0_2 (wrap64 (a1 * a0_3))).bind fun bt146 => (some (bt146.1, bt146.2.1, bt146.2.2))) = some (r1, r2, r3) := by rw [if_pos rfl] at H; exact H
  clear H
  have H := H1
  clear H1
  replace H := Option.bind_eq_some_iff.mp H
  obtain ⟨⟨t146, t147, t148⟩, A50, H⟩ := H
  replace H : (some (t146, t147, t148)) = some (r1, r2, r3) := H
  have A5 := qgc A50
  clear A50
  simp only [Option.some.injEq, Prod.mk.injEq] at H
  obtain ⟨rfl, rfl, rfl⟩ := H
  go_enter Try.func26, Try.ntmps26
  go_wp2_with (first | ((with_reducible refine quc (N := 2) rfl ?_); refine qhc ?hg (N := 2) ?hd (cs := #[.int .i64 a0_0, .int .i64 a0_1, .int .i64 a0_2, .int .i64 a0_3, .int .i64 a0_4]) (t := 28) ?hr ?_; (case hd => rfl); (case hg => rfl); (case hr => first | (go_simp; done) | (go_simp; rfl)); intro gb143 hg w6 hbox hb; have n0_ := qgc (q9c (by repeat (first | (with_reducible first | exact HB.out | apply q1c | apply q2c | apply q3c) | exact HB.out)) hb); have n1_ := qgc (hbox); have n2_ := qgc ((by rw [hg]; exact (qac (by repeat (first | (with_reducible first | exact HB.out | apply q1c | apply q2c | apply q3c) | exact HB.out))) : w.heap.size ≤ gb143)); have n3_ := qgc ((by rw [hg]; exact (qac (by repeat (first | (with_reducible first | exact HB.out | apply q1c | apply q2c | apply q3c) | exact HB.out))) : w.heap.size ≤ gb143)); clear HB; have HB := n0_; have BK143 := n1_; have GW143 := n2_; have GE143 := n3_; clear n0_ n1_ n2_ n3_; clear hb hbox hg) | ((with_reducible refine quc (N := 4) rfl ?_); refine qhc ?hg (N := 4) ?hd (cs := #[.int .i64 0, .int .i64 0]) (t := 26) ?hr ?_; (case hd => rfl); (case hg => rfl); (case hr => first | (go_simp; done) | (go_simp; rfl)); intro gb144 hg w7 hbox hb; have n0_ := qgc (q8c (g := gb143) (o := .cells #[.int .i64 a0_0, .int .i64 a0_1, .int .i64 a0_2, .int .i64 a0_3, .int .i64 a0_4] 28 (0, 0)) (by (with_reducible repeat (first | refine q5c ?_ _ | refine q6c ?_ | refine q7c ?_ _)); exact BK143.out) hb); have n1_ := qgc (q9c (by repeat (first | (with_reducible first | exact HB.out | apply q1c | apply q2c | apply q3c | refine q4c ?_ GE143.out) | exact HB.out)) hb); have n2_ := qgc (hbox); have n3_ := qgc ((by rw [hg]; exact (qac (by repeat (first | (with_reducible first | exact HB.out | apply q1c | apply q2c | apply q3c | refine q4c ?_ GE143.out) | exact HB.out))) : w.heap.size ≤ gb144)); have n4_ := qgc ((by rw [hg]; exact (qac (by repeat (first | (with_reducible first | exact HB.out | apply q1c | apply q2c | apply q3c | refine q4c ?_ GE143.out) | exact HB.out))) : w.heap.size ≤ gb144)); have n5_ := qgc ((by rw [hg]; exact qvc (qdc (g := gb143) (o := .cells #[.int .i64 a0_0, .int .i64 a0_1, .int .i64 a0_2, .int .i64 a0_3, .int .i64 a0_4] 28 (0, 0)) (by (with_reducible repeat (first | refine q5c ?_ _ | refine q6c ?_ | refine q7c ?_ _)); exact BK143.out)) : gb143 ≠ gb144)); have n6_ := qgc ((by rw [hg]; exact qwc (qdc (g := gb143) (o := .cells #[.int .i64 a0_0, .int .i64 a0_1, .int .i64 a0_2, .int .i64 a0_3, .int .i64 a0_4] 28 (0, 0)) (by (with_reducible repeat (first | refine q5c ?_ _ | refine q6c ?_ | refine q7c ?_ _)); exact BK143.out)) : gb144 ≠ gb143)); clear BK143; clear HB; have BK143 := n0_; have HB := n1_; have BK144 := n2_; have GW144 := n3_; have GE144 := n4_; have NB143_144 := n5_; have NB144_143 := n6_; clear n0_ n1_ n2_ n3_ n4_ n5_ n6_; clear hb hbox hg; have hnb8 := NB143_144.out; have hnc8 := NB144_143.out; have hcz9_0 : w7.cell? ⟨gb143, 0, none⟩ = some (.int .i64 a0_0) := (qcc BK143.out 0).trans rfl; have hcz9_1 : w7.cell? ⟨gb143, 1, none⟩ = some (.int .i64 a0_1) := (qcc BK143.out 1).trans rfl; have hcz9_2 : w7.cell? ⟨gb143, 2, none⟩ = some (.int .i64 a0_2) := (qcc BK143.out 2).trans rfl; have hcz9_3 : w7.cell? ⟨gb143, 3, none⟩ = some (.int .i64 a0_3) := (qcc BK143.out 3).trans rfl; have hcz9_4 : w7.cell? ⟨gb143, 4, none⟩ = some (.int .i64 a0_4) := (qcc BK143.out 4).trans rfl; have hfz9_0 := qbc BK143.out 0; have hfz9_1 := qbc BK143.out 1; have hfz9_2 := qbc BK143.out 2; have hfz9_3 := qbc BK143.out 3; have hfz9_4 := qbc BK143.out 4) | ((with_reducible refine qtc (f := 72) rfl ?_); refine goesL_ (some 8) rfl rfl Try.func72 (by kernel_rfl) rfl #[.agg #[.int .i64 a0_0, .int .i64 a0_1, .int .i64 a0_2, .int .i64 a0_3, .int .i64 a0_4], .int .i64 a1] rfl (by (try simp only [List.map_toArray, List.map_cons, List.map_nil]); first | done | rfl | (simp only [List.length_drop, List.length_take]; rfl)) ?_; (with_reducible refine (impl_isInAir.calls a0_0 a0_1 a0_2 a0_3 a0_4 a1 true _ A3.out).mono ?_); rintro e w10 ⟨rfl, hb⟩; refine ⟨_, rfl, ?_⟩; have n0_ := qgc (q8c (g := gb143) (o := .cells #[.int .i64 a0_0, .int .i64 a0_1, .int .i64 a0_2, .int .i64 a0_3, .int .i64 a0_4] 28 (0, 0)) (by (with_reducible repeat (first | refine q5c ?_ _ | refine q6c ?_ | refine q7c ?_ _)); exact BK143.out) hb); have n1_ := qgc (q8c (g := gb144) (o := .cells #[.int .i64 0, .int .i64 0] 26 (0, 0)) (by (with_reducible repeat (first | refine q5c ?_ _ | refine q6c ?_ | refine q7c ?_ _)); exact BK144.out) hb); have n2_ := qgc (q9c (by repeat (first | (with_reducible first | exact HB.out | apply q1c | apply q2c | apply q3c | refine q4c ?_ GE143.out | refine q4c ?_ GE144.out) | exact HB.out)) hb); clear BK143; clear BK144; clear HB; have BK143 := n0_; have BK144 := n1_; have HB := n2_; clear n0_ n1_ n2_; (try clear hb); (try clear hb2); (try clear hk); (try clear hi); have hcz11_0 : w10.cell? ⟨gb143, 0, none⟩ = some (.int .i64 a0_0) := (qcc BK143.out 0).trans rfl; have hcz11_1 : w10.cell? ⟨gb143, 1, none⟩ = some (.int .i64 a0_1) := (qcc BK143.out 1).trans rfl; have hcz11_2 : w10.cell? ⟨gb143, 2, none⟩ = some (.int .i64 a0_2) := (qcc BK143.out 2).trans rfl; have hcz11_3 : w10.cell? ⟨gb143, 3, none⟩ = some (.int .i64 a0_3) := (qcc BK143.out 3).trans rfl; have hcz11_4 : w10.cell? ⟨gb143, 4, none⟩ = some (.int .i64 a0_4) := (qcc BK143.out 4).trans rfl; have hfz11_0 := qbc BK143.out 0; have hfz11_1 := qbc BK143.out 1; have hfz11_2 := qbc BK143.out 2; have hfz11_3 := qbc BK143.out 3; have hfz11_4 := qbc BK143.out 4) | ((with_reducible refine qtc (f := 73) rfl ?_); refine goesL_ (some 19) rfl rfl Try.func73 (by kernel_rfl) rfl #[.agg #[.int .i64 a0_0, .int .i64 a0_1], .int .i64 a0_2, .int .i64 (wrap64 (a1 * a0_3))] rfl (by (try simp only [List.map_toArray, List.map_cons, List.map_nil]); first | done | rfl | (simp only [List.length_drop, List.length_take]; rfl)) ?_; (with_reducible refine (impl_StepFrom.calls k a0_0 a0_1 a0_2 (wrap64 (a1 * a0_3)) t146 t147 t148 _ A5.out).mono ?_); rintro e w12 ⟨rfl, hb⟩; refine ⟨_, rfl, ?_⟩; have n0_ := qgc (q8c (g := gb143) (o := .cells #[.int .i64 a0_0, .int .i64 a0_1, .int .i64 a0_2, .int .i64 a0_3, .int .i64 a0_4] 28 (0, 0)) (by (with_reducible repeat (first | refine q5c ?_ _ | refine q6c ?_ | refine q7c ?_ _)); exact BK143.out) hb); have n1_ := qgc (q8c (g := gb144) (o := .cells #[.int .i64 0, .int .i64 0] 26 (0, 0)) (by (with_reducible repeat (first | refine q5c ?_ _ | refine q6c ?_ | refine q7c ?_ _)); exact BK144.out) hb); have n2_ := qgc (q9c (by repeat (first | (with_reducible first | exact HB.out | apply q1c | apply q2c | apply q3c | refine q4c ?_ GE143.out | refine q4c ?_ GE144.out) | exact HB.out)) hb); clear BK143; clear BK144; clear HB; have BK143 := n0_; have BK144 := n1_; have HB := n2_; clear n0_ n1_ n2_; (try clear hb); (try clear hb2); (try clear hk); (try clear hi); have hcz13_0 : w12.cell? ⟨gb144, 0, none⟩ = some (.int .i64 0) := (qcc BK144.out 0).trans rfl; have hcz13_1 : w12.cell? ⟨gb144, 1, none⟩ = some (.int .i64 0) := (qcc BK144.out 1).trans rfl; have hfz13_0 := qbc BK144.out 0; have hfz13_1 := qbc BK144.out 1))
  refine bodyPost_ret (results_ct rfl _ _ gb144 26 #[.int .i64 t146, .int .i64 t147] (0, 0) _ rfl (by (with_reducible repeat (first | refine q5c ?_ _ | refine q6c ?_ | refine q7c ?_ _)); refine qfc (cs := #[.int .i64 t146, .int .i64 0]) ?_ 1 _ rfl; (with_reducible repeat (first | refine q5c ?_ _ | refine q6c ?_ | refine q7c ?_ _)); refine qfc (cs := #[.int .i64 0, .int .i64 0]) ?_ 0 _ rfl; (with_reducible repeat (first | refine q5c ?_ _ | refine q6c ?_ | refine q7c ?_ _)); exact BK144.out) Try.underlying26 rfl (by kernel_rfl)) rfl ?_
  exact ⟨by first | rfl | (simp [errW_none, errW_some] <;> rfl) | (simp [*, errW_none, errW_some] <;> rfl), by repeat (first | (with_reducible first | exact HB.out | apply q1c | apply q2c | apply q3c | refine q4c ?_ GE143.out | refine q4c ?_ GE144.out) | exact HB.out)⟩
 ·replace c4 := Bool.eq_false_iff.mpr c4
  subst c4
  have H1 : (some (0, 0, false)) = some (r1, r2, r3) := by rw [if_neg (show ¬ (false = true) by decide)] at H; exact H
  clear H
  have H := H1
  clear H1
  simp only [Option.some.injEq, Prod.mk.injEq] at H
  obtain ⟨rfl, rfl, rfl⟩ := H
  go_enter Try.func26, Try.ntmps26
  go_wp2_with (first | ((with_reducible refine quc (N := 2) rfl ?_); refine qhc ?hg (N := 2) ?hd (cs := #[.int .i64 a0_0, .int .i64 a0_1, .int .i64 a0_2, .int .i64 a0_3, .int .i64 a0_4]) (t := 28) ?hr ?_; (case hd => rfl); (case hg => rfl); (case hr => first | (go_simp; done) | (go_simp; rfl)); intro gb143 hg w14 hbox hb; have n0_ := qgc (q9c (by repeat (first | (with_reducible first | exact HB.out | apply q1c | apply q2c | apply q3c) | exact HB.out)) hb); have n1_ := qgc (hbox); have n2_ := qgc ((by rw [hg]; exact (qac (by repeat (first | (with_reducible first | exact HB.out | apply q1c | apply q2c | apply q3c) | exact HB.out))) : w.heap.size ≤ gb143)); have n3_ := qgc ((by rw [hg]; exact (qac (by repeat (first | (with_reducible first | exact HB.out | apply q1c | apply q2c | apply q3c) | exact HB.out))) : w.heap.size ≤ gb143)); clear HB; have HB := n0_; have BK143 := n1_; have GW143 := n2_; have GE143 := n3_; clear n0_ n1_ n2_ n3_; clear hb hbox hg) | ((with_reducible refine quc (N := 4) rfl ?_); refine qhc ?hg (N := 4) ?hd (cs := #[.int .i64 0, .int .i64 0]) (t := 26) ?hr ?_; (case hd => rfl); (case hg => rfl); (case hr => first | (go_simp; done) | (go_simp; rfl)); intro gb144 hg w15 hbox hb; have n0_ := qgc (q8c (g := gb143) (o := .cells #[.int .i64 a0_0, .int .i64 a0_1, .int .i64 a0_2, .int .i64 a0_3, .int .i64 a0_4] 28 (0, 0)) (by (with_reducible repeat (first | refine q5c ?_ _ | refine q6c ?_ | refine q7c ?_ _)); exact BK143.out) hb); have n1_ := qgc (q9c (by repeat (first | (with_reducible first | exact HB.out | apply q1c | apply q2c | apply q3c | refine q4c ?_ GE143.out) | exact HB.out)) hb); have n2_ := qgc (hbox); have n3_ := qgc ((by rw [hg]; exact (qac (by repeat (first | (with_reducible first | exact HB.out | apply q1c | apply q2c | apply q3c | refine q4c ?_ GE143.out) | exact HB.out))) : w.heap.size ≤ gb144)); have n4_ := qgc ((by rw [hg]; exact (qac (by repeat (first | (with_reducible first | exact HB.out | apply q1c | apply q2c | apply q3c | refine q4c ?_ GE143.out) | exact HB.out))) : w.heap.size ≤ gb144)); have n5_ := qgc ((by rw [hg]; exact qvc (qdc (g := gb143) (o := .cells #[.int .i64 a0_0, .int .i64 a0_1, .int .i64 a0_2, .int .i64 a0_3, .int .i64 a0_4] 28 (0, 0)) (by (with_reducible repeat (first | refine q5c ?_ _ | refine q6c ?_ | refine q7c ?_ _)); exact BK143.out)) : gb143 ≠ gb144)); have n6_ := qgc ((by rw [hg]; exact qwc (qdc (g := gb143) (o := .cells #[.int .i64 a0_0, .int .i64 a0_1, .int .i64 a0_2, .int .i64 a0_3, .int .i64 a0_4] 28 (0, 0)) (by (with_reducible repeat (first | refine q5c ?_ _ | refine q6c ?_ | refine q7c ?_ _)); exact BK143.out)) : gb144 ≠ gb143)); clear BK143; clear HB; have BK143 := n0_; have HB := n1_; have BK144 := n2_; have GW144 := n3_; have GE144 := n4_; have NB143_144 := n5_; have NB144_143 := n6_; clear n0_ n1_ n2_ n3_ n4_ n5_ n6_; clear hb hbox hg; have hnb16 := NB143_144.out; have hnc16 := NB144_143.out; have hcz17_0 : w15.cell? ⟨gb143, 0, none⟩ = some (.int .i64 a0_0) := (qcc BK143.out 0).trans rfl; have hcz17_1 : w15.cell? ⟨gb143, 1, none⟩ = some (.int .i64 a0_1) := (qcc BK143.out 1).trans rfl; have hcz17_2 : w15.cell? ⟨gb143, 2, none⟩ = some (.int .i64 a0_2) := (qcc BK143.out 2).trans rfl; have hcz17_3 : w15.cell? ⟨gb143, 3, none⟩ = some (.int .i64 a0_3) := (qcc BK143.out 3).trans rfl; have hcz17_4 : w15.cell? ⟨gb143, 4, none⟩ = some (.int .i64 a0_4) := (qcc BK143.out 4).trans rfl; have hfz17_0 := qbc BK143.out 0; have hfz17_1 := qbc BK143.out 1; have hfz17_2 := qbc BK143.out 2; have hfz17_3 := qbc BK143.out 3; have hfz17_4 := qbc BK143.out 4) | ((with_reducible refine qtc (f := 72) rfl ?_); refine goesL_ (some 8) rfl rfl Try.func72 (by kernel_rfl) rfl #[.agg #[.int .i64 a0_0, .int .i64 a0_1, .int .i64 a0_2, .int .i64 a0_3, .int .i64 a0_4], .int .i64 a1] rfl (by (try simp only [List.map_toArray, List.map_cons, List.map_nil]); first | done | rfl | (simp only [List.length_drop, List.length_take]; rfl)) ?_; (with_reducible refine (impl_isInAir.calls a0_0 a0_1 a0_2 a0_3 a0_4 a1 false _ A3.out).mono ?_); rintro e w18 ⟨rfl, hb⟩; refine ⟨_, rfl, ?_⟩; have n0_ := qgc (q8c (g := gb143) (o := .cells #[.int .i64 a0_0, .int .i64 a0_1, .int .i64 a0_2, .int .i64 a0_3, .int .i64 a0_4] 28 (0, 0)) (by (with_reducible repeat (first | refine q5c ?_ _ | refine q6c ?_ | refine q7c ?_ _)); exact BK143.out) hb); have n1_ := qgc (q8c (g := gb144) (o := .cells #[.int .i64 0, .int .i64 0] 26 (0, 0)) (by (with_reducible repeat (first | refine q5c ?_ _ | refine q6c ?_ | refine q7c ?_ _)); exact BK144.out) hb); have n2_ := qgc (q9c (by repeat (first | (with_reducible first | exact HB.out | apply q1c | apply q2c | apply q3c | refine q4c ?_ GE143.out | refine q4c ?_ GE144.out) | exact HB.out)) hb); clear BK143; clear BK144; clear HB; have BK143 := n0_; have BK144 := n1_; have HB := n2_; clear n0_ n1_ n2_; (try clear hb); (try clear hb2); (try clear hk); (try clear hi); have hcz19_0 : w18.cell? ⟨gb144, 0, none⟩ = some (.int .i64 0) := (qcc BK144.out 0).trans rfl; have hcz19_1 : w18.cell? ⟨gb144, 1, none⟩ = some (.int .i64 0) := (qcc BK144.out 1).trans rfl; have hfz19_0 := qbc BK144.out 0; have hfz19_1 := qbc BK144.out 1))
  refine bodyPost_ret (results_ct rfl _ _ gb144 26 #[.int .i64 0, .int .i64 0] (0, 0) _ rfl (by (with_reducible repeat (first | refine q5c ?_ _ | refine q6c ?_ | refine q7c ?_ _)); refine qfc (cs := #[.int .i64 0, .int .i64 0]) ?_ 1 _ rfl; (with_reducible repeat (first | refine q5c ?_ _ | refine q6c ?_ | refine q7c ?_ _)); refine qfc (cs := #[.int .i64 0, .int .i64 0]) ?_ 0 _ rfl; (with_reducible repeat (first | refine q5c ?_ _ | refine q6c ?_ | refine q7c ?_ _)); exact BK144.out) Try.underlying26 rfl (by kernel_rfl)) rfl ?_
  exact ⟨by first | rfl | (simp [errW_none, errW_some] <;> rfl) | (simp [*, errW_none, errW_some] <;> rfl), by repeat (first | (with_reducible first | exact HB.out | apply q1c | apply q2c | apply q3c | refine q4c ?_ GE143.out | refine q4c ?_ GE144.out) | exact HB.out)⟩
/-! ### laws_big: function 50 -/
def laws_big.f (l0 : List Int) : Option (Bool) := some (decide ((l0.length : Int) > 4096))
set_option maxHeartbeats 8000000 in
set_option maxRecDepth 100000 in
theorem laws_big.calls (A0 : Option Addr) (c0 : Nat) (l0 : List Int) (r : Bool) (w : World) (hr0 : Kd.C (Kd.int .u8) w A0 l0.length l0) (hc0 : l0.length ≤ c0) (h : laws_big.f l0 = some r) :
 Calls Try.prog 50 #[.slice A0 l0.length c0] w fun e w' => e = .returned (.bool r) ∧ Drawn0 w w' := by
 have HR0 := qgc hr0
 have HC0 := qgc hc0
 clear hr0 hc0
 have H : (some (decide ((l0.length : Int) > 4096))) = some r := h
 clear h
 obtain rfl := Option.some.inj H
 go_enter Try.func50, Try.ntmps50
 go_wp2
 go_ret
 exact ⟨by first | rfl | (simp; done) | (simp [*]; done), by repeat (first | exact Drawn0.refl _ | apply Drawn0.step)⟩
/-! ### impl_HeightAt: function 53 -/
def impl_HeightAt.f (a0_0 : Int) (a0_1 : Int) (a0_2 : Int) (a0_3 : Int) (a0_4 : Int) (a1 : Int) : Option (Int) := (impl_isInAir.f a0_0 a0_1 a0_2 a0_3 a0_4 a1).bind fun t150 => (if t150 = true then (some (wrap64 (a1 * (wrap64 ((wrap64 (a0_4 + 1)) - a1))))) else (some 0))
set_option maxHeartbeats 8000000 in
set_option maxRecDepth 100000 in
theorem impl_HeightAt.calls (a0_0 : Int) (a0_1 : Int) (a0_2 : Int) (a0_3 : Int) (a0_4 : Int) (a1 : Int) (r : Int) (w : World) (h : impl_HeightAt.f a0_0 a0_1 a0_2 a0_3 a0_4 a1 = some r) :
 Calls Try.prog 53 #[.agg #[.int .i64 a0_0, .int .i64 a0_1, .int .i64 a0_2, .int .i64 a0_3, .int .i64 a0_4], .int .i64 a1] w fun e w' => e = .returned (.int .i64 r) ∧ Below w.heap.size w w' := by
 have hu28 := Try.underlying28
 have HB := qgc (Below.refl w.heap.size w)
 have H : ((impl_isInAir.f a0_0 a0_1 a0_2 a0_3 a0_4 a1).bind fun t150 => (if t150 = true then (some (wrap64 (a1 * (wrap64 ((wrap64 (a0_4 + 1)) - a1))))) else (some 0))) = some r := h
 clear h
 replace H := Option.bind_eq_some_iff.mp H
 obtain ⟨t150, A30, H⟩ := H
 replace H : (if t150 = true then (some (wrap64 (a1 * (wrap64 ((wrap64 (a0_4 + 1)) - a1))))) else (some 0)) = some r := H
 have A3 := qgc A30
 clear A30
 by_cases c4 : t150 = true
 ·subst c4
  have H1 : (some (wrap64 (a1 * (wrap64 ((wrap64 (a0_4 + 1)) - a1))))) = some r := by rw [if_pos rfl] at H; exact H
  clear H
  have H := H1
  clear H1
  obtain rfl := Option.some.inj H
  go_enter Try.func53, Try.ntmps53
  go_wp2_with (first | ((with_reducible refine quc (N := 2) rfl ?_); refine qhc ?hg (N := 2) ?hd (cs := #[.int .i64 a0_0, .int .i64 a0_1, .int .i64 a0_2, .int .i64 a0_3, .int .i64 a0_4]) (t := 28) ?hr ?_; (case hd => rfl); (case hg => rfl); (case hr => first | (go_simp; done) | (go_simp; rfl)); intro gb149 hg w5 hbox hb; have n0_ := qgc (q9c (by repeat (first | (with_reducible first | exact HB.out | apply q1c | apply q2c | apply q3c) | exact HB.out)) hb); have n1_ := qgc (hbox); have n2_ := qgc ((by rw [hg]; exact (qac (by repeat (first | (with_reducible first | exact HB.out | apply q1c | apply q2c | apply q3c) | exact HB.out))) : w.heap.size ≤ gb149)); have n3_ := qgc ((by rw [hg]; exact (qac (by repeat (first | (with_reducible first | exact HB.out | apply q1c | apply q2c | apply q3c) | exact HB.out))) : w.heap.size ≤ gb149)); clear HB; have HB := n0_; have BK149 := n1_; have GW149 := n2_; have GE149 := n3_; clear n0_ n1_ n2_ n3_; clear hb hbox hg; have hcz6_0 : w5.cell? ⟨gb149, 0, none⟩ = some (.int .i64 a0_0) := (qcc BK149.out 0).trans rfl; have hcz6_1 : w5.cell? ⟨gb149, 1, none⟩ = some (.int .i64 a0_1) := (qcc BK149.out 1).trans rfl; have hcz6_2 : w5.cell? ⟨gb149, 2, none⟩ = some (.int .i64 a0_2) := (qcc BK149.out 2).trans rfl; have hcz6_3 : w5.cell? ⟨gb149, 3, none⟩ = some (.int .i64 a0_3) := (qcc BK149.out 3).trans rfl; have hcz6_4 : w5.cell? ⟨gb149, 4, none⟩ = some (.int .i64 a0_4) := (qcc BK149.out 4).trans rfl; have hfz6_0 := qbc BK149.out 0; have hfz6_1 := qbc BK149.out 1; have hfz6_2 := qbc BK149.out 2; have hfz6_3 := qbc BK149.out 3; have hfz6_4 := qbc BK149.out 4) | ((with_reducible refine qtc (f := 72) rfl ?_); refine goesL_ (some 7) rfl rfl Try.func72 (by kernel_rfl) rfl #[.agg #[.int .i64 a0_0, .int .i64 a0_1, .int .i64 a0_2, .int .i64 a0_3, .int .i64 a0_4], .int .i64 a1] rfl (by (try simp only [List.map_toArray, List.map_cons, List.map_nil]); first | done | rfl | (simp only [List.length_drop, List.length_take]; rfl)) ?_; (with_reducible refine (impl_isInAir.calls a0_0 a0_1 a0_2 a0_3 a0_4 a1 true _ A3.out).mono ?_); rintro e w7 ⟨rfl, hb⟩; refine ⟨_, rfl, ?_⟩; have n0_ := qgc (q8c (g := gb149) (o := .cells #[.int .i64 a0_0, .int .i64 a0_1, .int .i64 a0_2, .int .i64 a0_3, .int .i64 a0_4] 28 (0, 0)) (by (with_reducible repeat (first | refine q5c ?_ _ | refine q6c ?_ | refine q7c ?_ _)); exact BK149.out) hb); have n1_ := qgc (q9c (by repeat (first | (with_reducible first | exact HB.out | apply q1c | apply q2c | apply q3c | refine q4c ?_ GE149.out) | exact HB.out)) hb); clear BK149; clear HB; have BK149 := n0_; have HB := n1_; clear n0_ n1_; (try clear hb); (try clear hb2); (try clear hk); (try clear hi); have hcz8_0 : w7.cell? ⟨gb149, 0, none⟩ = some (.int .i64 a0_0) := (qcc BK149.out 0).trans rfl; have hcz8_1 : w7.cell? ⟨gb149, 1, none⟩ = some (.int .i64 a0_1) := (qcc BK149.out 1).trans rfl; have hcz8_2 : w7.cell? ⟨gb149, 2, none⟩ = some (.int .i64 a0_2) := (qcc BK149.out 2).trans rfl; have hcz8_3 : w7.cell? ⟨gb149, 3, none⟩ = some (.int .i64 a0_3) := (qcc BK149.out 3).trans rfl; have hcz8_4 : w7.cell? ⟨gb149, 4, none⟩ = some (.int .i64 a0_4) := (qcc BK149.out 4).trans rfl; have hfz8_0 := qbc BK149.out 0; have hfz8_1 := qbc BK149.out 1; have hfz8_2 := qbc BK149.out 2; have hfz8_3 := qbc BK149.out 3; have hfz8_4 := qbc BK149.out 4))
  go_ret
  exact ⟨by first | rfl | (simp [errW_none, errW_some] <;> rfl) | (simp [*, errW_none, errW_some] <;> rfl), by repeat (first | (with_reducible first | exact HB.out | apply q1c | apply q2c | apply q3c | refine q4c ?_ GE149.out) | exact HB.out)⟩
 ·replace c4 := Bool.eq_false_iff.mpr c4
  subst c4
  have H1 : (some 0) = some r := by rw [if_neg (show ¬ (false = true) by decide)] at H; exact H
  clear H
  have H := H1
  clear H1
  obtain rfl := Option.some.inj H
  go_enter Try.func53, Try.ntmps53
  go_wp2_with (first | ((with_reducible refine quc (N := 2) rfl ?_); refine qhc ?hg (N := 2) ?hd (cs := #[.int .i64 a0_0, .int .i64 a0_1, .int .i64 a0_2, .int .i64 a0_3, .int .i64 a0_4]) (t := 28) ?hr ?_; (case hd => rfl); (case hg => rfl); (case hr => first | (go_simp; done) | (go_simp; rfl)); intro gb149 hg w9 hbox hb; have n0_ := qgc (q9c (by repeat (first | (with_reducible first | exact HB.out | apply q1c | apply q2c | apply q3c) | exact HB.out)) hb); have n1_ := qgc (hbox); have n2_ := qgc ((by rw [hg]; exact (qac (by repeat (first | (with_reducible first | exact HB.out | apply q1c | apply q2c | apply q3c) | exact HB.out))) : w.heap.size ≤ gb149)); have n3_ := qgc ((by rw [hg]; exact (qac (by repeat (first | (with_reducible first | exact HB.out | apply q1c | apply q2c | apply q3c) | exact HB.out))) : w.heap.size ≤ gb149)); clear HB; have HB := n0_; have BK149 := n1_; have GW149 := n2_; have GE149 := n3_; clear n0_ n1_ n2_ n3_; clear hb hbox hg; have hcz10_0 : w9.cell? ⟨gb149, 0, none⟩ = some (.int .i64 a0_0) := (qcc BK149.out 0).trans rfl; have hcz10_1 : w9.cell? ⟨gb149, 1, none⟩ = some (.int .i64 a0_1) := (qcc BK149.out 1).trans rfl; have hcz10_2 : w9.cell? ⟨gb149, 2, none⟩ = some (.int .i64 a0_2) := (qcc BK149.out 2).trans rfl; have hcz10_3 : w9.cell? ⟨gb149, 3, none⟩ = some (.int .i64 a0_3) := (qcc BK149.out 3).trans rfl; have hcz10_4 : w9.cell? ⟨gb149, 4, none⟩ = some (.int .i64 a0_4) := (qcc BK149.out 4).trans rfl; have hfz10_0 := qbc BK149.out 0; have hfz10_1 := qbc BK149.out 1; have hfz10_2 := qbc BK149.out 2; have hfz10_3 := qbc BK149.out 3; have hfz10_4 := qbc BK149.out 4) | ((with_reducible refine qtc (f := 72) rfl ?_); refine goesL_ (some 7) rfl rfl Try.func72 (by kernel_rfl) rfl #[.agg #[.int .i64 a0_0, .int .i64 a0_1, .int .i64 a0_2, .int .i64 a0_3, .int .i64 a0_4], .int .i64 a1] rfl (by (try simp only [List.map_toArray, List.map_cons, List.map_nil]); first | done | rfl | (simp only [List.length_drop, List.length_take]; rfl)) ?_; (with_reducible refine (impl_isInAir.calls a0_0 a0_1 a0_2 a0_3 a0_4 a1 false _ A3.out).mono ?_); rintro e w11 ⟨rfl, hb⟩; refine ⟨_, rfl, ?_⟩; have n0_ := qgc (q8c (g := gb149) (o := .cells #[.int .i64 a0_0, .int .i64 a0_1, .int .i64 a0_2, .int .i64 a0_3, .int .i64 a0_4] 28 (0, 0)) (by (with_reducible repeat (first | refine q5c ?_ _ | refine q6c ?_ | refine q7c ?_ _)); exact BK149.out) hb); have n1_ := qgc (q9c (by repeat (first | (with_reducible first | exact HB.out | apply q1c | apply q2c | apply q3c | refine q4c ?_ GE149.out) | exact HB.out)) hb); clear BK149; clear HB; have BK149 := n0_; have HB := n1_; clear n0_ n1_; (try clear hb); (try clear hb2); (try clear hk); (try clear hi)))
  go_ret
  exact ⟨by first | rfl | (simp [errW_none, errW_some] <;> rfl) | (simp [*, errW_none, errW_some] <;> rfl), by repeat (first | (with_reducible first | exact HB.out | apply q1c | apply q2c | apply q3c | refine q4c ?_ GE149.out) | exact HB.out)⟩
/-! ### spec_l1In: function 77 -/
def spec_l1In.f (a0 : Int) (a1 : Int) (a2 : Int) : Option (Bool) := if a0 ≥ a1 then (some (decide (a0 ≤ a2))) else (some false)
set_option maxHeartbeats 8000000 in
set_option maxRecDepth 100000 in
theorem spec_l1In.calls (a0 : Int) (a1 : Int) (a2 : Int) (r : Bool) (w : World) (h : spec_l1In.f a0 a1 a2 = some r) :
 Calls Try.prog 77 #[.int .i64 a0, .int .i64 a1, .int .i64 a2] w fun e w' => e = .returned (.bool r) ∧ Drawn0 w w' := by
 have H : (if a0 ≥ a1 then (some (decide (a0 ≤ a2))) else (some false)) = some r := h
 clear h
 by_cases c4 : a0 ≥ a1
 ·rw [if_pos c4] at H
  have c4b0 : decide (a1 ≤ a0) = true := decide_eq_true c4
  clear c4
  obtain rfl := Option.some.inj H
  go_enter Try.func77, Try.ntmps77
  go_wp2
  go_ret
  exact ⟨by first | rfl | (simp; done) | (simp [*]; done), by repeat (first | exact Drawn0.refl _ | apply Drawn0.step)⟩
 ·rw [if_neg c4] at H
  have c4b0 : decide (a1 ≤ a0) = false := decide_eq_false c4
  clear c4
  obtain rfl := Option.some.inj H
  go_enter Try.func77, Try.ntmps77
  go_wp2
  go_ret
  exact ⟨by first | rfl | (simp; done) | (simp [*]; done), by repeat (first | exact Drawn0.refl _ | apply Drawn0.step)⟩
/-! ### spec_IsHeading: function 92 -/
def spec_IsHeading.f (a0 : Int) : Option (Bool) := if a0 ≥ 0 then (some (decide (a0 ≤ 3))) else (some false)
set_option maxHeartbeats 8000000 in
set_option maxRecDepth 100000 in
theorem spec_IsHeading.calls (a0 : Int) (r : Bool) (w : World) (h : spec_IsHeading.f a0 = some r) :
 Calls Try.prog 92 #[.int .i64 a0] w fun e w' => e = .returned (.bool r) ∧ Drawn0 w w' := by
 have H : (if a0 ≥ 0 then (some (decide (a0 ≤ 3))) else (some false)) = some r := h
 clear h
 by_cases c2 : a0 ≥ 0
 ·rw [if_pos c2] at H
  have c2b0 : decide (0 ≤ a0) = true := decide_eq_true c2
  clear c2
  obtain rfl := Option.some.inj H
  go_enter Try.func92, Try.ntmps92
  go_wp2
  go_ret
  exact ⟨by first | rfl | (simp; done) | (simp [*]; done), by repeat (first | exact Drawn0.refl _ | apply Drawn0.step)⟩
 ·rw [if_neg c2] at H
  have c2b0 : decide (0 ≤ a0) = false := decide_eq_false c2
  clear c2
  obtain rfl := Option.some.inj H
  go_enter Try.func92, Try.ntmps92
  go_wp2
  go_ret
  exact ⟨by first | rfl | (simp; done) | (simp [*]; done), by repeat (first | exact Drawn0.refl _ | apply Drawn0.step)⟩
/-! ### spec_IsJet: function 55 -/
def spec_IsJet.f (a0_0 : Int) (a0_1 : Int) (a0_2 : Int) (a0_3 : Int) (a0_4 : Int) : Option (Bool) := (spec_l1In.f a0_0 (-1024) 1024).bind fun t152 => (if t152 = true then ((spec_l1In.f a0_1 (-1024) 1024).bind fun t153 => (if t153 = true then ((spec_IsHeading.f a0_2).bind fun t154 => (if t154 = true then ((spec_l1In.f a0_3 0 16).bind fun t155 => (if t155 = true then ((spec_l1In.f a0_4 1 32).bind fun t156 => (some t156)) else (some false))) else (some false))) else (some false))) else (some false))
set_option maxHeartbeats 8000000 in
set_option maxRecDepth 100000 in
theorem spec_IsJet.calls (a0_0 : Int) (a0_1 : Int) (a0_2 : Int) (a0_3 : Int) (a0_4 : Int) (r : Bool) (w : World) (h : spec_IsJet.f a0_0 a0_1 a0_2 a0_3 a0_4 = some r) :
 Calls Try.prog 55 #[.agg #[.int .i64 a0_0, .int .i64 a0_1, .int .i64 a0_2, .int .i64 a0_3, .int .i64 a0_4]] w fun e w' => e = .returned (.bool r) ∧ Below w.heap.size w w' := by
 have hu28 := Try.underlying28
 have HB := qgc (Below.refl w.heap.size w)
 have H : ((spec_l1In.f a0_0 (-1024) 1024).bind fun t152 => (if t152 = true then ((spec_l1In.f a0_1 (-1024) 1024).bind fun t153 => (if t153 = true then ((spec_IsHeading.f a0_2).bind fun t154 => (if t154 = true then ((spec_l1In.f a0_3 0 16).bind fun t155 => (if t155 = true then ((spec_l1In.f a0_4 1 32).bind fun t156 => (some t156)) else (some false))) else (some false))) else (some false))) else (some false))) = some r := h
 clear h
 replace H := Option.bind_eq_some_iff.mp H
 obtain ⟨t152, A20, H⟩ := H
 replace H : (if t152 = true then ((spec_l1In.f a0_1 (-1024) 1024).bind fun t153 => (if t153 = true then ((spec_IsHeading.f a0_2).bind fun t154 => (if t154 = true then ((spec_l1In.f a0_3 0 16).bind fun t155 => (if t155 = true then ((spec_l1In.f a0_4 1 32).bind fun t156 => (some t156)) else (some false))) else (some false))) else (some false))) else (some false)) = some r := H
 have A2 := qgc A20
 clear A20
 by_cases c3 : t152 = true
 ·subst c3
  have H1 : ((spec_l1In.f a0_1 (-1024) 1024).bind fun t153 => (if t153 = true then ((spec_IsHeading.f a0_2).bind fun t154 => (if t154 = true then ((spec_l1In.f a0_3 0 16).bind fun t155 => (if t155 = true then ((spec_l1In.f a0_4 1 32).bind fun t156 => (some t156)) else (some false))) else (some false))) else (some false))) = some r := by rw [if_pos rfl] at H; exact H
  clear H
  have H := H1
  clear H1
  replace H := Option.bind_eq_some_iff.mp H
  obtain ⟨t153, A40, H⟩ := H
  replace H : (if t153 = true then ((spec_IsHeading.f a0_2).bind fun t154 => (if t154 = true then ((spec_l1In.f a0_3 0 16).bind fun t155 => (if t155 = true then ((spec_l1In.f a0_4 1 32).bind fun t156 => (some t156)) else (some false))) else (some false))) else (some false)) = some r := H
  have A4 := qgc A40
  clear A40
  by_cases c5 : t153 = true
  ·subst c5
   have H1 : ((spec_IsHeading.f a0_2).bind fun t154 => (if t154 = true then ((spec_l1In.f a0_3 0 16).bind fun t155 => (if t155 = true then ((spec_l1In.f a0_4 1 32).bind fun t156 => (some t156)) else (some false))) else (some false))) = some r := by rw [if_pos rfl] at H; exact H
   clear H
   have H := H1
   clear H1
   replace H := Option.bind_eq_some_iff.mp H
   obtain ⟨t154, A60, H⟩ := H
   replace H : (if t154 = true then ((spec_l1In.f a0_3 0 16).bind fun t155 => (if t155 = true then ((spec_l1In.f a0_4 1 32).bind fun t156 => (some t156)) else (some false))) else (some false)) = some r := H
   have A6 := qgc A60
   clear A60
   by_cases c7 : t154 = true
   ·subst c7
    have H1 : ((spec_l1In.f a0_3 0 16).bind fun t155 => (if t155 = true then ((spec_l1In.f a0_4 1 32).bind fun t156 => (some t156)) else (some false))) = some r := by rw [if_pos rfl] at H; exact H
    clear H
    have H := H1
    clear H1
    replace H := Option.bind_eq_some_iff.mp H
    obtain ⟨t155, A80, H⟩ := H
    replace H : (if t155 = true then ((spec_l1In.f a0_4 1 32).bind fun t156 => (some t156)) else (some false)) = some r := H
    have A8 := qgc A80
    clear A80
    by_cases c9 : t155 = true
    ·subst c9
     have H1 : ((spec_l1In.f a0_4 1 32).bind fun t156 => (some t156)) = some r := by rw [if_pos rfl] at H; exact H
     clear H
     have H := H1
     clear H1
     replace H := Option.bind_eq_some_iff.mp H
     obtain ⟨t156, A100, H⟩ := H
     replace H : (some t156) = some r := H
     have A10 := qgc A100
     clear A100
     obtain rfl := Option.some.inj H
     go_enter Try.func55, Try.ntmps55
     go_wp2_with (first | ((with_reducible refine quc (N := 1) rfl ?_); refine qhc ?hg (N := 1) ?hd (cs := #[.int .i64 a0_0, .int .i64 a0_1, .int .i64 a0_2, .int .i64 a0_3, .int .i64 a0_4]) (t := 28) ?hr ?_; (case hd => rfl); (case hg => rfl); (case hr => first | (go_simp; done) | (go_simp; rfl)); intro gb151 hg w11 hbox hb; have n0_ := qgc (q9c (by repeat (first | (with_reducible first | exact HB.out | apply q1c | apply q2c | apply q3c) | exact HB.out)) hb); have n1_ := qgc (hbox); have n2_ := qgc ((by rw [hg]; exact (qac (by repeat (first | (with_reducible first | exact HB.out | apply q1c | apply q2c | apply q3c) | exact HB.out))) : w.heap.size ≤ gb151)); have n3_ := qgc ((by rw [hg]; exact (qac (by repeat (first | (with_reducible first | exact HB.out | apply q1c | apply q2c | apply q3c) | exact HB.out))) : w.heap.size ≤ gb151)); clear HB; have HB := n0_; have BK151 := n1_; have GW151 := n2_; have GE151 := n3_; clear n0_ n1_ n2_ n3_; clear hb hbox hg; have hcz12_0 : w11.cell? ⟨gb151, 0, none⟩ = some (.int .i64 a0_0) := (qcc BK151.out 0).trans rfl; have hcz12_1 : w11.cell? ⟨gb151, 1, none⟩ = some (.int .i64 a0_1) := (qcc BK151.out 1).trans rfl; have hcz12_2 : w11.cell? ⟨gb151, 2, none⟩ = some (.int .i64 a0_2) := (qcc BK151.out 2).trans rfl; have hcz12_3 : w11.cell? ⟨gb151, 3, none⟩ = some (.int .i64 a0_3) := (qcc BK151.out 3).trans rfl; have hcz12_4 : w11.cell? ⟨gb151, 4, none⟩ = some (.int .i64 a0_4) := (qcc BK151.out 4).trans rfl; have hfz12_0 := qbc BK151.out 0; have hfz12_1 := qbc BK151.out 1; have hfz12_2 := qbc BK151.out 2; have hfz12_3 := qbc BK151.out 3; have hfz12_4 := qbc BK151.out 4) | ((with_reducible refine qtc (f := 77) rfl ?_); refine goesL_ (some 7) rfl rfl Try.func77 (by kernel_rfl) rfl #[.int .i64 a0_0, .int .i64 (-1024), .int .i64 1024] rfl (by (try simp only [List.map_toArray, List.map_cons, List.map_nil]); first | done | rfl | (simp only [List.length_drop, List.length_take]; rfl)) ?_; (with_reducible refine (spec_l1In.calls a0_0 (-1024) 1024 true _ A2.out).mono ?_); rintro e w' ⟨rfl, ⟨nd, rfl⟩⟩; refine ⟨_, rfl, ?_⟩) | (go_at_call 77; (with_reducible refine (spec_l1In.calls a0_1 (-1024) 1024 true _ A4.out).mono ?_); rintro e w' ⟨rfl, ⟨nd, rfl⟩⟩) | (go_at_call 92; (with_reducible refine (spec_IsHeading.calls a0_2 true _ A6.out).mono ?_); rintro e w' ⟨rfl, ⟨nd, rfl⟩⟩) | (go_at_call 77; (with_reducible refine (spec_l1In.calls a0_3 0 16 true _ A8.out).mono ?_); rintro e w' ⟨rfl, ⟨nd, rfl⟩⟩) | (go_at_call 77; (with_reducible refine (spec_l1In.calls a0_4 1 32 t156 _ A10.out).mono ?_); rintro e w' ⟨rfl, ⟨nd, rfl⟩⟩))
     go_ret
     exact ⟨by first | rfl | (simp [errW_none, errW_some] <;> rfl) | (simp [*, errW_none, errW_some] <;> rfl), by repeat (first | (with_reducible first | exact HB.out | apply q1c | apply q2c | apply q3c | refine q4c ?_ GE151.out) | exact HB.out)⟩
    ·replace c9 := Bool.eq_false_iff.mpr c9
     subst c9
     have H1 : (some false) = some r := by rw [if_neg (show ¬ (false = true) by decide)] at H; exact H
     clear H
     have H := H1
     clear H1
     obtain rfl := Option.some.inj H
     go_enter Try.func55, Try.ntmps55
     go_wp2_with (first | ((with_reducible refine quc (N := 1) rfl ?_); refine qhc ?hg (N := 1) ?hd (cs := #[.int .i64 a0_0, .int .i64 a0_1, .int .i64 a0_2, .int .i64 a0_3, .int .i64 a0_4]) (t := 28) ?hr ?_; (case hd => rfl); (case hg => rfl); (case hr => first | (go_simp; done) | (go_simp; rfl)); intro gb151 hg w13 hbox hb; have n0_ := qgc (q9c (by repeat (first | (with_reducible first | exact HB.out | apply q1c | apply q2c | apply q3c) | exact HB.out)) hb); have n1_ := qgc (hbox); have n2_ := qgc ((by rw [hg]; exact (qac (by repeat (first | (with_reducible first | exact HB.out | apply q1c | apply q2c | apply q3c) | exact HB.out))) : w.heap.size ≤ gb151)); have n3_ := qgc ((by rw [hg]; exact (qac (by repeat (first | (with_reducible first | exact HB.out | apply q1c | apply q2c | apply q3c) | exact HB.out))) : w.heap.size ≤ gb151)); clear HB; have HB := n0_; have BK151 := n1_; have GW151 := n2_; have GE151 := n3_; clear n0_ n1_ n2_ n3_; clear hb hbox hg; have hcz14_0 : w13.cell? ⟨gb151, 0, none⟩ = some (.int .i64 a0_0) := (qcc BK151.out 0).trans rfl; have hcz14_1 : w13.cell? ⟨gb151, 1, none⟩ = some (.int .i64 a0_1) := (qcc BK151.out 1).trans rfl; have hcz14_2 : w13.cell? ⟨gb151, 2, none⟩ = some (.int .i64 a0_2) := (qcc BK151.out 2).trans rfl; have hcz14_3 : w13.cell? ⟨gb151, 3, none⟩ = some (.int .i64 a0_3) := (qcc BK151.out 3).trans rfl; have hcz14_4 : w13.cell? ⟨gb151, 4, none⟩ = some (.int .i64 a0_4) := (qcc BK151.out 4).trans rfl; have hfz14_0 := qbc BK151.out 0; have hfz14_1 := qbc BK151.out 1; have hfz14_2 := qbc BK151.out 2; have hfz14_3 := qbc BK151.out 3; have hfz14_4 := qbc BK151.out 4) | ((with_reducible refine qtc (f := 77) rfl ?_); refine goesL_ (some 7) rfl rfl Try.func77 (by kernel_rfl) rfl #[.int .i64 a0_0, .int .i64 (-1024), .int .i64 1024] rfl (by (try simp only [List.map_toArray, List.map_cons, List.map_nil]); first | done | rfl | (simp only [List.length_drop, List.length_take]; rfl)) ?_; (with_reducible refine (spec_l1In.calls a0_0 (-1024) 1024 true _ A2.out).mono ?_); rintro e w' ⟨rfl, ⟨nd, rfl⟩⟩; refine ⟨_, rfl, ?_⟩) | (go_at_call 77; (with_reducible refine (spec_l1In.calls a0_1 (-1024) 1024 true _ A4.out).mono ?_); rintro e w' ⟨rfl, ⟨nd, rfl⟩⟩) | (go_at_call 92; (with_reducible refine (spec_IsHeading.calls a0_2 true _ A6.out).mono ?_); rintro e w' ⟨rfl, ⟨nd, rfl⟩⟩) | (go_at_call 77; (with_reducible refine (spec_l1In.calls a0_3 0 16 false _ A8.out).mono ?_); rintro e w' ⟨rfl, ⟨nd, rfl⟩⟩))
     go_ret
     exact ⟨by first | rfl | (simp [errW_none, errW_some] <;> rfl) | (simp [*, errW_none, errW_some] <;> rfl), by repeat (first | (with_reducible first | exact HB.out | apply q1c | apply q2c | apply q3c | refine q4c ?_ GE151.out) | exact HB.out)⟩
   ·replace c7 := Bool.eq_false_iff.mpr c7
    subst c7
    have H1 : (some false) = some r := by rw [if_neg (show ¬ (false = true) by decide)] at H; exact H
    clear H
    have H := H1
    clear H1
    obtain rfl := Option.some.inj H
    go_enter Try.func55, Try.ntmps55
    go_wp2_with (first | ((with_reducible refine quc (N := 1) rfl ?_); refine qhc ?hg (N := 1) ?hd (cs := #[.int .i64 a0_0, .int .i64 a0_1, .int .i64 a0_2, .int .i64 a0_3, .int .i64 a0_4]) (t := 28) ?hr ?_; (case hd => rfl); (case hg => rfl); (case hr => first | (go_simp; done) | (go_simp; rfl)); intro gb151 hg w15 hbox hb; have n0_ := qgc (q9c (by repeat (first | (with_reducible first | exact HB.out | apply q1c | apply q2c | apply q3c) | exact HB.out)) hb); have n1_ := qgc (hbox); have n2_ := qgc ((by rw [hg]; exact (qac (by repeat (first | (with_reducible first | exact HB.out | apply q1c | apply q2c | apply q3c) | exact HB.out))) : w.heap.size ≤ gb151)); have n3_ := qgc ((by rw [hg]; exact (qac (by repeat (first | (with_reducible first | exact HB.out | apply q1c | apply q2c | apply q3c) | exact HB.out))) : w.heap.size ≤ gb151)); clear HB; have HB := n0_; have BK151 := n1_; have GW151 := n2_; have GE151 := n3_; clear n0_ n1_ n2_ n3_; clear hb hbox hg; have hcz16_0 : w15.cell? ⟨gb151, 0, none⟩ = some (.int .i64 a0_0) := (qcc BK151.out 0).trans rfl; have hcz16_1 : w15.cell? ⟨gb151, 1, none⟩ = some (.int .i64 a0_1) := (qcc BK151.out 1).trans rfl; have hcz16_2 : w15.cell? ⟨gb151, 2, none⟩ = some (.int .i64 a0_2) := (qcc BK151.out 2).trans rfl; have hcz16_3 : w15.cell? ⟨gb151, 3, none⟩ = some (.int .i64 a0_3) := (qcc BK151.out 3).trans rfl; have hcz16_4 : w15.cell? ⟨gb151, 4, none⟩ = some (.int .i64 a0_4) := (qcc BK151.out 4).trans rfl; have hfz16_0 := qbc BK151.out 0; have hfz16_1 := qbc BK151.out 1; have hfz16_2 := qbc BK151.out 2; have hfz16_3 := qbc BK151.out 3; have hfz16_4 := qbc BK151.out 4) | ((with_reducible refine qtc (f := 77) rfl ?_); refine goesL_ (some 7) rfl rfl Try.func77 (by kernel_rfl) rfl #[.int .i64 a0_0, .int .i64 (-1024), .int .i64 1024] rfl (by (try simp only [List.map_toArray, List.map_cons, List.map_nil]); first | done | rfl | (simp only [List.length_drop, List.length_take]; rfl)) ?_; (with_reducible refine (spec_l1In.calls a0_0 (-1024) 1024 true _ A2.out).mono ?_); rintro e w' ⟨rfl, ⟨nd, rfl⟩⟩; refine ⟨_, rfl, ?_⟩) | (go_at_call 77; (with_reducible refine (spec_l1In.calls a0_1 (-1024) 1024 true _ A4.out).mono ?_); rintro e w' ⟨rfl, ⟨nd, rfl⟩⟩) | (go_at_call 92; (with_reducible refine (spec_IsHeading.calls a0_2 false _ A6.out).mono ?_); rintro e w' ⟨rfl, ⟨nd, rfl⟩⟩))
    go_ret
    exact ⟨by first | rfl | (simp [errW_none, errW_some] <;> rfl) | (simp [*, errW_none, errW_some] <;> rfl), by repeat (first | (with_reducible first | exact HB.out | apply q1c | apply q2c | apply q3c | refine q4c ?_ GE151.out) | exact HB.out)⟩
  ·replace c5 := Bool.eq_false_iff.mpr c5
   subst c5
   have H1 : (some false) = some r := by rw [if_neg (show ¬ (false = true) by decide)] at H; exact H
   clear H
   have H := H1
   clear H1
   obtain rfl := Option.some.inj H
   go_enter Try.func55, Try.ntmps55
   go_wp2_with (first | ((with_reducible refine quc (N := 1) rfl ?_); refine qhc ?hg (N := 1) ?hd (cs := #[.int .i64 a0_0, .int .i64 a0_1, .int .i64 a0_2, .int .i64 a0_3, .int .i64 a0_4]) (t := 28) ?hr ?_; (case hd => rfl); (case hg => rfl); (case hr => first | (go_simp; done) | (go_simp; rfl)); intro gb151 hg w17 hbox hb; have n0_ := qgc (q9c (by repeat (first | (with_reducible first | exact HB.out | apply q1c | apply q2c | apply q3c) | exact HB.out)) hb); have n1_ := qgc (hbox); have n2_ := qgc ((by rw [hg]; exact (qac (by repeat (first | (with_reducible first | exact HB.out | apply q1c | apply q2c | apply q3c) | exact HB.out))) : w.heap.size ≤ gb151)); have n3_ := qgc ((by rw [hg]; exact (qac (by repeat (first | (with_reducible first | exact HB.out | apply q1c | apply q2c | apply q3c) | exact HB.out))) : w.heap.size ≤ gb151)); clear HB; have HB := n0_; have BK151 := n1_; have GW151 := n2_; have GE151 := n3_; clear n0_ n1_ n2_ n3_; clear hb hbox hg; have hcz18_0 : w17.cell? ⟨gb151, 0, none⟩ = some (.int .i64 a0_0) := (qcc BK151.out 0).trans rfl; have hcz18_1 : w17.cell? ⟨gb151, 1, none⟩ = some (.int .i64 a0_1) := (qcc BK151.out 1).trans rfl; have hcz18_2 : w17.cell? ⟨gb151, 2, none⟩ = some (.int .i64 a0_2) := (qcc BK151.out 2).trans rfl; have hcz18_3 : w17.cell? ⟨gb151, 3, none⟩ = some (.int .i64 a0_3) := (qcc BK151.out 3).trans rfl; have hcz18_4 : w17.cell? ⟨gb151, 4, none⟩ = some (.int .i64 a0_4) := (qcc BK151.out 4).trans rfl; have hfz18_0 := qbc BK151.out 0; have hfz18_1 := qbc BK151.out 1; have hfz18_2 := qbc BK151.out 2; have hfz18_3 := qbc BK151.out 3; have hfz18_4 := qbc BK151.out 4) | ((with_reducible refine qtc (f := 77) rfl ?_); refine goesL_ (some 7) rfl rfl Try.func77 (by kernel_rfl) rfl #[.int .i64 a0_0, .int .i64 (-1024), .int .i64 1024] rfl (by (try simp only [List.map_toArray, List.map_cons, List.map_nil]); first | done | rfl | (simp only [List.length_drop, List.length_take]; rfl)) ?_; (with_reducible refine (spec_l1In.calls a0_0 (-1024) 1024 true _ A2.out).mono ?_); rintro e w' ⟨rfl, ⟨nd, rfl⟩⟩; refine ⟨_, rfl, ?_⟩) | (go_at_call 77; (with_reducible refine (spec_l1In.calls a0_1 (-1024) 1024 false _ A4.out).mono ?_); rintro e w' ⟨rfl, ⟨nd, rfl⟩⟩))
   go_ret
   exact ⟨by first | rfl | (simp [errW_none, errW_some] <;> rfl) | (simp [*, errW_none, errW_some] <;> rfl), by repeat (first | (with_reducible first | exact HB.out | apply q1c | apply q2c | apply q3c | refine q4c ?_ GE151.out) | exact HB.out)⟩
 ·replace c3 := Bool.eq_false_iff.mpr c3
  subst c3
  have H1 : (some false) = some r := by rw [if_neg (show ¬ (false = true) by decide)] at H; exact H
  clear H
  have H := H1
  clear H1
  obtain rfl := Option.some.inj H
  go_enter Try.func55, Try.ntmps55
  go_wp2_with (first | ((with_reducible refine quc (N := 1) rfl ?_); refine qhc ?hg (N := 1) ?hd (cs := #[.int .i64 a0_0, .int .i64 a0_1, .int .i64 a0_2, .int .i64 a0_3, .int .i64 a0_4]) (t := 28) ?hr ?_; (case hd => rfl); (case hg => rfl); (case hr => first | (go_simp; done) | (go_simp; rfl)); intro gb151 hg w19 hbox hb; have n0_ := qgc (q9c (by repeat (first | (with_reducible first | exact HB.out | apply q1c | apply q2c | apply q3c) | exact HB.out)) hb); have n1_ := qgc (hbox); have n2_ := qgc ((by rw [hg]; exact (qac (by repeat (first | (with_reducible first | exact HB.out | apply q1c | apply q2c | apply q3c) | exact HB.out))) : w.heap.size ≤ gb151)); have n3_ := qgc ((by rw [hg]; exact (qac (by repeat (first | (with_reducible first | exact HB.out | apply q1c | apply q2c | apply q3c) | exact HB.out))) : w.heap.size ≤ gb151)); clear HB; have HB := n0_; have BK151 := n1_; have GW151 := n2_; have GE151 := n3_; clear n0_ n1_ n2_ n3_; clear hb hbox hg; have hcz20_0 : w19.cell? ⟨gb151, 0, none⟩ = some (.int .i64 a0_0) := (qcc BK151.out 0).trans rfl; have hcz20_1 : w19.cell? ⟨gb151, 1, none⟩ = some (.int .i64 a0_1) := (qcc BK151.out 1).trans rfl; have hcz20_2 : w19.cell? ⟨gb151, 2, none⟩ = some (.int .i64 a0_2) := (qcc BK151.out 2).trans rfl; have hcz20_3 : w19.cell? ⟨gb151, 3, none⟩ = some (.int .i64 a0_3) := (qcc BK151.out 3).trans rfl; have hcz20_4 : w19.cell? ⟨gb151, 4, none⟩ = some (.int .i64 a0_4) := (qcc BK151.out 4).trans rfl; have hfz20_0 := qbc BK151.out 0; have hfz20_1 := qbc BK151.out 1; have hfz20_2 := qbc BK151.out 2; have hfz20_3 := qbc BK151.out 3; have hfz20_4 := qbc BK151.out 4) | ((with_reducible refine qtc (f := 77) rfl ?_); refine goesL_ (some 7) rfl rfl Try.func77 (by kernel_rfl) rfl #[.int .i64 a0_0, .int .i64 (-1024), .int .i64 1024] rfl (by (try simp only [List.map_toArray, List.map_cons, List.map_nil]); first | done | rfl | (simp only [List.length_drop, List.length_take]; rfl)) ?_; (with_reducible refine (spec_l1In.calls a0_0 (-1024) 1024 false _ A2.out).mono ?_); rintro e w' ⟨rfl, ⟨nd, rfl⟩⟩; refine ⟨_, rfl, ?_⟩))
  go_ret
  exact ⟨by first | rfl | (simp [errW_none, errW_some] <;> rfl) | (simp [*, errW_none, errW_some] <;> rfl), by repeat (first | (with_reducible first | exact HB.out | apply q1c | apply q2c | apply q3c | refine q4c ?_ GE151.out) | exact HB.out)⟩
/-- A state of type 113 at block g of W; what its slices lead to came in by w0. -/
def IsS113 (w0 W : World) (g : Nat) (f0 : List Int) (f1 : Int) (f2 : Int) : Prop := ∃ A0 c0, W.heap[g]? = some (.cells #[.slice A0 f0.length c0, .int .i64 f1, .int .i64 f2] 113 (0, 0)) ∧ w0.heap.size ≤ g ∧ Kd.C (Kd.int .u8) w0 A0 f0.length f0
theorem IsS113.grown {w0 W : World} {g : Nat} {f0 : List Int} {f1 : Int} {f2 : Int} {W1 : World} {row : Option Nat} (h : IsS113 w0 W g f0 f1 f2) (hw : W.grownBy W1 row) (hne : some g ≠ row) : IsS113 w0 W1 g f0 f1 f2 := by
  obtain ⟨A0, c0, hb, hg, hr0⟩ := h
  exact ⟨A0, c0, blk_grown hb hw hne, hg, hr0⟩
theorem IsS113.own_neN {w0 W : World} {g : Nat} {f0 : List Int} {f1 : Int} {f2 : Int} {α : Type} {d : Kd α} {e : Nat} {base : Nat} {ok : Nat → Prop} {v : Value} {xs : List α} (h : IsS113 w0 W g f0 f1 f2) (ho : Kd.N d e W base ok v xs) (ht : e ≠ 113) : some g ≠ v.ownBlock := by
  obtain ⟨A0, c0, hb, hg, hr0⟩ := h
  exact Kd.N_ne ho hb ht
theorem IsS113.fresh {w0 W : World} {g : Nat} {f0 : List Int} {f1 : Int} {f2 : Int} (h : IsS113 w0 W g f0 f1 f2) : ∀ k, W.heap.size ≤ k → k ≠ g := by
  obtain ⟨A0, c0, hb, hg, hr0⟩ := h
  exact Kd.freshB hb
theorem IsS113.kept {w0 W : World} {g : Nat} {f0 : List Int} {f1 : Int} {f2 : Int} {W1 : World} {S : Nat → Prop} (h : IsS113 w0 W g f0 f1 f2) (hk : Kept W W1 S) (hne : ¬ S g) : IsS113 w0 W1 g f0 f1 f2 := by
  obtain ⟨A0, c0, hb, hg, hr0⟩ := h
  exact ⟨A0, c0, blk_kept hb hk hne, hg, hr0⟩
theorem IsS113.below {w0 W : World} {g : Nat} {f0 : List Int} {f1 : Int} {f2 : Int} {W1 : World} (h : IsS113 w0 W g f0 f1 f2) (hw : Below W.heap.size W W1) : IsS113 w0 W1 g f0 f1 f2 := h.grown (grown_of_below hw none) (by simp)
theorem IsS113.alloc {w0 W : World} {g : Nat} {f0 : List Int} {f1 : Int} {f2 : Int} (h : IsS113 w0 W g f0 f1 f2) (o : Obj) : IsS113 w0 (W.alloc o) g f0 f1 f2 := h.below (q1c (Below.refl _ _) o)
theorem IsS113.drewN {w0 W : World} {g : Nat} {f0 : List Int} {f1 : Int} {f2 : Int} (h : IsS113 w0 W g f0 f1 f2) (m : Nat) : IsS113 w0 (W.drewN m) g f0 f1 f2 := h
theorem IsS113.drew {w0 W : World} {g : Nat} {f0 : List Int} {f1 : Int} {f2 : Int} (h : IsS113 w0 W g f0 f1 f2) : IsS113 w0 W.drew g f0 f1 f2 := h
theorem IsS113.at_ {w0 W : World} {g : Nat} {f0 : List Int} {f1 : Int} {f2 : Int} {w' : World} {m : Nat} (hq : W.drewN m = w') (h : IsS113 w0 W g f0 f1 f2) : IsS113 w0 w' g f0 f1 f2 := by subst hq; exact IsS113.drewN h m
theorem IsS113.apart {w0 W : World} {g : Nat} {f0 : List Int} {f1 : Int} {f2 : Int} {α : Type} {d : Kd α} {e : Nat} {base : Nat} {ok : Nat → Prop} {v : Value} {xs : List α} (h : IsS113 w0 W g f0 f1 f2) (ho : d.R e W base ok v xs) (ht : ∀ q, q ∈ e :: d.E → q ≠ 113) : d.R e W base (fun k => ok k ∧ k ≠ g) v xs := by
  obtain ⟨A0, c0, hb, hg, hr0⟩ := h
  exact Kd.R_types ho hb ht
theorem IsS113.own_ne {w0 W : World} {g : Nat} {f0 : List Int} {f1 : Int} {f2 : Int} {α : Type} {d : Kd α} {e : Nat} {base : Nat} {ok : Nat → Prop} {v : Value} {xs : List α} (h : IsS113 w0 W g f0 f1 f2) (ho : d.R e W base ok v xs) (ht : e ≠ 113) : some g ≠ v.ownBlock := by
  obtain ⟨A0, c0, hb, hg, hr0⟩ := h
  exact Kd.R_ne ho hb ht
theorem IsS113.apartQ {w0 W : World} {g : Nat} {f0 : List Int} {f1 : Int} {f2 : Int} {α : Type} {d : Kd α} {e : Nat} {base : Nat} {ok : Nat → Prop} {v : Value} {xs : List α} (h : IsS113 w0 W g f0 f1 f2) (ho : d.Q e W base ok v xs) (ht : ∀ q, q ∈ e :: d.E → q ≠ 113) : d.Q e W base (fun k => ok k ∧ k ≠ g) v xs := by
  obtain ⟨A0, c0, hb, hg, hr0⟩ := h
  exact Kd.Q_types ho hb ht
theorem IsS113.own_neQ {w0 W : World} {g : Nat} {f0 : List Int} {f1 : Int} {f2 : Int} {α : Type} {d : Kd α} {e : Nat} {base : Nat} {ok : Nat → Prop} {v : Value} {xs : List α} (h : IsS113 w0 W g f0 f1 f2) (ho : d.Q e W base ok v xs) (ht : e ≠ 113) : some g ≠ v.ownBlock := by
  obtain ⟨A0, c0, hb, hg, hr0⟩ := h
  exact Kd.Q_ne ho hb ht
theorem IsS113.apartS {w0 W : World} {g : Nat} {f0 : List Int} {f1 : Int} {f2 : Int} {α : Type} {d : Kd α} {e : Nat} {base : Nat} {ok : Nat → Prop} {v : Value} {xs : List α} (h : IsS113 w0 W g f0 f1 f2) (ho : d.S e W base ok v xs) (ht : ∀ q, q ∈ e :: d.E → q ≠ 113) : d.S e W base (fun k => ok k ∧ k ≠ g) v xs := by
  obtain ⟨A0, c0, hb, hg, hr0⟩ := h
  exact Kd.S_types ho hb ht
theorem IsS113.own_neS {w0 W : World} {g : Nat} {f0 : List Int} {f1 : Int} {f2 : Int} {α : Type} {d : Kd α} {e : Nat} {base : Nat} {ok : Nat → Prop} {v : Value} {xs : List α} (h : IsS113 w0 W g f0 f1 f2) (ho : d.S e W base ok v xs) (ht : e ≠ 113) : some g ≠ v.ownBlock := by
  obtain ⟨A0, c0, hb, hg, hr0⟩ := h
  exact Kd.S_ne ho hb ht
theorem IsS113.lt {w0 W : World} {g : Nat} {f0 : List Int} {f1 : Int} {f2 : Int} (h : IsS113 w0 W g f0 f1 f2) : g < W.heap.size := by
  obtain ⟨A0, c0, hb, hg, hr0⟩ := h
  exact qdc hb
theorem IsS113.ge {w0 W : World} {g : Nat} {f0 : List Int} {f1 : Int} {f2 : Int} (h : IsS113 w0 W g f0 f1 f2) : w0.heap.size ≤ g := by
  obtain ⟨A0, c0, hb, hg, hr0⟩ := h
  exact hg
theorem IsS113.ne_blk {w0 W : World} {g : Nat} {f0 : List Int} {f1 : Int} {f2 : Int} {a : Nat} {cs : Array Value} {t : TypeId} {fr : Nat × Nat} (h : IsS113 w0 W g f0 f1 f2) (hb2 : W.heap[a]? = some (.cells cs t fr)) (ht : t ≠ 113) : g ≠ a := by
  obtain ⟨A0, c0, hb, hg, hr0⟩ := h
  rintro rfl
  rw [hb] at hb2
  injection hb2 with hb2
  injection hb2 with _ ht2
  exact ht ht2.symm
theorem IsS113.far {w0 W : World} {g : Nat} {f0 : List Int} {f1 : Int} {f2 : Int} {p : Addr} (h : IsS113 w0 W g f0 f1 f2) (hne : g ≠ p.block) (u : Value) : IsS113 w0 (W.setCell p u) g f0 f1 f2 := by
  obtain ⟨A0, c0, hb, hg, hr0⟩ := h
  exact ⟨A0, c0, qec hb hne u, hg, hr0⟩
theorem cellS113_0 {W : World} {g : Nat} {A0 : Option Addr} {c0 : Nat} {f0 : List Int} {f1 : Int} {f2 : Int} (h : W.heap[g]? = some (.cells #[.slice A0 f0.length c0, .int .i64 f1, .int .i64 f2] 113 (0, 0))) : W.cell? ⟨g, 0, none⟩ = some (.slice A0 f0.length c0) := (qcc h 0).trans rfl
theorem cellS113_1 {W : World} {g : Nat} {A0 : Option Addr} {c0 : Nat} {f0 : List Int} {f1 : Int} {f2 : Int} (h : W.heap[g]? = some (.cells #[.slice A0 f0.length c0, .int .i64 f1, .int .i64 f2] 113 (0, 0))) : W.cell? ⟨g, 1, none⟩ = some (.int .i64 f1) := (qcc h 1).trans rfl
theorem IsS113.set_1 {w0 W : World} {g : Nat} {f0 : List Int} {f1 : Int} {f2 : Int} (h : IsS113 w0 W g f0 f1 f2) (x : Int) : IsS113 w0 (W.setCell ⟨g, 1, none⟩ (.int .i64 x)) g f0 x f2 := by
  obtain ⟨A0, c0, hb, hg, hr0⟩ := h
  exact ⟨A0, c0, by simpa using blk_set hb 1 (.int .i64 x), hg, hr0⟩
theorem cellS113_2 {W : World} {g : Nat} {A0 : Option Addr} {c0 : Nat} {f0 : List Int} {f1 : Int} {f2 : Int} (h : W.heap[g]? = some (.cells #[.slice A0 f0.length c0, .int .i64 f1, .int .i64 f2] 113 (0, 0))) : W.cell? ⟨g, 2, none⟩ = some (.int .i64 f2) := (qcc h 2).trans rfl
theorem IsS113.set_2 {w0 W : World} {g : Nat} {f0 : List Int} {f1 : Int} {f2 : Int} (h : IsS113 w0 W g f0 f1 f2) (x : Int) : IsS113 w0 (W.setCell ⟨g, 2, none⟩ (.int .i64 x)) g f0 f1 x := by
  obtain ⟨A0, c0, hb, hg, hr0⟩ := h
  exact ⟨A0, c0, by simpa using blk_set hb 2 (.int .i64 x), hg, hr0⟩
theorem IsS113.new (w0 W : World) (A0 : Option Addr) (c0 : Nat) (f0 : List Int) (f1 : Int) (f2 : Int) (hB : Below w0.heap.size w0 W) (hr0 : Kd.C (Kd.int .u8) w0 A0 f0.length f0) : IsS113 w0 (W.alloc (.cells #[.slice A0 f0.length c0, .int .i64 f1, .int .i64 f2] 113)) W.heap.size f0 f1 f2 := ⟨A0, c0, by simpa using heap_alloc_new W _, hB.size, hr0⟩

/-! ### spec_l1New: function 86 -/
def spec_l1New.l0 : Nat → List Int → Int → Int → Option (List Int × Int × Int)
  | 0, _, _, _ => none
  | k + 1, x0, x3, x4 => if x4 < (x0.length : Int) then (if x4 < 4000 then (if 0 ≤ x4 then (spec_l1New.l0 k x0 (Go.bits .and .i64 (wrap64 ((wrap64 ((wrap64 (x3 * 167)) + (wrap64 (rd x0 x4)))) + 29)) 1073741823) (wrap64 (x4 + 1))) else (none)) else (some (x0, 0, x3))) else (some (x0, 0, x3))
def spec_l1New.f (k : Nat) (l0 : List Int) : Option (List Int × Int × Int) := spec_l1New.l0 k l0 (wrap64 (620033 + (wrap64 (3 * (l0.length : Int))))) 0
theorem spec_l1New.mono_l : ∀ k, (∀ y0 y1 y2, LeO (spec_l1New.l0 k y0 y1 y2) (spec_l1New.l0 (k + 1) y0 y1 y2))
  | 0 => fun _ _ _ r h => by simp [spec_l1New.l0] at h
  | k + 1 => by
    have ih0 := spec_l1New.mono_l k
    · intro y0 y1 y2
      unfold spec_l1New.l0
      repeat' first
      | (with_reducible exact ih0 _ _ _)
      | (with_reducible exact LeO.refl _)
      | (with_reducible exact LeO.none _)
      | (with_reducible refine LeO.ite ?_ ?_)
      | (with_reducible refine LeO.bind ?_ (fun _ => ?_))
      | exact ih0 _ _ _
      | exact LeO.none _
      | refine LeO.ite ?_ ?_
      | refine LeO.bind ?_ (fun _ => ?_)
theorem spec_l1New.mono : ∀ a0 k, LeO (spec_l1New.f k a0) (spec_l1New.f (k + 1) a0) := by
  intro a0 k
  have ih0 := spec_l1New.mono_l k
  unfold spec_l1New.f
  repeat' first
      | (with_reducible exact ih0 _ _ _)
      | (with_reducible exact LeO.refl _)
      | (with_reducible exact LeO.none _)
      | (with_reducible refine LeO.ite ?_ ?_)
      | (with_reducible refine LeO.bind ?_ (fun _ => ?_))
      | exact ih0 _ _ _
      | exact LeO.none _
      | refine LeO.ite ?_ ?_
      | refine LeO.bind ?_ (fun _ => ?_)
set_option maxHeartbeats 8000000 in
set_option maxRecDepth 100000 in
theorem spec_l1New.calls (k : Nat) (A0 : Option Addr) (c0 : Nat) (l0 : List Int) (r1 : List Int) (r2 : Int) (r3 : Int) (w0 w : World) (hB : Below w0.heap.size w0 w) (hr0 : Kd.C (Kd.int .u8) w0 A0 l0.length l0) (hc0 : l0.length ≤ c0) (h : spec_l1New.f k l0 = some (r1, r2, r3)) :
 Calls Try.prog 86 #[.slice A0 l0.length c0] w fun e w' => ∃ g_ : Nat, e = .returned (.pointer (some ⟨g_, 0, none⟩)) ∧ IsS113 w0 w' g_ r1 r2 r3 ∧ Below w0.heap.size w0 w' ∧ Below w.heap.size w w' := by
 have hu113 := Try.underlying113
 have HR0 := qgc hr0
 have HC0 := qgc hc0
 clear hr0 hc0
 have HBW := qgc (Below.refl w.heap.size w)
 have HW0 := qgc hB.size
 have HB := qgc hB
 clear hB
 have H : (spec_l1New.l0 k l0 (wrap64 (620033 + (wrap64 (3 * (l0.length : Int))))) 0) = some (r1, r2, r3) := h
 clear h
 have H' := qgc H
 clear H
 go_enter Try.func86, Try.ntmps86
 go_wp2
 go_loopg [3, 4] k (fun kq v3 v4 w' => ∃ (x3_1 : Int) (x4_1 : Int), v3 = .int .i64 x3_1 ∧ v4 = .int .i64 x4_1 ∧ Aside0 (spec_l1New.l0 kq l0 x3_1 x4_1 = some (r1, r2, r3)) ∧ Aside0 (kq ≤ k) ∧ Aside0 (Below w0.heap.size w0 w') ∧ Aside0 (Below w.heap.size w w'))
 case atStart => exact ⟨(wrap64 (620033 + (wrap64 (3 * (l0.length : Int))))), (0), (by first | rfl | (simp; done) | (simp [*]; done)), (by first | rfl | (simp; done) | (simp [*]; done)), H', ⟨Nat.le_refl _⟩, ⟨by repeat (first | (with_reducible first | exact HB.out | apply q1c | apply q2c | apply q3c) | exact HB.out)⟩, ⟨by repeat (first | (with_reducible first | exact HBW.out | apply q1c | apply q2c | apply q3c) | exact HBW.out)⟩⟩
 case round =>
  clear H'
  obtain ⟨x3_1, x4_1, rfl, rfl, HA, HK1, HB, HBW⟩ := hrel
  cases gk with
  | zero => exact absurd HA.out (by simp [spec_l1New.l0])
  | succ k1 =>
   have H := HA.out
   clear HA
   simp only [spec_l1New.l0] at H
   by_cases c2 : x4_1 < (l0.length : Int)
   ·rw [if_pos c2] at H
    have c2b0 : decide (x4_1 < (l0.length : Int)) = true := decide_eq_true c2
    clear c2
    by_cases c3 : x4_1 < 4000
    ·rw [if_pos c3] at H
     have c3b0 : decide (x4_1 < 4000) = true := decide_eq_true c3
     clear c3
     by_cases c4 : 0 ≤ x4_1
     ·rw [if_pos c4] at H
      have c4b0 : decide (0 ≤ x4_1) = true := decide_eq_true c4
      clear c4
      have H' := qgc H
      clear H
      have p157 : 0 ≤ (x4_1 : Int) := of_decide_eq_true (by first | (with_reducible assumption) | assumption)
      have q157 : x4_1 < (l0.length : Int) := of_decide_eq_true (by first | (with_reducible assumption) | assumption)
      obtain ⟨ad157, e157, hx157_0⟩ := Kd.at_int HR0.out x4_1 p157 q157
      cases e157
      replace hx157_0 := pw_cell_below HB.out hx157_0
      replace p157 := eq_true p157
      replace q157 := eq_true q157
      go_wp2
      go_roundg k1
      case measure => have := HK1.out; omega
      case rel => exact ⟨(Go.bits .and .i64 (wrap64 ((wrap64 ((wrap64 (x3_1 * 167)) + (wrap64 (rd l0 x4_1)))) + 29)) 1073741823), (wrap64 (x4_1 + 1)), (by first | rfl | (simp; done) | (simp [*]; done)), (by first | rfl | (simp; done) | (simp [*]; done)), H', ⟨by have := HK1.out; omega⟩, ⟨by repeat (first | (with_reducible first | exact HB.out | apply q1c | apply q2c | apply q3c) | exact HB.out)⟩, ⟨by repeat (first | (with_reducible first | exact HBW.out | apply q1c | apply q2c | apply q3c) | exact HBW.out)⟩⟩
     ·rw [if_neg c4] at H
      exact absurd H (by simp)
    ·rw [if_neg c3] at H
     have c3b0 : decide (x4_1 < 4000) = false := decide_eq_false c3
     clear c3
     simp only [Option.some.injEq, Prod.mk.injEq] at H
     obtain ⟨rfl, rfl, rfl⟩ := H
     go_wp2_with (first | ((with_reducible refine quc (N := 32) rfl ?_); refine qhc ?hg (N := 32) ?hd (cs := #[.slice A0 l0.length c0, .int .i64 0, .int .i64 x3_1]) (t := 113) ?hr ?_; (case hd => rfl); (case hg => rfl); (case hr => first | (go_simp; done) | (go_simp; rfl)); intro gb158 hg w5 hbox hb; have n0_ := qgc (q9c HBW.out hb); have n1_ := qgc (q9c (by repeat (first | (with_reducible first | exact HB.out | apply q1c | apply q2c | apply q3c) | exact HB.out)) hb); have n2_ := qgc (hbox); have n3_ := qgc ((by rw [hg]; exact (qac (by repeat (first | (with_reducible first | exact HBW.out | apply q1c | apply q2c | apply q3c) | exact HBW.out))) : w.heap.size ≤ gb158)); have n4_ := qgc ((Nat.le_trans HW0.out (by rw [hg]; exact (qac (by repeat (first | (with_reducible first | exact HBW.out | apply q1c | apply q2c | apply q3c) | exact HBW.out))) : w.heap.size ≤ gb158) : w0.heap.size ≤ gb158)); clear HBW; clear HB; have HBW := n0_; have HB := n1_; have BK158 := n2_; have GW158 := n3_; have GE158 := n4_; clear n0_ n1_ n2_ n3_ n4_; clear hb hbox hg))
     go_ret
     exact ⟨_, rfl, (show IsS113 w0 _ gb158 l0 0 x3_1 from ⟨_, _, by (with_reducible repeat (first | refine q5c ?_ _ | refine q6c ?_ | refine q7c ?_ _)); exact BK158.out, GE158.out, HR0.out⟩), by repeat (first | (with_reducible first | exact HB.out | apply q1c | apply q2c | apply q3c | refine q4c ?_ GE158.out) | exact HB.out), by repeat (first | (with_reducible first | exact HBW.out | apply q1c | apply q2c | apply q3c | refine q4c ?_ GW158.out) | exact HBW.out)⟩
   ·rw [if_neg c2] at H
    have c2b0 : decide (x4_1 < (l0.length : Int)) = false := decide_eq_false c2
    clear c2
    simp only [Option.some.injEq, Prod.mk.injEq] at H
    obtain ⟨rfl, rfl, rfl⟩ := H
    go_wp2_with (first | ((with_reducible refine quc (N := 32) rfl ?_); refine qhc ?hg (N := 32) ?hd (cs := #[.slice A0 l0.length c0, .int .i64 0, .int .i64 x3_1]) (t := 113) ?hr ?_; (case hd => rfl); (case hg => rfl); (case hr => first | (go_simp; done) | (go_simp; rfl)); intro gb159 hg w6 hbox hb; have n0_ := qgc (q9c HBW.out hb); have n1_ := qgc (q9c (by repeat (first | (with_reducible first | exact HB.out | apply q1c | apply q2c | apply q3c) | exact HB.out)) hb); have n2_ := qgc (hbox); have n3_ := qgc ((by rw [hg]; exact (qac (by repeat (first | (with_reducible first | exact HBW.out | apply q1c | apply q2c | apply q3c) | exact HBW.out))) : w.heap.size ≤ gb159)); have n4_ := qgc ((Nat.le_trans HW0.out (by rw [hg]; exact (qac (by repeat (first | (with_reducible first | exact HBW.out | apply q1c | apply q2c | apply q3c) | exact HBW.out))) : w.heap.size ≤ gb159) : w0.heap.size ≤ gb159)); clear HBW; clear HB; have HBW := n0_; have HB := n1_; have BK159 := n2_; have GW159 := n3_; have GE159 := n4_; clear n0_ n1_ n2_ n3_ n4_; clear hb hbox hg))
    go_ret
    exact ⟨_, rfl, (show IsS113 w0 _ gb159 l0 0 x3_1 from ⟨_, _, by (with_reducible repeat (first | refine q5c ?_ _ | refine q6c ?_ | refine q7c ?_ _)); exact BK159.out, GE159.out, HR0.out⟩), by repeat (first | (with_reducible first | exact HB.out | apply q1c | apply q2c | apply q3c | refine q4c ?_ GE159.out) | exact HB.out), by repeat (first | (with_reducible first | exact HBW.out | apply q1c | apply q2c | apply q3c | refine q4c ?_ GW159.out) | exact HBW.out)⟩
/-! ### spec_l1Byte: function 105 -/
def spec_l1Byte.f (s0_0 : List Int) (s0_1 : Int) (s0_2 : Int) : Option (Int × Int × Int) := if s0_1 < (s0_0.length : Int) then (if 0 ≤ s0_1 then (some (Go.bits .and .i64 (wrap64 ((Go.bits .and .i64 (Go.bits .xor .i64 ((wrap64 ((wrap64 (s0_2 * 6364136223846793005)) + 1442695040888963407)) / 34359738368) ((wrap64 ((wrap64 (s0_2 * 6364136223846793005)) + 1442695040888963407)) / 35184372088832)) 255) + (wrap64 (rd s0_0 s0_1)))) 255, wrap64 (s0_1 + 1), wrap64 ((wrap64 (s0_2 * 6364136223846793005)) + 1442695040888963407))) else (none)) else (some (Go.bits .and .i64 (Go.bits .xor .i64 ((wrap64 ((wrap64 (s0_2 * 6364136223846793005)) + 1442695040888963407)) / 34359738368) ((wrap64 ((wrap64 (s0_2 * 6364136223846793005)) + 1442695040888963407)) / 35184372088832)) 255, s0_1, wrap64 ((wrap64 (s0_2 * 6364136223846793005)) + 1442695040888963407)))
set_option maxHeartbeats 8000000 in
set_option maxRecDepth 100000 in
theorem spec_l1Byte.calls (g : Nat) (s0_0 : List Int) (s0_1 : Int) (s0_2 : Int) (r1 : Int) (r2 : Int) (r3 : Int) (w0 w : World) (hI : IsS113 w0 w g s0_0 s0_1 s0_2) (hB : Below w0.heap.size w0 w) (h : spec_l1Byte.f s0_0 s0_1 s0_2 = some (r1, r2, r3)) :
 Calls Try.prog 105 #[.pointer (some ⟨g, 0, none⟩)] w fun e w' => e = .returned (.int .i64 r1) ∧ IsS113 w0 w' g s0_0 r2 r3 ∧ Below w0.heap.size w0 w' ∧ KeepBut w w' g none := by
 have HI0 := qgc hI
 have HK := qgc (KeepBut.refl w g none)
 have HL := qgc hB.size
 clear hI
 have HW0 := qgc hB.size
 have HB := qgc hB
 clear hB
 have H : (if s0_1 < (s0_0.length : Int) then (if 0 ≤ s0_1 then (some (Go.bits .and .i64 (wrap64 ((Go.bits .and .i64 (Go.bits .xor .i64 ((wrap64 ((wrap64 (s0_2 * 6364136223846793005)) + 1442695040888963407)) / 34359738368) ((wrap64 ((wrap64 (s0_2 * 6364136223846793005)) + 1442695040888963407)) / 35184372088832)) 255) + (wrap64 (rd s0_0 s0_1)))) 255, wrap64 (s0_1 + 1), wrap64 ((wrap64 (s0_2 * 6364136223846793005)) + 1442695040888963407))) else (none)) else (some (Go.bits .and .i64 (Go.bits .xor .i64 ((wrap64 ((wrap64 (s0_2 * 6364136223846793005)) + 1442695040888963407)) / 34359738368) ((wrap64 ((wrap64 (s0_2 * 6364136223846793005)) + 1442695040888963407)) / 35184372088832)) 255, s0_1, wrap64 ((wrap64 (s0_2 * 6364136223846793005)) + 1442695040888963407)))) = some (r1, r2, r3) := h
 clear h
 by_cases c2 : s0_1 < (s0_0.length : Int)
 ·rw [if_pos c2] at H
  have c2b0 : decide (s0_1 < (s0_0.length : Int)) = true := decide_eq_true c2
  clear c2
  by_cases c3 : 0 ≤ s0_1
  ·rw [if_pos c3] at H
   have c3b0 : decide (0 ≤ s0_1) = true := decide_eq_true c3
   clear c3
   simp only [Option.some.injEq, Prod.mk.injEq] at H
   obtain ⟨rfl, rfl, rfl⟩ := H
   obtain ⟨ASz4_0, cSz4_0, HGz4, hgz4, HSz4_0⟩ := HI0.out
   have hcz4_0 := cellS113_0 HGz4
   have hcz4_1 := cellS113_1 HGz4
   have hcz4_2 := cellS113_2 HGz4
   have hfz4_1 := qbc HGz4 1
   have hfz4_2 := qbc HGz4 2
   clear HGz4 hgz4
   have p160 : 0 ≤ (s0_1 : Int) := of_decide_eq_true (by first | (with_reducible assumption) | assumption)
   have q160 : s0_1 < (s0_0.length : Int) := of_decide_eq_true (by first | (with_reducible assumption) | assumption)
   obtain ⟨ad160, e160, hx160_0⟩ := Kd.at_int HSz4_0 s0_1 p160 q160
   cases e160
   have hn160_0 : ad160.block ≠ g := qvc (Nat.lt_of_lt_of_le (by have := World.block_lt_of_cell? _ _ hx160_0; first | rwa [add_block] at this | exact this) (IsS113.ge HI0.out))
   replace hx160_0 := pw_cell_below HB.out hx160_0
   replace hx160_0 := (qic (p := ⟨g, 2, none⟩) (by first | (rw [add_block]; exact hn160_0) | (show (Addr.add _ _).block ≠ _; rw [add_block]; exact hn160_0) | exact hn160_0) (.int .i64 (wrap64 ((wrap64 (s0_2 * 6364136223846793005)) + 1442695040888963407)))).trans hx160_0
   (try have hy160_0 := fun (n_ : Nat) => (show (((w.drewN n_).setCell ⟨g, 2, none⟩ (.int .i64 (wrap64 ((wrap64 (s0_2 * 6364136223846793005)) + 1442695040888963407))))).cell? _ = some _ from hx160_0))
   clear hn160_0
   replace p160 := eq_true p160
   replace q160 := eq_true q160
   go_enter Try.func105, Try.ntmps105
   go_wp2
   repeat (go_quiet (fail); try go_wp2)
   go_ret
   exact ⟨by first | rfl | (simp [errW_none, errW_some] <;> rfl) | (simp [*, errW_none, errW_some] <;> rfl), by repeat (first | (with_reducible first | exact HI0.out | apply IsS113.alloc | apply IsS113.drewN | apply IsS113.drew | apply IsS113.set_1 | apply IsS113.set_2) | exact HI0.out), by repeat (first | (with_reducible first | exact HB.out | apply q1c | apply q2c | apply q3c | refine q4c ?_ (IsS113.ge HI0.out)) | exact HB.out), by repeat (first | (with_reducible first | exact HK.out | apply KeepBut.set_ | apply keep_drewN | apply keep_drew | apply keep_alloc) | exact HK.out)⟩
  ·rw [if_neg c3] at H
   exact absurd H (by simp)
 ·rw [if_neg c2] at H
  have c2b0 : decide (s0_1 < (s0_0.length : Int)) = false := decide_eq_false c2
  clear c2
  simp only [Option.some.injEq, Prod.mk.injEq] at H
  obtain ⟨rfl, rfl, rfl⟩ := H
  obtain ⟨ASz5_0, cSz5_0, HGz5, hgz5, HSz5_0⟩ := HI0.out
  have hcz5_0 := cellS113_0 HGz5
  have hcz5_1 := cellS113_1 HGz5
  have hcz5_2 := cellS113_2 HGz5
  have hfz5_1 := qbc HGz5 1
  have hfz5_2 := qbc HGz5 2
  clear HGz5 hgz5
  go_enter Try.func105, Try.ntmps105
  go_wp2
  repeat (go_quiet (fail); try go_wp2)
  go_ret
  exact ⟨by first | rfl | (simp [errW_none, errW_some] <;> rfl) | (simp [*, errW_none, errW_some] <;> rfl), by repeat (first | (with_reducible first | exact HI0.out | apply IsS113.alloc | apply IsS113.drewN | apply IsS113.drew | apply IsS113.set_1 | apply IsS113.set_2) | exact HI0.out), by repeat (first | (with_reducible first | exact HB.out | apply q1c | apply q2c | apply q3c | refine q4c ?_ (IsS113.ge HI0.out)) | exact HB.out), by repeat (first | (with_reducible first | exact HK.out | apply KeepBut.set_ | apply keep_drewN | apply keep_drew | apply keep_alloc) | exact HK.out)⟩
/-! ### spec_l1Below: function 88 -/
def spec_l1Below.f (s0_0 : List Int) (s0_1 : Int) (s0_2 : Int) (a1 : Int) : Option (Int × Int × Int) := if a1 ≤ 0 then (some (0, s0_1, s0_2)) else (if a1 ≤ 256 then ((spec_l1Byte.f s0_0 s0_1 s0_2).bind fun bt161 => (if a1 = 0 then (none) else (some (Int.tmod bt161.1 a1, bt161.2.1, bt161.2.2)))) else ((spec_l1Byte.f s0_0 s0_1 s0_2).bind fun bt164 => ((spec_l1Byte.f s0_0 bt164.2.1 bt164.2.2).bind fun bt167 => ((spec_l1Byte.f s0_0 bt167.2.1 bt167.2.2).bind fun bt170 => (if a1 = 0 then (none) else (some (Int.tmod (wrap64 ((wrap64 ((wrap64 (bt164.1 * 65536)) + (wrap64 (bt167.1 * 256)))) + bt170.1)) a1, bt170.2.1, bt170.2.2)))))))
set_option maxHeartbeats 8000000 in
set_option maxRecDepth 100000 in
theorem spec_l1Below.calls (g : Nat) (s0_0 : List Int) (s0_1 : Int) (s0_2 : Int) (a1 : Int) (r1 : Int) (r2 : Int) (r3 : Int) (w0 w : World) (hI : IsS113 w0 w g s0_0 s0_1 s0_2) (hB : Below w0.heap.size w0 w) (h : spec_l1Below.f s0_0 s0_1 s0_2 a1 = some (r1, r2, r3)) :
 Calls Try.prog 88 #[.pointer (some ⟨g, 0, none⟩), .int .i64 a1] w fun e w' => e = .returned (.int .i64 r1) ∧ IsS113 w0 w' g s0_0 r2 r3 ∧ Below w0.heap.size w0 w' ∧ KeepBut w w' g none := by
 have HI0 := qgc hI
 have HK := qgc (KeepBut.refl w g none)
 have HL := qgc hB.size
 clear hI
 have HW0 := qgc hB.size
 have HB := qgc hB
 clear hB
 have H : (if a1 ≤ 0 then (some (0, s0_1, s0_2)) else (if a1 ≤ 256 then ((spec_l1Byte.f s0_0 s0_1 s0_2).bind fun bt161 => (if a1 = 0 then (none) else (some (Int.tmod bt161.1 a1, bt161.2.1, bt161.2.2)))) else ((spec_l1Byte.f s0_0 s0_1 s0_2).bind fun bt164 => ((spec_l1Byte.f s0_0 bt164.2.1 bt164.2.2).bind fun bt167 => ((spec_l1Byte.f s0_0 bt167.2.1 bt167.2.2).bind fun bt170 => (if a1 = 0 then (none) else (some (Int.tmod (wrap64 ((wrap64 ((wrap64 (bt164.1 * 65536)) + (wrap64 (bt167.1 * 256)))) + bt170.1)) a1, bt170.2.1, bt170.2.2)))))))) = some (r1, r2, r3) := h
 clear h
 by_cases c3 : a1 ≤ 0
 ·rw [if_pos c3] at H
  have c3b0 : decide (a1 ≤ 0) = true := decide_eq_true c3
  clear c3
  simp only [Option.some.injEq, Prod.mk.injEq] at H
  obtain ⟨rfl, rfl, rfl⟩ := H
  go_enter Try.func88, Try.ntmps88
  go_wp2
  go_ret
  exact ⟨by first | rfl | (simp [errW_none, errW_some] <;> rfl) | (simp [*, errW_none, errW_some] <;> rfl), by repeat (first | (with_reducible first | exact HI0.out | apply IsS113.alloc | apply IsS113.drewN | apply IsS113.drew | apply IsS113.set_1 | apply IsS113.set_2) | exact HI0.out), by repeat (first | (with_reducible first | exact HB.out | apply q1c | apply q2c | apply q3c | refine q4c ?_ (IsS113.ge HI0.out)) | exact HB.out), by repeat (first | (with_reducible first | exact HK.out | apply KeepBut.set_ | apply keep_drewN | apply keep_drew | apply keep_alloc) | exact HK.out)⟩
 ·rw [if_neg c3] at H
  have c3b0 : decide (a1 ≤ 0) = false := decide_eq_false c3
  clear c3
  by_cases c4 : a1 ≤ 256
  ·rw [if_pos c4] at H
   have c4b0 : decide (a1 ≤ 256) = true := decide_eq_true c4
   clear c4
   replace H := Option.bind_eq_some_iff.mp H
   obtain ⟨⟨t161, t162, t163⟩, A50, H⟩ := H
   replace H : (if a1 = 0 then (none) else (some (Int.tmod t161 a1, t162, t163))) = some (r1, r2, r3) := H
   have A5 := qgc A50
   clear A50
   by_cases c6 : a1 = 0
   ·rw [if_pos c6] at H
    exact absurd H (by simp)
   ·rw [if_neg c6] at H
    have c6b0 : (a1 == 0) = false := beq_eq_false_iff_ne.mpr c6
    have c6b1 : (a1 != 0) = true := bne_iff_ne.mpr c6
    simp only [Option.some.injEq, Prod.mk.injEq] at H
    obtain ⟨rfl, rfl, rfl⟩ := H
    go_enter Try.func88, Try.ntmps88
    go_wp2_with (first | ((with_reducible refine qtc (f := 105) rfl ?_); refine goesL_ (some 13) rfl rfl Try.func105 (by kernel_rfl) rfl #[.pointer (some ⟨g, 0, none⟩)] rfl (by (try simp only [List.map_toArray, List.map_cons, List.map_nil]); first | done | rfl | (simp only [List.length_drop, List.length_take]; rfl)) ?_; (with_reducible refine (spec_l1Byte.calls g s0_0 s0_1 s0_2 t161 t162 t163 w0 _ ?side1 ?side2 A5.out).mono ?_); (case side1 => repeat (first | (with_reducible first | exact HI0.out | apply IsS113.alloc | apply IsS113.drewN | apply IsS113.drew | apply IsS113.set_1 | apply IsS113.set_2) | exact HI0.out)); (case side2 => repeat (first | (with_reducible first | exact HB.out | apply q1c | apply q2c | apply q3c | refine q4c ?_ (IsS113.ge HI0.out)) | exact HB.out)); rintro e w7 ⟨rfl, hi, hb, hk⟩; refine ⟨_, rfl, ?_⟩; have n0_ := qgc (KeepBut.trans (by repeat (first | (with_reducible first | exact HK.out | apply KeepBut.set_ | apply keep_drewN | apply keep_drew | apply keep_alloc) | exact HK.out)) hk (.inl rfl)); have n1_ := qgc (hb); have n2_ := qgc (hi); clear HK; clear HB; clear HI0; have HK := n0_; have HB := n1_; have HI0 := n2_; clear n0_ n1_ n2_; (try clear hb); (try clear hb2); (try clear hk); (try clear hi)))
    go_ret
    exact ⟨by first | rfl | (simp [errW_none, errW_some] <;> rfl) | (simp [*, errW_none, errW_some] <;> rfl), by repeat (first | (with_reducible first | exact HI0.out | apply IsS113.alloc | apply IsS113.drewN | apply IsS113.drew | apply IsS113.set_1 | apply IsS113.set_2) | exact HI0.out), by repeat (first | (with_reducible first | exact HB.out | apply q1c | apply q2c | apply q3c | refine q4c ?_ (IsS113.ge HI0.out)) | exact HB.out), by repeat (first | (with_reducible first | exact HK.out | apply KeepBut.set_ | apply keep_drewN | apply keep_drew | apply keep_alloc) | exact HK.out)⟩
  ·rw [if_neg c4] at H
   have c4b0 : decide (a1 ≤ 256) = false := decide_eq_false c4
   clear c4
   replace H := Option.bind_eq_some_iff.mp H
   obtain ⟨⟨t164, t165, t166⟩, A80, H⟩ := H
   replace H : ((spec_l1Byte.f s0_0 t165 t166).bind fun bt167 => ((spec_l1Byte.f s0_0 bt167.2.1 bt167.2.2).bind fun bt170 => (if a1 = 0 then (none) else (some (Int.tmod (wrap64 ((wrap64 ((wrap64 (t164 * 65536)) + (wrap64 (bt167.1 * 256)))) + bt170.1)) a1, bt170.2.1, bt170.2.2))))) = some (r1, r2, r3) := H
   have A8 := qgc A80
   clear A80
   replace H := Option.bind_eq_some_iff.mp H
   obtain ⟨⟨t167, t168, t169⟩, A90, H⟩ := H
   replace H : ((spec_l1Byte.f s0_0 t168 t169).bind fun bt170 => (if a1 = 0 then (none) else (some (Int.tmod (wrap64 ((wrap64 ((wrap64 (t164 * 65536)) + (wrap64 (t167 * 256)))) + bt170.1)) a1, bt170.2.1, bt170.2.2)))) = some (r1, r2, r3) := H
   have A9 := qgc A90
   clear A90
   replace H := Option.bind_eq_some_iff.mp H
   obtain ⟨⟨t170, t171, t172⟩, A100, H⟩ := H
   replace H : (if a1 = 0 then (none) else (some (Int.tmod (wrap64 ((wrap64 ((wrap64 (t164 * 65536)) + (wrap64 (t167 * 256)))) + t170)) a1, t171, t172))) = some (r1, r2, r3) := H
   have A10 := qgc A100
   clear A100
   by_cases c11 : a1 = 0
   ·rw [if_pos c11] at H
    exact absurd H (by simp)
   ·rw [if_neg c11] at H
    have c11b0 : (a1 == 0) = false := beq_eq_false_iff_ne.mpr c11
    have c11b1 : (a1 != 0) = true := bne_iff_ne.mpr c11
    simp only [Option.some.injEq, Prod.mk.injEq] at H
    obtain ⟨rfl, rfl, rfl⟩ := H
    go_enter Try.func88, Try.ntmps88
    go_wp2_with (first | ((with_reducible refine qtc (f := 105) rfl ?_); refine goesL_ (some 17) rfl rfl Try.func105 (by kernel_rfl) rfl #[.pointer (some ⟨g, 0, none⟩)] rfl (by (try simp only [List.map_toArray, List.map_cons, List.map_nil]); first | done | rfl | (simp only [List.length_drop, List.length_take]; rfl)) ?_; (with_reducible refine (spec_l1Byte.calls g s0_0 s0_1 s0_2 t164 t165 t166 w0 _ ?side1 ?side2 A8.out).mono ?_); (case side1 => repeat (first | (with_reducible first | exact HI0.out | apply IsS113.alloc | apply IsS113.drewN | apply IsS113.drew | apply IsS113.set_1 | apply IsS113.set_2) | exact HI0.out)); (case side2 => repeat (first | (with_reducible first | exact HB.out | apply q1c | apply q2c | apply q3c | refine q4c ?_ (IsS113.ge HI0.out)) | exact HB.out)); rintro e w12 ⟨rfl, hi, hb, hk⟩; refine ⟨_, rfl, ?_⟩; have n0_ := qgc (KeepBut.trans (by repeat (first | (with_reducible first | exact HK.out | apply KeepBut.set_ | apply keep_drewN | apply keep_drew | apply keep_alloc) | exact HK.out)) hk (.inl rfl)); have n1_ := qgc (hb); have n2_ := qgc (hi); clear HK; clear HB; clear HI0; have HK := n0_; have HB := n1_; have HI0 := n2_; clear n0_ n1_ n2_; (try clear hb); (try clear hb2); (try clear hk); (try clear hi)) | ((with_reducible refine qtc (f := 105) rfl ?_); refine goesL_ (some 19) rfl rfl Try.func105 (by kernel_rfl) rfl #[.pointer (some ⟨g, 0, none⟩)] rfl (by (try simp only [List.map_toArray, List.map_cons, List.map_nil]); first | done | rfl | (simp only [List.length_drop, List.length_take]; rfl)) ?_; (with_reducible refine (spec_l1Byte.calls g s0_0 t165 t166 t167 t168 t169 w0 _ ?side1 ?side2 A9.out).mono ?_); (case side1 => repeat (first | (with_reducible first | exact HI0.out | apply IsS113.alloc | apply IsS113.drewN | apply IsS113.drew | apply IsS113.set_1 | apply IsS113.set_2) | exact HI0.out)); (case side2 => repeat (first | (with_reducible first | exact HB.out | apply q1c | apply q2c | apply q3c | refine q4c ?_ (IsS113.ge HI0.out)) | exact HB.out)); rintro e w13 ⟨rfl, hi, hb, hk⟩; refine ⟨_, rfl, ?_⟩; have n0_ := qgc (KeepBut.trans (by repeat (first | (with_reducible first | exact HK.out | apply KeepBut.set_ | apply keep_drewN | apply keep_drew | apply keep_alloc) | exact HK.out)) hk (.inl rfl)); have n1_ := qgc (hb); have n2_ := qgc (hi); clear HK; clear HB; clear HI0; have HK := n0_; have HB := n1_; have HI0 := n2_; clear n0_ n1_ n2_; (try clear hb); (try clear hb2); (try clear hk); (try clear hi)) | ((with_reducible refine qtc (f := 105) rfl ?_); refine goesL_ (some 21) rfl rfl Try.func105 (by kernel_rfl) rfl #[.pointer (some ⟨g, 0, none⟩)] rfl (by (try simp only [List.map_toArray, List.map_cons, List.map_nil]); first | done | rfl | (simp only [List.length_drop, List.length_take]; rfl)) ?_; (with_reducible refine (spec_l1Byte.calls g s0_0 t168 t169 t170 t171 t172 w0 _ ?side1 ?side2 A10.out).mono ?_); (case side1 => repeat (first | (with_reducible first | exact HI0.out | apply IsS113.alloc | apply IsS113.drewN | apply IsS113.drew | apply IsS113.set_1 | apply IsS113.set_2) | exact HI0.out)); (case side2 => repeat (first | (with_reducible first | exact HB.out | apply q1c | apply q2c | apply q3c | refine q4c ?_ (IsS113.ge HI0.out)) | exact HB.out)); rintro e w14 ⟨rfl, hi, hb, hk⟩; refine ⟨_, rfl, ?_⟩; have n0_ := qgc (KeepBut.trans (by repeat (first | (with_reducible first | exact HK.out | apply KeepBut.set_ | apply keep_drewN | apply keep_drew | apply keep_alloc) | exact HK.out)) hk (.inl rfl)); have n1_ := qgc (hb); have n2_ := qgc (hi); clear HK; clear HB; clear HI0; have HK := n0_; have HB := n1_; have HI0 := n2_; clear n0_ n1_ n2_; (try clear hb); (try clear hb2); (try clear hk); (try clear hi)))
    go_ret
    exact ⟨by first | rfl | (simp [errW_none, errW_some] <;> rfl) | (simp [*, errW_none, errW_some] <;> rfl), by repeat (first | (with_reducible first | exact HI0.out | apply IsS113.alloc | apply IsS113.drewN | apply IsS113.drew | apply IsS113.set_1 | apply IsS113.set_2) | exact HI0.out), by repeat (first | (with_reducible first | exact HB.out | apply q1c | apply q2c | apply q3c | refine q4c ?_ (IsS113.ge HI0.out)) | exact HB.out), by repeat (first | (with_reducible first | exact HK.out | apply KeepBut.set_ | apply keep_drewN | apply keep_drew | apply keep_alloc) | exact HK.out)⟩
/-! ### spec_l1Int: function 104 -/
def spec_l1Int.f (s0_0 : List Int) (s0_1 : Int) (s0_2 : Int) (l1 : List Int) : Option (Int × Int × Int) := (spec_l1Below.f s0_0 s0_1 s0_2 (l1.length : Int)).bind fun bt173 => (if 0 ≤ bt173.1 then (if bt173.1 < (l1.length : Int) then (some (rd l1 bt173.1, bt173.2.1, bt173.2.2)) else (none)) else (none))
set_option maxHeartbeats 8000000 in
set_option maxRecDepth 100000 in
theorem spec_l1Int.calls (g : Nat) (s0_0 : List Int) (s0_1 : Int) (s0_2 : Int) (A1 : Option Addr) (c1 : Nat) (l1 : List Int) (r1 : Int) (r2 : Int) (r3 : Int) (w0 w : World) (hI : IsS113 w0 w g s0_0 s0_1 s0_2) (hB : Below w0.heap.size w0 w) (hr1 : Kd.C (Kd.int .i64) w A1 l1.length l1) (hc1 : l1.length ≤ c1) (hf1 : ∀ ad, A1 = some ad → 0 < l1.length → ad.block ≠ g) (h : spec_l1Int.f s0_0 s0_1 s0_2 l1 = some (r1, r2, r3)) :
 Calls Try.prog 104 #[.pointer (some ⟨g, 0, none⟩), .slice A1 l1.length c1] w fun e w' => e = .returned (.int .i64 r1) ∧ IsS113 w0 w' g s0_0 r2 r3 ∧ Below w0.heap.size w0 w' ∧ KeepBut w w' g none := by
 have HR1 := qgc hr1
 have HC1 := qgc hc1
 clear hr1 hc1
 have HI0 := qgc hI
 have HK := qgc (KeepBut.refl w g none)
 have HL := qgc hB.size
 clear hI
 have HW0 := qgc hB.size
 have HB := qgc hB
 clear hB
 have H : ((spec_l1Below.f s0_0 s0_1 s0_2 (l1.length : Int)).bind fun bt173 => (if 0 ≤ bt173.1 then (if bt173.1 < (l1.length : Int) then (some (rd l1 bt173.1, bt173.2.1, bt173.2.2)) else (none)) else (none))) = some (r1, r2, r3) := h
 clear h
 replace H := Option.bind_eq_some_iff.mp H
 obtain ⟨⟨t173, t174, t175⟩, A30, H⟩ := H
 replace H : (if 0 ≤ t173 then (if t173 < (l1.length : Int) then (some (rd l1 t173, t174, t175)) else (none)) else (none)) = some (r1, r2, r3) := H
 have A3 := qgc A30
 clear A30
 by_cases c4 : 0 ≤ t173
 ·rw [if_pos c4] at H
  have c4b0 : decide (0 ≤ t173) = true := decide_eq_true c4
  clear c4
  by_cases c5 : t173 < (l1.length : Int)
  ·rw [if_pos c5] at H
   have c5b0 : decide (t173 < (l1.length : Int)) = true := decide_eq_true c5
   clear c5
   simp only [Option.some.injEq, Prod.mk.injEq] at H
   obtain ⟨rfl, rfl, rfl⟩ := H
   go_enter Try.func104, Try.ntmps104
   go_wp2_with (first | ((with_reducible refine qtc (f := 88) rfl ?_); refine goesL_ (some 9) rfl rfl Try.func88 (by kernel_rfl) rfl #[.pointer (some ⟨g, 0, none⟩), .int .i64 (l1.length : Int)] rfl (by (try simp only [List.map_toArray, List.map_cons, List.map_nil]); first | done | rfl | (simp only [List.length_drop, List.length_take]; rfl)) ?_; (with_reducible refine (spec_l1Below.calls g s0_0 s0_1 s0_2 (l1.length : Int) t173 t174 t175 w0 _ ?side1 ?side2 A3.out).mono ?_); (case side1 => repeat (first | (with_reducible first | exact HI0.out | apply IsS113.alloc | apply IsS113.drewN | apply IsS113.drew | apply IsS113.set_1 | apply IsS113.set_2) | exact HI0.out)); (case side2 => repeat (first | (with_reducible first | exact HB.out | apply q1c | apply q2c | apply q3c | refine q4c ?_ (IsS113.ge HI0.out)) | exact HB.out)); rintro e w6 ⟨rfl, hi, hb, hk⟩; refine ⟨_, rfl, ?_⟩; have n0_ := qgc (KeepBut.trans (by repeat (first | (with_reducible first | exact HK.out | apply KeepBut.set_ | apply keep_drewN | apply keep_drew | apply keep_alloc) | exact HK.out)) hk (.inl rfl)); have n1_ := qgc (hb); have n2_ := qgc (hi); clear HK; clear HB; clear HI0; have HK := n0_; have HB := n1_; have HI0 := n2_; clear n0_ n1_ n2_; (try clear hb); (try clear hb2); (try clear hk); (try clear hi); have p176 : 0 ≤ (t173 : Int) := of_decide_eq_true (by first | (with_reducible assumption) | assumption); have q176 : t173 < (l1.length : Int) := of_decide_eq_true (by first | (with_reducible assumption) | assumption); obtain ⟨ad176, e176, hx176_0⟩ := Kd.at_int HR1.out t173 p176 q176; cases e176; replace hx176_0 := keep_cell HK.out hx176_0 (by first | (rw [add_block]; exact hf1 _ rfl (by omega)) | exact hf1 _ rfl (by omega) | exact hf1 ad176 rfl (by omega)); replace p176 := eq_true p176; replace q176 := eq_true q176))
   go_ret
   exact ⟨by first | rfl | (simp [errW_none, errW_some] <;> rfl) | (simp [*, errW_none, errW_some] <;> rfl), by repeat (first | (with_reducible first | exact HI0.out | apply IsS113.alloc | apply IsS113.drewN | apply IsS113.drew | apply IsS113.set_1 | apply IsS113.set_2) | exact HI0.out), by repeat (first | (with_reducible first | exact HB.out | apply q1c | apply q2c | apply q3c | refine q4c ?_ (IsS113.ge HI0.out)) | exact HB.out), by repeat (first | (with_reducible first | exact HK.out | apply KeepBut.set_ | apply keep_drewN | apply keep_drew | apply keep_alloc) | exact HK.out)⟩
  ·rw [if_neg c5] at H
   exact absurd H (by simp)
 ·rw [if_neg c4] at H
  exact absurd H (by simp)
/-! ### spec_l1Odd: function 103 -/
def spec_l1Odd.f (s0_0 : List Int) (s0_1 : Int) (s0_2 : Int) : Option (Int × Int × Int) := (spec_l1Int.f s0_0 s0_1 s0_2 (([(-1), 0, 1, 2, 3, 7, 8, 9, 15, 16, 17, 63, 64, 65, 999, 1000, 4096, 4097, 9223372036854775807, (-9223372036854775808)] : List Int))).bind fun bt180 => (some (bt180.1, bt180.2.1, bt180.2.2))
set_option maxHeartbeats 8000000 in
set_option maxRecDepth 100000 in
theorem spec_l1Odd.calls (g : Nat) (s0_0 : List Int) (s0_1 : Int) (s0_2 : Int) (r1 : Int) (r2 : Int) (r3 : Int) (w0 w : World) (hI : IsS113 w0 w g s0_0 s0_1 s0_2) (hB : Below w0.heap.size w0 w) (h : spec_l1Odd.f s0_0 s0_1 s0_2 = some (r1, r2, r3)) :
 Calls Try.prog 103 #[.pointer (some ⟨g, 0, none⟩)] w fun e w' => e = .returned (.int .i64 r1) ∧ IsS113 w0 w' g s0_0 r2 r3 ∧ Below w0.heap.size w0 w' ∧ KeepBut w w' g none := by
 have HI0 := qgc hI
 have HK := qgc (KeepBut.refl w g none)
 have HL := qgc hB.size
 clear hI
 have HW0 := qgc hB.size
 have HB := qgc hB
 clear hB
 have H : ((spec_l1Int.f s0_0 s0_1 s0_2 (([(-1), 0, 1, 2, 3, 7, 8, 9, 15, 16, 17, 63, 64, 65, 999, 1000, 4096, 4097, 9223372036854775807, (-9223372036854775808)] : List Int))).bind fun bt180 => (some (bt180.1, bt180.2.1, bt180.2.2))) = some (r1, r2, r3) := h
 clear h
 obtain ⟨y177, hy177⟩ : ∃ y_ : List Int, y_ = (([(-1), 0, 1, 2, 3, 7, 8, 9, 15, 16, 17, 63, 64, 65, 999, 1000, 4096, 4097, 9223372036854775807, (-9223372036854775808)] : List Int)) := ⟨_, rfl⟩
 replace H : ((spec_l1Int.f s0_0 s0_1 s0_2 y177).bind fun bt180 => (some (bt180.1, bt180.2.1, bt180.2.2))) = some (r1, r2, r3) := by first | (rw [hy177]; with_reducible exact H) | (have H2_ := (Option.bind_some _ _).symm.trans H; rw [hy177]; with_reducible exact H2_) | (have H2_ := (Option.bind_some _ _).symm.trans H; with_reducible exact H2_) | with_reducible exact H | (rw [hy177]; exact H) | exact H
 have Ny177 := qgc hy177
 clear hy177
 replace H := Option.bind_eq_some_iff.mp H
 obtain ⟨⟨t180, t181, t182⟩, A20, H⟩ := H
 replace H : (some (t180, t181, t182)) = some (r1, r2, r3) := H
 have A2 := qgc A20
 clear A20
 simp only [Option.some.injEq, Prod.mk.injEq] at H
 obtain ⟨rfl, rfl, rfl⟩ := H
 go_enter Try.func103, Try.ntmps103
 go_wp2_with (first | ((with_reducible refine quc (N := 4) rfl ?_); refine Kd.R_lit (Kd.int .i64) _ 3 ?hg (N := 4) ?hd (xs := ([(-1), 0, 1, 2, 3, 7, 8, 9, 15, 16, 17, 63, 64, 65, 999, 1000, 4096, 4097, 9223372036854775807, (-9223372036854775808)] : List Int)) (inner := [.int .i64 (-1), .int .i64 0, .int .i64 1, .int .i64 2, .int .i64 3, .int .i64 7, .int .i64 8, .int .i64 9, .int .i64 15, .int .i64 16, .int .i64 17, .int .i64 63, .int .i64 64, .int .i64 65, .int .i64 999, .int .i64 1000, .int .i64 4096, .int .i64 4097, .int .i64 9223372036854775807, .int .i64 (-9223372036854775808)]) (ok := fun _ => True) (okp := fun _ => True) ?hr ?hp (fun _ hk => hk) trivial (Below.refl _ _) (Nat.le_refl _) (by simp) ?_; (case hd => rfl); (case hg => rfl); (case hr => first | (go_simp; done) | (go_simp; rfl)); (case hp => exact (Reps.one (show Kd.M (Kd.int .i64) _ _ _ (-1) [.int .i64 (-1)] from rfl) (Reps.one (show Kd.M (Kd.int .i64) _ _ _ 0 [.int .i64 0] from rfl) (Reps.one (show Kd.M (Kd.int .i64) _ _ _ 1 [.int .i64 1] from rfl) (Reps.one (show Kd.M (Kd.int .i64) _ _ _ 2 [.int .i64 2] from rfl) (Reps.one (show Kd.M (Kd.int .i64) _ _ _ 3 [.int .i64 3] from rfl) (Reps.one (show Kd.M (Kd.int .i64) _ _ _ 7 [.int .i64 7] from rfl) (Reps.one (show Kd.M (Kd.int .i64) _ _ _ 8 [.int .i64 8] from rfl) (Reps.one (show Kd.M (Kd.int .i64) _ _ _ 9 [.int .i64 9] from rfl) (Reps.one (show Kd.M (Kd.int .i64) _ _ _ 15 [.int .i64 15] from rfl) (Reps.one (show Kd.M (Kd.int .i64) _ _ _ 16 [.int .i64 16] from rfl) (Reps.one (show Kd.M (Kd.int .i64) _ _ _ 17 [.int .i64 17] from rfl) (Reps.one (show Kd.M (Kd.int .i64) _ _ _ 63 [.int .i64 63] from rfl) (Reps.one (show Kd.M (Kd.int .i64) _ _ _ 64 [.int .i64 64] from rfl) (Reps.one (show Kd.M (Kd.int .i64) _ _ _ 65 [.int .i64 65] from rfl) (Reps.one (show Kd.M (Kd.int .i64) _ _ _ 999 [.int .i64 999] from rfl) (Reps.one (show Kd.M (Kd.int .i64) _ _ _ 1000 [.int .i64 1000] from rfl) (Reps.one (show Kd.M (Kd.int .i64) _ _ _ 4096 [.int .i64 4096] from rfl) (Reps.one (show Kd.M (Kd.int .i64) _ _ _ 4097 [.int .i64 4097] from rfl) (Reps.one (show Kd.M (Kd.int .i64) _ _ _ 9223372036854775807 [.int .i64 9223372036854775807] from rfl) (Reps.one (show Kd.M (Kd.int .i64) _ _ _ (-9223372036854775808) [.int .i64 (-9223372036854775808)] from rfl) (Reps.none _ _)))))))))))))))))))))); intro v178 w3 ho4 hb hg_ hnew_; clear hg_ hnew_; (first | rw [← Ny177.out] at ho4 | (simp only [Int.reduceToNat] at ho4; rw [← Ny177.out] at ho4)); have n0_ := qgc (Kd.R_lower ho4 (keep_size (w := w) (g := g) (row := none) (by repeat (first | (with_reducible first | exact HK.out | apply KeepBut.set_ | apply keep_drewN | apply keep_drew | apply keep_alloc) | exact HK.out)))); have n1_ := qgc (IsS113.below (by repeat (first | (with_reducible first | exact HI0.out | apply IsS113.alloc | apply IsS113.drewN | apply IsS113.drew | apply IsS113.set_1 | apply IsS113.set_2) | exact HI0.out)) hb); have n2_ := qgc (KeepBut.trans (by repeat (first | (with_reducible first | exact HK.out | apply KeepBut.set_ | apply keep_drewN | apply keep_drew | apply keep_alloc) | exact HK.out)) (KeepBut.of_below hb g none) (.inl rfl)); have n3_ := qgc (q9c (by repeat (first | (with_reducible first | exact HB.out | apply q1c | apply q2c | apply q3c | refine q4c ?_ (IsS113.ge HI0.out)) | exact HB.out)) hb); clear HI0; clear HK; clear HB; have HO179 := n0_; have HI0 := n1_; have HK := n2_; have HB := n3_; clear n0_ n1_ n2_ n3_; clear hb ho4; obtain ⟨Ao5, co5, eo5⟩ := Kd.R_slice HO179.out; subst eo5) | ((with_reducible refine qtc (f := 104) rfl ?_); refine goesL_ (some 5) rfl rfl Try.func104 (by kernel_rfl) rfl #[.pointer (some ⟨g, 0, none⟩), .slice Ao5 y177.length co5] rfl (by (try simp only [List.map_toArray, List.map_cons, List.map_nil]); first | done | rfl | (simp only [List.length_drop, List.length_take]; rfl)) ?_; (with_reducible refine (spec_l1Int.calls g s0_0 s0_1 s0_2 _ _ y177 t180 t181 t182 w0 _ ?side1 ?side2 ?side3 ?side4 ?side5 A2.out).mono ?_); (case side1 => repeat (first | (with_reducible first | exact HI0.out | apply IsS113.alloc | apply IsS113.drewN | apply IsS113.drew | apply IsS113.set_1 | apply IsS113.set_2) | exact HI0.out)); (case side2 => repeat (first | (with_reducible first | exact HB.out | apply q1c | apply q2c | apply q3c | refine q4c ?_ (IsS113.ge HI0.out)) | exact HB.out)); (case side3 => repeat (first | exact (Kd.R_reads' HO179.out).2.2 | (with_reducible refine qoc ?_ _) | (with_reducible refine qrc ?_ _) | (with_reducible refine qsc ?_))); (case side4 => exact (Kd.R_reads' HO179.out).2.1); (case side5 => exact far_slice (IsS113.own_ne HI0.out HO179.out (by decide))); rintro e w6 ⟨rfl, hi, hb, hk⟩; refine ⟨_, rfl, ?_⟩; have n0_ := qgc (Kd.R_mono (Kd.R_keep (IsS113.apart (show IsS113 w0 _ g s0_0 s0_1 s0_2 from by repeat (first | (with_reducible first | exact HI0.out | apply IsS113.alloc | apply IsS113.drewN | apply IsS113.drew | apply IsS113.set_1 | apply IsS113.set_2) | exact HI0.out)) (by (with_reducible repeat (first | apply qkc | apply qlc | apply qmc)); exact HO179.out) (by decide)) hk (fun _ h => h.2)) (fun _ h => h.1)); have n1_ := qgc (KeepBut.trans (by repeat (first | (with_reducible first | exact HK.out | apply KeepBut.set_ | apply keep_drewN | apply keep_drew | apply keep_alloc) | exact HK.out)) hk (.inl rfl)); have n2_ := qgc (hb); have n3_ := qgc (hi); clear HO179; clear HK; clear HB; clear HI0; have HO179 := n0_; have HK := n1_; have HB := n2_; have HI0 := n3_; clear n0_ n1_ n2_ n3_; (try clear hb); (try clear hb2); (try clear hk); (try clear hi)))
 go_ret
 exact ⟨by first | rfl | (simp [errW_none, errW_some] <;> rfl) | (simp [*, errW_none, errW_some] <;> rfl), by repeat (first | (with_reducible first | exact HI0.out | apply IsS113.alloc | apply IsS113.drewN | apply IsS113.drew | apply IsS113.set_1 | apply IsS113.set_2) | exact HI0.out), by repeat (first | (with_reducible first | exact HB.out | apply q1c | apply q2c | apply q3c | refine q4c ?_ (IsS113.ge HI0.out)) | exact HB.out), by repeat (first | (with_reducible first | exact HK.out | apply KeepBut.set_ | apply keep_drewN | apply keep_drew | apply keep_alloc) | exact HK.out)⟩
/-! ### spec_l1Once: function 106 -/
def spec_l1Once.f (s0_0 : List Int) (s0_1 : Int) (s0_2 : Int) (a1 : Int) : Option (Bool × Int × Int) := (spec_l1Below.f s0_0 s0_1 s0_2 a1).bind fun bt183 => (some ((bt183.1 == 0), bt183.2.1, bt183.2.2))
set_option maxHeartbeats 8000000 in
set_option maxRecDepth 100000 in
theorem spec_l1Once.calls (g : Nat) (s0_0 : List Int) (s0_1 : Int) (s0_2 : Int) (a1 : Int) (r1 : Bool) (r2 : Int) (r3 : Int) (w0 w : World) (hI : IsS113 w0 w g s0_0 s0_1 s0_2) (hB : Below w0.heap.size w0 w) (h : spec_l1Once.f s0_0 s0_1 s0_2 a1 = some (r1, r2, r3)) :
 Calls Try.prog 106 #[.pointer (some ⟨g, 0, none⟩), .int .i64 a1] w fun e w' => e = .returned (.bool r1) ∧ IsS113 w0 w' g s0_0 r2 r3 ∧ Below w0.heap.size w0 w' ∧ KeepBut w w' g none := by
 have HI0 := qgc hI
 have HK := qgc (KeepBut.refl w g none)
 have HL := qgc hB.size
 clear hI
 have HW0 := qgc hB.size
 have HB := qgc hB
 clear hB
 have H : ((spec_l1Below.f s0_0 s0_1 s0_2 a1).bind fun bt183 => (some ((bt183.1 == 0), bt183.2.1, bt183.2.2))) = some (r1, r2, r3) := h
 clear h
 replace H := Option.bind_eq_some_iff.mp H
 obtain ⟨⟨t183, t184, t185⟩, A30, H⟩ := H
 replace H : (some ((t183 == 0), t184, t185)) = some (r1, r2, r3) := H
 have A3 := qgc A30
 clear A30
 simp only [Option.some.injEq, Prod.mk.injEq] at H
 obtain ⟨rfl, rfl, rfl⟩ := H
 go_enter Try.func106, Try.ntmps106
 go_wp2_with (first | ((with_reducible refine qtc (f := 88) rfl ?_); refine goesL_ (some 7) rfl rfl Try.func88 (by kernel_rfl) rfl #[.pointer (some ⟨g, 0, none⟩), .int .i64 a1] rfl (by (try simp only [List.map_toArray, List.map_cons, List.map_nil]); first | done | rfl | (simp only [List.length_drop, List.length_take]; rfl)) ?_; (with_reducible refine (spec_l1Below.calls g s0_0 s0_1 s0_2 a1 t183 t184 t185 w0 _ ?side1 ?side2 A3.out).mono ?_); (case side1 => repeat (first | (with_reducible first | exact HI0.out | apply IsS113.alloc | apply IsS113.drewN | apply IsS113.drew | apply IsS113.set_1 | apply IsS113.set_2) | exact HI0.out)); (case side2 => repeat (first | (with_reducible first | exact HB.out | apply q1c | apply q2c | apply q3c | refine q4c ?_ (IsS113.ge HI0.out)) | exact HB.out)); rintro e w4 ⟨rfl, hi, hb, hk⟩; refine ⟨_, rfl, ?_⟩; have n0_ := qgc (KeepBut.trans (by repeat (first | (with_reducible first | exact HK.out | apply KeepBut.set_ | apply keep_drewN | apply keep_drew | apply keep_alloc) | exact HK.out)) hk (.inl rfl)); have n1_ := qgc (hb); have n2_ := qgc (hi); clear HK; clear HB; clear HI0; have HK := n0_; have HB := n1_; have HI0 := n2_; clear n0_ n1_ n2_; (try clear hb); (try clear hb2); (try clear hk); (try clear hi)))
 go_ret
 exact ⟨by first | rfl | (simp [errW_none, errW_some] <;> rfl) | (simp [*, errW_none, errW_some] <;> rfl), by repeat (first | (with_reducible first | exact HI0.out | apply IsS113.alloc | apply IsS113.drewN | apply IsS113.drew | apply IsS113.set_1 | apply IsS113.set_2) | exact HI0.out), by repeat (first | (with_reducible first | exact HB.out | apply q1c | apply q2c | apply q3c | refine q4c ?_ (IsS113.ge HI0.out)) | exact HB.out), by repeat (first | (with_reducible first | exact HK.out | apply KeepBut.set_ | apply keep_drewN | apply keep_drew | apply keep_alloc) | exact HK.out)⟩
end Go.Proofs.Ytlmgokicanlcpaa.PFnMovedJet
