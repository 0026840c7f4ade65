-- A printed text, shortened by wip/tools/squeeze.py.
import Derived.Test.YtlmgokicanlcpaaPFnMeetx0
import Derived.Test.YtlmgokicanlcpaaPFnMeetx1
import Derived.Test.YtlmgokicanlcpaaPFnMeetx2
namespace Go.Proofs.Ytlmgokicanlcpaa.PFnMeet
open Go.RowKit Go.Proofs.YtlmgokicanlcpaaW.PrintWords Go.Proofs.YtlmgokicanlcpaaW.PrintLast Go.Proofs.YtlmgokicanlcpaaW.PrintMore
attribute [local go_sem] max2_int min2_int max_two min_two max_three min_three max_four min_four   -- for this text's walks alone
set_option linter.unusedVariables false
set_option linter.unusedSimpArgs false

attribute [local go_sem high] eqA26
theorem p1d : type_of% @List.setIfInBounds_toArray := @List.setIfInBounds_toArray
theorem p2d : type_of% @List.set_cons_zero := @List.set_cons_zero
theorem p3d : type_of% @List.set_cons_succ := @List.set_cons_succ
theorem q1d : type_of% @below_alloc := @below_alloc
theorem q2d : type_of% @pw_below_drewN := @pw_below_drewN
theorem q3d : type_of% @below_drew1 := @below_drew1
theorem q4d : type_of% @below_set := @below_set
theorem q5d : type_of% @blk_drewN := @blk_drewN
theorem q6d : type_of% @blk_drew := @blk_drew
theorem q7d : type_of% @blk_alloc := @blk_alloc
theorem q8d : type_of% @blk_below := @blk_below
theorem q9d : type_of% @below_step := @below_step
theorem qad : type_of% @below_size := @below_size
theorem qbd : type_of% @blk_frozen := @blk_frozen
theorem qcd : type_of% @blk_cell := @blk_cell
theorem qdd : type_of% @blk_lt := @blk_lt
theorem qed : type_of% @blk_far := @blk_far
theorem qfd : type_of% @blk_put := @blk_put
theorem qgd : type_of% @Aside0.mk := @Aside0.mk
theorem qhd : type_of% @box_event := @box_event
theorem qjd : type_of% @Kd.R_below := @Kd.R_below
theorem qkd : type_of% @Kd.R_alloc := @Kd.R_alloc
theorem qld : type_of% @Kd.R_drewN := @Kd.R_drewN
theorem qmd : type_of% @Kd.R_drew := @Kd.R_drew
theorem qtd : type_of% @gate_callee := @gate_callee
theorem qud : type_of% @gate_dst := @gate_dst
theorem qvd : type_of% @Nat.ne_of_lt := @Nat.ne_of_lt
theorem qwd : type_of% @Nat.ne_of_gt := @Nat.ne_of_gt
/-! ### impl_MeetingsOf: function 44 -/
mutual
def impl_MeetingsOf.j0 : Nat → List Int → Bool → Int → Int → Int → Int → Int → Int → Int → Int → Int → Int → Option (List Int)
  | 0, _, _, _, _, _, _, _, _, _, _, _, _ => none
  | k + 1, x5, x19, x144000, x144001, x144002, x144003, x144004, x145000, x145001, x145002, x145003, x145004 => if x19 = true then (some x5) else ((impl_FlightOf.f x144000 x144001 x144002 x144003 x144004).bind fun t150 => ((impl_FlightOf.f x145000 x145001 x145002 x145003 x145004).bind fun t151 => (impl_MeetingsOf.l0 k x5 (wrap64 ((mn t150 t151) + 1)) 0 x144000 x144001 x144002 x144003 x144004 x145000 x145001 x145002 x145003 x145004)))
def impl_MeetingsOf.l0 : Nat → List Int → Int → Int → Int → Int → Int → Int → Int → Int → Int → Int → Int → Int → Option (List Int)
  | 0, _, _, _, _, _, _, _, _, _, _, _, _, _ => none
  | k + 1, x5, x26, x27, x144000, x144001, x144002, x144003, x144004, x145000, x145001, x145002, x145003, x145004 => if x27 < x26 then ((impl_PlaceAt.f k x144000 x144001 x144002 x144003 x144004 x27).bind fun bt152 => ((impl_PlaceAt.f k x145000 x145001 x145002 x145003 x145004 x27).bind fun bt156 => (if (bt152.1 == bt156.1 && (bt152.2.1 == bt156.2.1)) = true then ((impl_HeightAt.f x144000 x144001 x144002 x144003 x144004 x27).bind fun t160 => ((impl_HeightAt.f x145000 x145001 x145002 x145003 x145004 x27).bind fun t161 => (if t160 = t161 then (if x5.length < 17592186044416 then (impl_MeetingsOf.l0 k (x5 ++ [x27]) x26 (wrap64 (x27 + 1)) x144000 x144001 x144002 x144003 x144004 x145000 x145001 x145002 x145003 x145004) else (none)) else (impl_MeetingsOf.l0 k x5 x26 (wrap64 (x27 + 1)) x144000 x144001 x144002 x144003 x144004 x145000 x145001 x145002 x145003 x145004)))) else (impl_MeetingsOf.l0 k x5 x26 (wrap64 (x27 + 1)) x144000 x144001 x144002 x144003 x144004 x145000 x145001 x145002 x145003 x145004)))) else (some x5)
end
def impl_MeetingsOf.f (k : Nat) (a0_0 : Int) (a0_1 : Int) (a0_2 : Int) (a0_3 : Int) (a0_4 : Int) (a1_0 : Int) (a1_1 : Int) (a1_2 : Int) (a1_3 : Int) (a1_4 : Int) : Option (List Int) := (some (([] : List Int) : List Int)).bind fun y145 => ((impl_IsJet.f a0_0 a0_1 a0_2 a0_3 a0_4).bind fun t148 => (if t148 = true then ((impl_IsJet.f a1_0 a1_1 a1_2 a1_3 a1_4).bind fun t149 => (impl_MeetingsOf.j0 k y145 (!t149) a0_0 a0_1 a0_2 a0_3 a0_4 a1_0 a1_1 a1_2 a1_3 a1_4)) else (impl_MeetingsOf.j0 k y145 true a0_0 a0_1 a0_2 a0_3 a0_4 a1_0 a1_1 a1_2 a1_3 a1_4)))
theorem impl_MeetingsOf.mono_l : ∀ k, (∀ y0 y1 y2 y3 y4 y5 y6 y7 y8 y9 y10 y11, LeO (impl_MeetingsOf.j0 k y0 y1 y2 y3 y4 y5 y6 y7 y8 y9 y10 y11) (impl_MeetingsOf.j0 (k + 1) y0 y1 y2 y3 y4 y5 y6 y7 y8 y9 y10 y11)) ∧ (∀ y0 y1 y2 y3 y4 y5 y6 y7 y8 y9 y10 y11 y12, LeO (impl_MeetingsOf.l0 k y0 y1 y2 y3 y4 y5 y6 y7 y8 y9 y10 y11 y12) (impl_MeetingsOf.l0 (k + 1) y0 y1 y2 y3 y4 y5 y6 y7 y8 y9 y10 y11 y12))
  | 0 => ⟨fun _ _ _ _ _ _ _ _ _ _ _ _ r h => by simp [impl_MeetingsOf.j0] at h, fun _ _ _ _ _ _ _ _ _ _ _ _ _ r h => by simp [impl_MeetingsOf.l0] at h⟩
  | k + 1 => by
    obtain ⟨ih0, ih1⟩ := impl_MeetingsOf.mono_l k
    refine ⟨?_, ?_⟩
    · intro y0 y1 y2 y3 y4 y5 y6 y7 y8 y9 y10 y11
      unfold impl_MeetingsOf.j0
      repeat' first
      | (with_reducible exact ih0 _ _ _ _ _ _ _ _ _ _ _ _)
      | (with_reducible exact ih1 _ _ _ _ _ _ _ _ _ _ _ _ _)
      | (with_reducible exact impl_PlaceAt.mono _ _ _ _ _ _ _)
      | (with_reducible exact LeO.refl _)
      | (with_reducible exact LeO.none _)
      | (with_reducible refine LeO.ite ?_ ?_)
      | (with_reducible refine LeO.bind ?_ (fun _ => ?_))
      | exact ih0 _ _ _ _ _ _ _ _ _ _ _ _
      | exact ih1 _ _ _ _ _ _ _ _ _ _ _ _ _
      | exact impl_PlaceAt.mono _ _ _ _ _ _ _
      | exact LeO.none _
      | refine LeO.ite ?_ ?_
      | refine LeO.bind ?_ (fun _ => ?_)
    · intro y0 y1 y2 y3 y4 y5 y6 y7 y8 y9 y10 y11 y12
      unfold impl_MeetingsOf.l0
      repeat' first
      | (with_reducible exact ih0 _ _ _ _ _ _ _ _ _ _ _ _)
      | (with_reducible exact ih1 _ _ _ _ _ _ _ _ _ _ _ _ _)
      | (with_reducible exact impl_PlaceAt.mono _ _ _ _ _ _ _)
      | (with_reducible exact LeO.refl _)
      | (with_reducible exact LeO.none _)
      | (with_reducible refine LeO.ite ?_ ?_)
      | (with_reducible refine LeO.bind ?_ (fun _ => ?_))
      | exact ih0 _ _ _ _ _ _ _ _ _ _ _ _
      | exact ih1 _ _ _ _ _ _ _ _ _ _ _ _ _
      | exact impl_PlaceAt.mono _ _ _ _ _ _ _
      | exact LeO.none _
      | refine LeO.ite ?_ ?_
      | refine LeO.bind ?_ (fun _ => ?_)
theorem impl_MeetingsOf.mono : ∀ a0 a1 a2 a3 a4 a5 a6 a7 a8 a9 k, LeO (impl_MeetingsOf.f k a0 a1 a2 a3 a4 a5 a6 a7 a8 a9) (impl_MeetingsOf.f (k + 1) a0 a1 a2 a3 a4 a5 a6 a7 a8 a9) := by
  intro a0 a1 a2 a3 a4 a5 a6 a7 a8 a9 k
  obtain ⟨ih0, ih1⟩ := impl_MeetingsOf.mono_l k
  unfold impl_MeetingsOf.f
  repeat' first
      | (with_reducible exact ih0 _ _ _ _ _ _ _ _ _ _ _ _)
      | (with_reducible exact ih1 _ _ _ _ _ _ _ _ _ _ _ _ _)
      | (with_reducible exact impl_PlaceAt.mono _ _ _ _ _ _ _)
      | (with_reducible exact LeO.refl _)
      | (with_reducible exact LeO.none _)
      | (with_reducible refine LeO.ite ?_ ?_)
      | (with_reducible refine LeO.bind ?_ (fun _ => ?_))
      | exact ih0 _ _ _ _ _ _ _ _ _ _ _ _
      | exact ih1 _ _ _ _ _ _ _ _ _ _ _ _ _
      | exact impl_PlaceAt.mono _ _ _ _ _ _ _
      | exact LeO.none _
      | refine LeO.ite ?_ ?_
      | refine LeO.bind ?_ (fun _ => ?_)
def impl_MeetingsOf.T9 : Bool × List (List Nat × List Nat) := (true, [([], []), ([], []), ([0, 1], [0, 1]), ([2], [2]), ([3], [3]), ([3], [3]), ([4, 5, 3, 3], [3, 4, 5]), ([3], [3]), ([3], [3]), ([7, 8, 6, 3], [3, 7, 8]), ([6, 9, 3], [3, 6, 9]), ([3, 10], [3, 10])])
def impl_MeetingsOf.B9 : List Nat := [0, 0, 3, 7, 15, 15, 63, 15, 15, 511, 1023, 2047]
theorem impl_MeetingsOf.tab9 : rtab .any (opsOf Try.f44 9) = impl_MeetingsOf.T9 := by kernel_rfl
theorem impl_MeetingsOf.bits9 : waitsOk impl_MeetingsOf.T9.2 impl_MeetingsOf.B9 = true := by kernel_rfl
set_option maxHeartbeats 8000000 in
set_option maxRecDepth 100000 in
theorem impl_MeetingsOf.calls (k : Nat) (a0_0 : Int) (a0_1 : Int) (a0_2 : Int) (a0_3 : Int) (a0_4 : Int) (a1_0 : Int) (a1_1 : Int) (a1_2 : Int) (a1_3 : Int) (a1_4 : Int) (r : List Int) (w : World) (h : impl_MeetingsOf.f k a0_0 a0_1 a0_2 a0_3 a0_4 a1_0 a1_1 a1_2 a1_3 a1_4 = some r) :
 Calls Try.prog 44 #[.agg #[.int .i64 a0_0, .int .i64 a0_1, .int .i64 a0_2, .int .i64 a0_3, .int .i64 a0_4], .agg #[.int .i64 a1_0, .int .i64 a1_1, .int .i64 a1_2, .int .i64 a1_3, .int .i64 a1_4]] w fun e w' => ∃ v0_ : Value, e = .returned (v0_) ∧ Kd.R (Kd.int .i64) 3 w' w.heap.size (fun _ => True) v0_ r ∧ Below w.heap.size w w' := by
 have hu28 := Try.underlying28
 have hu26 := Try.underlying26
 have HB := qgd (Below.refl w.heap.size w)
 have H : ((some (([] : List Int) : List Int)).bind fun y145 => ((impl_IsJet.f a0_0 a0_1 a0_2 a0_3 a0_4).bind fun t148 => (if t148 = true then ((impl_IsJet.f a1_0 a1_1 a1_2 a1_3 a1_4).bind fun t149 => (impl_MeetingsOf.j0 k y145 (!t149) a0_0 a0_1 a0_2 a0_3 a0_4 a1_0 a1_1 a1_2 a1_3 a1_4)) else (impl_MeetingsOf.j0 k y145 true a0_0 a0_1 a0_2 a0_3 a0_4 a1_0 a1_1 a1_2 a1_3 a1_4)))) = some r := h
 clear h
 obtain ⟨y145, hy145⟩ : ∃ y_ : List Int, y_ = (([] : List Int)) := ⟨_, rfl⟩
 replace H : ((impl_IsJet.f a0_0 a0_1 a0_2 a0_3 a0_4).bind fun t148 => (if t148 = true then ((impl_IsJet.f a1_0 a1_1 a1_2 a1_3 a1_4).bind fun t149 => (impl_MeetingsOf.j0 k y145 (!t149) a0_0 a0_1 a0_2 a0_3 a0_4 a1_0 a1_1 a1_2 a1_3 a1_4)) else (impl_MeetingsOf.j0 k y145 true a0_0 a0_1 a0_2 a0_3 a0_4 a1_0 a1_1 a1_2 a1_3 a1_4))) = some r := by first | (rw [hy145]; with_reducible exact H) | (have H2_ := (Option.bind_some _ _).symm.trans H; rw [hy145]; with_reducible exact H2_) | (have H2_ := (Option.bind_some _ _).symm.trans H; with_reducible exact H2_) | with_reducible exact H | (rw [hy145]; exact H) | exact H
 have Ny145 := qgd hy145
 clear hy145
 have HC3 := qgd H
 clear H
 go_enter Try.func44, Try.ntmps44
 go_upto_region 2 with (first | ((with_reducible refine qud (N := 2) rfl ?_); refine qhd ?hg (N := 2) ?hd (cs := #[.int .i64 a0_0, .int .i64 a0_1, .int .i64 a0_2, .int .i64 a0_3, .int .i64 a0_4]) (t := 28) ?hr ?_; (case hd => rfl); (case hg => rfl); (case hr => first | (go_simp; done) | (go_simp; rfl)); intro gb143 hg w4 hbox hb; have n0_ := qgd (q9d (by repeat (first | (with_reducible first | exact HB.out | apply q1d | apply q2d | apply q3d) | exact HB.out)) hb); have n1_ := qgd (hbox); have n2_ := qgd ((by rw [hg]; exact (qad (by repeat (first | (with_reducible first | exact HB.out | apply q1d | apply q2d | apply q3d) | exact HB.out))) : w.heap.size ≤ gb143)); have n3_ := qgd ((by rw [hg]; exact (qad (by repeat (first | (with_reducible first | exact HB.out | apply q1d | apply q2d | apply q3d) | exact HB.out))) : w.heap.size ≤ gb143)); clear HB; have HB := n0_; have BK143 := n1_; have GW143 := n2_; have GE143 := n3_; clear n0_ n1_ n2_ n3_; clear hb hbox hg) | ((with_reducible refine qud (N := 3) rfl ?_); refine qhd ?hg (N := 3) ?hd (cs := #[.int .i64 a1_0, .int .i64 a1_1, .int .i64 a1_2, .int .i64 a1_3, .int .i64 a1_4]) (t := 28) ?hr ?_; (case hd => rfl); (case hg => rfl); (case hr => first | (go_simp; done) | (go_simp; rfl)); intro gb144 hg w5 hbox hb; have n0_ := qgd (q8d (g := gb143) (o := .cells #[.int .i64 a0_0, .int .i64 a0_1, .int .i64 a0_2, .int .i64 a0_3, .int .i64 a0_4] 28 (0, 0)) (by (with_reducible repeat (first | refine q5d ?_ _ | refine q6d ?_ | refine q7d ?_ _)); exact BK143.out) hb); have n1_ := qgd (q9d (by repeat (first | (with_reducible first | exact HB.out | apply q1d | apply q2d | apply q3d | refine q4d ?_ GE143.out) | exact HB.out)) hb); have n2_ := qgd (hbox); have n3_ := qgd ((by rw [hg]; exact (qad (by repeat (first | (with_reducible first | exact HB.out | apply q1d | apply q2d | apply q3d | refine q4d ?_ GE143.out) | exact HB.out))) : w.heap.size ≤ gb144)); have n4_ := qgd ((by rw [hg]; exact (qad (by repeat (first | (with_reducible first | exact HB.out | apply q1d | apply q2d | apply q3d | refine q4d ?_ GE143.out) | exact HB.out))) : w.heap.size ≤ gb144)); have n5_ := qgd ((by rw [hg]; exact qvd (qdd (g := gb143) (o := .cells #[.int .i64 a0_0, .int .i64 a0_1, .int .i64 a0_2, .int .i64 a0_3, .int .i64 a0_4] 28 (0, 0)) (by (with_reducible repeat (first | refine q5d ?_ _ | refine q6d ?_ | refine q7d ?_ _)); exact BK143.out)) : gb143 ≠ gb144)); have n6_ := qgd ((by rw [hg]; exact qwd (qdd (g := gb143) (o := .cells #[.int .i64 a0_0, .int .i64 a0_1, .int .i64 a0_2, .int .i64 a0_3, .int .i64 a0_4] 28 (0, 0)) (by (with_reducible repeat (first | refine q5d ?_ _ | refine q6d ?_ | refine q7d ?_ _)); exact BK143.out)) : gb144 ≠ gb143)); clear BK143; clear HB; have BK143 := n0_; have HB := n1_; have BK144 := n2_; have GW144 := n3_; have GE144 := n4_; have NB143_144 := n5_; have NB144_143 := n6_; clear n0_ n1_ n2_ n3_ n4_ n5_ n6_; clear hb hbox hg) | ((with_reducible refine qud (N := 11) rfl ?_); refine Kd.R_lit (Kd.int .i64) _ 3 ?hg (N := 11) ?hd (xs := ([] : List Int)) (inner := []) (ok := fun _ => True) (okp := fun _ => True) ?hr ?hp (fun _ hk => hk) trivial (Below.refl _ _) (Nat.le_refl _) (by simp) ?_; (case hd => rfl); (case hg => rfl); (case hr => first | (go_simp; done) | (go_simp; rfl)); (case hp => exact (Reps.none _ _)); intro v146 w6 ho7 hb hg_ hnew_; clear hg_ hnew_; (first | rw [← Ny145.out] at ho7 | (simp only [Int.reduceToNat] at ho7; rw [← Ny145.out] at ho7)); have n0_ := qgd (Kd.R_lower ho7 (qad (by repeat (first | (with_reducible first | exact HB.out | apply q1d | apply q2d | apply q3d | refine q4d ?_ GE143.out | refine q4d ?_ GE144.out) | exact HB.out)))); have n1_ := qgd (q8d (g := gb143) (o := .cells #[.int .i64 a0_0, .int .i64 a0_1, .int .i64 a0_2, .int .i64 a0_3, .int .i64 a0_4] 28 (0, 0)) (by (with_reducible repeat (first | refine q5d ?_ _ | refine q6d ?_ | refine q7d ?_ _)); exact BK143.out) hb); have n2_ := qgd (q8d (g := gb144) (o := .cells #[.int .i64 a1_0, .int .i64 a1_1, .int .i64 a1_2, .int .i64 a1_3, .int .i64 a1_4] 28 (0, 0)) (by (with_reducible repeat (first | refine q5d ?_ _ | refine q6d ?_ | refine q7d ?_ _)); exact BK144.out) hb); have n3_ := qgd (q9d (by repeat (first | (with_reducible first | exact HB.out | apply q1d | apply q2d | apply q3d | refine q4d ?_ GE143.out | refine q4d ?_ GE144.out) | exact HB.out)) hb); clear BK143; clear BK144; clear HB; have HO147 := n0_; have BK143 := n1_; have BK144 := n2_; have HB := n3_; clear n0_ n1_ n2_ n3_; clear hb ho7))
 (try simp only [Act.put, p1d, p2d, p3d])
 go_cut [19] (fun v19 wc => ∃ (kq : Nat) (x19_2 : Bool), v19 = .bool x19_2 ∧ Aside0 (impl_MeetingsOf.j0 kq y145 x19_2 a0_0 a0_1 a0_2 a0_3 a0_4 a1_0 a1_1 a1_2 a1_3 a1_4 = some r) ∧ Aside0 (kq ≤ k) ∧ Aside0 (Kd.R (Kd.int .i64) 3 wc w.heap.size (fun _ => True) v146 y145) ∧ Aside0 (wc.heap[gb143]? = some (.cells #[.int .i64 a0_0, .int .i64 a0_1, .int .i64 a0_2, .int .i64 a0_3, .int .i64 a0_4] 28 (0, 0))) ∧ Aside0 (wc.heap[gb144]? = some (.cells #[.int .i64 a1_0, .int .i64 a1_1, .int .i64 a1_2, .int .i64 a1_3, .int .i64 a1_4] 28 (0, 0))) ∧ Aside0 (Below w.heap.size w wc))
 case first =>
  have H := HC3.out
  clear HC3
  replace H := Option.bind_eq_some_iff.mp H
  obtain ⟨t148, A80, H⟩ := H
  replace H : (if t148 = true then ((impl_IsJet.f a1_0 a1_1 a1_2 a1_3 a1_4).bind fun t149 => (impl_MeetingsOf.j0 k y145 (!t149) a0_0 a0_1 a0_2 a0_3 a0_4 a1_0 a1_1 a1_2 a1_3 a1_4)) else (impl_MeetingsOf.j0 k y145 true a0_0 a0_1 a0_2 a0_3 a0_4 a1_0 a1_1 a1_2 a1_3 a1_4)) = some r := H
  have A8 := qgd A80
  clear A80
  by_cases c9 : t148 = true
  ·subst c9
   have H1 : ((impl_IsJet.f a1_0 a1_1 a1_2 a1_3 a1_4).bind fun t149 => (impl_MeetingsOf.j0 k y145 (!t149) a0_0 a0_1 a0_2 a0_3 a0_4 a1_0 a1_1 a1_2 a1_3 a1_4)) = some r := by rw [if_pos rfl] at H; exact H
   clear H
   have H := H1
   clear H1
   replace H := Option.bind_eq_some_iff.mp H
   obtain ⟨t149, A100, H⟩ := H
   replace H : (impl_MeetingsOf.j0 k y145 (!t149) a0_0 a0_1 a0_2 a0_3 a0_4 a1_0 a1_1 a1_2 a1_3 a1_4) = some r := H
   have A10 := qgd A100
   clear A100
   have H' := qgd H
   clear H
   have hnb11 := NB143_144.out
   have hnc11 := NB144_143.out
   have hcz12_0 : w6.cell? ⟨gb143, 0, none⟩ = some (.int .i64 a0_0) := (qcd BK143.out 0).trans rfl
   have hcz12_1 : w6.cell? ⟨gb143, 1, none⟩ = some (.int .i64 a0_1) := (qcd BK143.out 1).trans rfl
   have hcz12_2 : w6.cell? ⟨gb143, 2, none⟩ = some (.int .i64 a0_2) := (qcd BK143.out 2).trans rfl
   have hcz12_3 : w6.cell? ⟨gb143, 3, none⟩ = some (.int .i64 a0_3) := (qcd BK143.out 3).trans rfl
   have hcz12_4 : w6.cell? ⟨gb143, 4, none⟩ = some (.int .i64 a0_4) := (qcd BK143.out 4).trans rfl
   have hfz12_0 := qbd BK143.out 0
   have hfz12_1 := qbd BK143.out 1
   have hfz12_2 := qbd BK143.out 2
   have hfz12_3 := qbd BK143.out 3
   have hfz12_4 := qbd BK143.out 4
   go_wp2_with (first | ((with_reducible refine qtd (f := 54) rfl ?_); refine goesL_ (some 13) rfl rfl Try.func54 (by kernel_rfl) rfl #[.agg #[.int .i64 a0_0, .int .i64 a0_1, .int .i64 a0_2, .int .i64 a0_3, .int .i64 a0_4]] rfl (by (try simp only [List.map_toArray, List.map_cons, List.map_nil]); first | done | rfl | (simp only [List.length_drop, List.length_take]; rfl)) ?_; (with_reducible refine (impl_IsJet.calls a0_0 a0_1 a0_2 a0_3 a0_4 true _ A8.out).mono ?_); rintro e w13 ⟨rfl, hb⟩; refine ⟨_, rfl, ?_⟩; have n0_ := qgd (qjd (by (with_reducible repeat (first | apply qkd | apply qld | apply qmd)); exact HO147.out) hb); have n1_ := qgd (q8d (g := gb143) (o := .cells #[.int .i64 a0_0, .int .i64 a0_1, .int .i64 a0_2, .int .i64 a0_3, .int .i64 a0_4] 28 (0, 0)) (by (with_reducible repeat (first | refine q5d ?_ _ | refine q6d ?_ | refine q7d ?_ _)); exact BK143.out) hb); have n2_ := qgd (q8d (g := gb144) (o := .cells #[.int .i64 a1_0, .int .i64 a1_1, .int .i64 a1_2, .int .i64 a1_3, .int .i64 a1_4] 28 (0, 0)) (by (with_reducible repeat (first | refine q5d ?_ _ | refine q6d ?_ | refine q7d ?_ _)); exact BK144.out) hb); have n3_ := qgd (q9d (by repeat (first | (with_reducible first | exact HB.out | apply q1d | apply q2d | apply q3d | refine q4d ?_ GE143.out | refine q4d ?_ GE144.out) | exact HB.out)) hb); clear HO147; clear BK143; clear BK144; clear HB; have HO147 := n0_; have BK143 := n1_; have BK144 := n2_; have HB := n3_; clear n0_ n1_ n2_ n3_; (try clear hb); (try clear hb2); (try clear hk); (try clear hi); have hcz14_0 : w13.cell? ⟨gb144, 0, none⟩ = some (.int .i64 a1_0) := (qcd BK144.out 0).trans rfl; have hcz14_1 : w13.cell? ⟨gb144, 1, none⟩ = some (.int .i64 a1_1) := (qcd BK144.out 1).trans rfl; have hcz14_2 : w13.cell? ⟨gb144, 2, none⟩ = some (.int .i64 a1_2) := (qcd BK144.out 2).trans rfl; have hcz14_3 : w13.cell? ⟨gb144, 3, none⟩ = some (.int .i64 a1_3) := (qcd BK144.out 3).trans rfl; have hcz14_4 : w13.cell? ⟨gb144, 4, none⟩ = some (.int .i64 a1_4) := (qcd BK144.out 4).trans rfl; have hfz14_0 := qbd BK144.out 0; have hfz14_1 := qbd BK144.out 1; have hfz14_2 := qbd BK144.out 2; have hfz14_3 := qbd BK144.out 3; have hfz14_4 := qbd BK144.out 4) | (go_at_call 54; (with_reducible refine (impl_IsJet.calls a1_0 a1_1 a1_2 a1_3 a1_4 t149 _ A10.out).mono ?_); rintro e w15 ⟨rfl, hb⟩; have n0_ := qgd (qjd (by (with_reducible repeat (first | apply qkd | apply qld | apply qmd)); exact HO147.out) hb); have n1_ := qgd (q8d (g := gb143) (o := .cells #[.int .i64 a0_0, .int .i64 a0_1, .int .i64 a0_2, .int .i64 a0_3, .int .i64 a0_4] 28 (0, 0)) (by (with_reducible repeat (first | refine q5d ?_ _ | refine q6d ?_ | refine q7d ?_ _)); exact BK143.out) hb); have n2_ := qgd (q8d (g := gb144) (o := .cells #[.int .i64 a1_0, .int .i64 a1_1, .int .i64 a1_2, .int .i64 a1_3, .int .i64 a1_4] 28 (0, 0)) (by (with_reducible repeat (first | refine q5d ?_ _ | refine q6d ?_ | refine q7d ?_ _)); exact BK144.out) hb); have n3_ := qgd (q9d (by repeat (first | (with_reducible first | exact HB.out | apply q1d | apply q2d | apply q3d | refine q4d ?_ GE143.out | refine q4d ?_ GE144.out) | exact HB.out)) hb); clear HO147; clear BK143; clear BK144; clear HB; have HO147 := n0_; have BK143 := n1_; have BK144 := n2_; have HB := n3_; clear n0_ n1_ n2_ n3_; (try clear hb); (try clear hb2); (try clear hk); (try clear hi)))
   go_meet
   case rel => exact ⟨_, (!t149), (by first | rfl | (simp; done) | (simp [*]; done)), H', ⟨by first | omega | exact Nat.le_refl _⟩, ⟨by (with_reducible repeat (first | apply qkd | apply qld | apply qmd)); exact HO147.out⟩, ⟨by (with_reducible repeat (first | refine q5d ?_ _ | refine q6d ?_ | refine q7d ?_ _)); exact BK143.out⟩, ⟨by (with_reducible repeat (first | refine q5d ?_ _ | refine q6d ?_ | refine q7d ?_ _)); exact BK144.out⟩, ⟨by repeat (first | (with_reducible first | exact HB.out | apply q1d | apply q2d | apply q3d | refine q4d ?_ GE143.out | refine q4d ?_ GE144.out) | exact HB.out)⟩⟩
  ·replace c9 := Bool.eq_false_iff.mpr c9
   subst c9
   have H1 : (impl_MeetingsOf.j0 k y145 true a0_0 a0_1 a0_2 a0_3 a0_4 a1_0 a1_1 a1_2 a1_3 a1_4) = some r := by rw [if_neg (show ¬ (false = true) by decide)] at H; exact H
   clear H
   have H := H1
   clear H1
   have H' := qgd H
   clear H
   have hnb16 := NB143_144.out
   have hnc16 := NB144_143.out
   have hcz17_0 : w6.cell? ⟨gb143, 0, none⟩ = some (.int .i64 a0_0) := (qcd BK143.out 0).trans rfl
   have hcz17_1 : w6.cell? ⟨gb143, 1, none⟩ = some (.int .i64 a0_1) := (qcd BK143.out 1).trans rfl
   have hcz17_2 : w6.cell? ⟨gb143, 2, none⟩ = some (.int .i64 a0_2) := (qcd BK143.out 2).trans rfl
   have hcz17_3 : w6.cell? ⟨gb143, 3, none⟩ = some (.int .i64 a0_3) := (qcd BK143.out 3).trans rfl
   have hcz17_4 : w6.cell? ⟨gb143, 4, none⟩ = some (.int .i64 a0_4) := (qcd BK143.out 4).trans rfl
   have hfz17_0 := qbd BK143.out 0
   have hfz17_1 := qbd BK143.out 1
   have hfz17_2 := qbd BK143.out 2
   have hfz17_3 := qbd BK143.out 3
   have hfz17_4 := qbd BK143.out 4
   go_wp2_with (first | ((with_reducible refine qtd (f := 54) rfl ?_); refine goesL_ (some 13) rfl rfl Try.func54 (by kernel_rfl) rfl #[.agg #[.int .i64 a0_0, .int .i64 a0_1, .int .i64 a0_2, .int .i64 a0_3, .int .i64 a0_4]] rfl (by (try simp only [List.map_toArray, List.map_cons, List.map_nil]); first | done | rfl | (simp only [List.length_drop, List.length_take]; rfl)) ?_; (with_reducible refine (impl_IsJet.calls a0_0 a0_1 a0_2 a0_3 a0_4 false _ A8.out).mono ?_); rintro e w18 ⟨rfl, hb⟩; refine ⟨_, rfl, ?_⟩; have n0_ := qgd (qjd (by (with_reducible repeat (first | apply qkd | apply qld | apply qmd)); exact HO147.out) hb); have n1_ := qgd (q8d (g := gb143) (o := .cells #[.int .i64 a0_0, .int .i64 a0_1, .int .i64 a0_2, .int .i64 a0_3, .int .i64 a0_4] 28 (0, 0)) (by (with_reducible repeat (first | refine q5d ?_ _ | refine q6d ?_ | refine q7d ?_ _)); exact BK143.out) hb); have n2_ := qgd (q8d (g := gb144) (o := .cells #[.int .i64 a1_0, .int .i64 a1_1, .int .i64 a1_2, .int .i64 a1_3, .int .i64 a1_4] 28 (0, 0)) (by (with_reducible repeat (first | refine q5d ?_ _ | refine q6d ?_ | refine q7d ?_ _)); exact BK144.out) hb); have n3_ := qgd (q9d (by repeat (first | (with_reducible first | exact HB.out | apply q1d | apply q2d | apply q3d | refine q4d ?_ GE143.out | refine q4d ?_ GE144.out) | exact HB.out)) hb); clear HO147; clear BK143; clear BK144; clear HB; have HO147 := n0_; have BK143 := n1_; have BK144 := n2_; have HB := n3_; clear n0_ n1_ n2_ n3_; (try clear hb); (try clear hb2); (try clear hk); (try clear hi)))
   go_meet
   case rel => exact ⟨_, (true), (by first | rfl | (simp; done) | (simp [*]; done)), H', ⟨by first | omega | exact Nat.le_refl _⟩, ⟨by (with_reducible repeat (first | apply qkd | apply qld | apply qmd)); exact HO147.out⟩, ⟨by (with_reducible repeat (first | refine q5d ?_ _ | refine q6d ?_ | refine q7d ?_ _)); exact BK143.out⟩, ⟨by (with_reducible repeat (first | refine q5d ?_ _ | refine q6d ?_ | refine q7d ?_ _)); exact BK144.out⟩, ⟨by repeat (first | (with_reducible first | exact HB.out | apply q1d | apply q2d | apply q3d | refine q4d ?_ GE143.out | refine q4d ?_ GE144.out) | exact HB.out)⟩⟩
 case rest =>
  clear HC3
  try clear c1
  try clear p2
  try clear c4
  try clear c5
  try clear c9
  try clear c11
  try clear c16
  try clear hcz12_0
  try clear hcz12_1
  try clear hcz12_2
  try clear hcz12_3
  try clear hcz12_4
  try clear hcz14_0
  try clear hcz14_1
  try clear hcz14_2
  try clear hcz14_3
  try clear hcz14_4
  try clear hcz17_0
  try clear hcz17_1
  try clear hcz17_2
  try clear hcz17_3
  try clear hcz17_4
  try clear hfz12_0
  try clear hfz12_1
  try clear hfz12_2
  try clear hfz12_3
  try clear hfz12_4
  try clear hfz14_0
  try clear hfz14_1
  try clear hfz14_2
  try clear hfz14_3
  try clear hfz14_4
  try clear hfz17_0
  try clear hfz17_1
  try clear hfz17_2
  try clear hfz17_3
  try clear hfz17_4
  obtain ⟨kq, x19_2, rfl, HA, HJ2, HO_5, BK143, BK144, HB⟩ := hcut
  cases kq with
  | zero => exact absurd HA.out (by simp [impl_MeetingsOf.j0])
  | succ kj2 =>
   have H := HA.out
   clear HA
   simp only [impl_MeetingsOf.j0] at H
   by_cases c19 : x19_2 = true
   ·subst c19
    have H1 : (some y145) = some r := by rw [if_pos rfl] at H; exact H
    clear H
    have H := H1
    clear H1
    obtain rfl := Option.some.inj H
    go_wp2
    go_ret
    exact ⟨_, by first | rfl | (simp [errW_none, errW_some] <;> rfl) | (simp [*, errW_none, errW_some] <;> rfl), by (with_reducible repeat (first | apply qkd | apply qld | apply qmd)); exact HO_5.out, by repeat (first | (with_reducible first | exact HB.out | apply q1d | apply q2d | apply q3d | refine q4d ?_ GE143.out | refine q4d ?_ GE144.out) | exact HB.out)⟩
   ·replace c19 := Bool.eq_false_iff.mpr c19
    subst c19
    have H1 : ((impl_FlightOf.f a0_0 a0_1 a0_2 a0_3 a0_4).bind fun t150 => ((impl_FlightOf.f a1_0 a1_1 a1_2 a1_3 a1_4).bind fun t151 => (impl_MeetingsOf.l0 kj2 y145 (wrap64 ((mn t150 t151) + 1)) 0 a0_0 a0_1 a0_2 a0_3 a0_4 a1_0 a1_1 a1_2 a1_3 a1_4))) = some r := by rw [if_neg (show ¬ (false = true) by decide)] at H; exact H
    clear H
    have H := H1
    clear H1
    replace H := Option.bind_eq_some_iff.mp H
    obtain ⟨t150, A200, H⟩ := H
    replace H : ((impl_FlightOf.f a1_0 a1_1 a1_2 a1_3 a1_4).bind fun t151 => (impl_MeetingsOf.l0 kj2 y145 (wrap64 ((mn t150 t151) + 1)) 0 a0_0 a0_1 a0_2 a0_3 a0_4 a1_0 a1_1 a1_2 a1_3 a1_4)) = some r := H
    have A20 := qgd A200
    clear A200
    replace H := Option.bind_eq_some_iff.mp H
    obtain ⟨t151, A210, H⟩ := H
    replace H : (impl_MeetingsOf.l0 kj2 y145 (wrap64 ((mn t150 t151) + 1)) 0 a0_0 a0_1 a0_2 a0_3 a0_4 a1_0 a1_1 a1_2 a1_3 a1_4) = some r := H
    have A21 := qgd A210
    clear A210
    obtain ⟨ji22, hji22⟩ : ∃ j_ : Int, (mn t150 t151) = j_ := ⟨_, rfl⟩
    replace H : (impl_MeetingsOf.l0 kj2 y145 (wrap64 ((ji22) + 1)) 0 a0_0 a0_1 a0_2 a0_3 a0_4 a1_0 a1_1 a1_2 a1_3 a1_4) = some r := by first | (rw [hji22] at H; exact H) | (simp only [hji22] at H ⊢; exact H)
    (try rw [hji22] at A20)
    (try rw [hji22] at A21)
    have hji22_ : (if t151 < t150 then t151 else t150) = ji22 := hji22
    have H' := qgd H
    clear H
    try go_wp2
    have n0_ := qgd (qmd HO_5.out)
    have n1_ := qgd (q6d BK143.out)
    have n2_ := qgd (q6d BK144.out)
    have n3_ := qgd (q3d HB.out)
    clear HO_5
    clear BK143
    clear BK144
    clear HB
    have HO_5 := n0_
    have BK143 := n1_
    have BK144 := n2_
    have HB := n3_
    clear n0_ n1_ n2_ n3_
    refine start_ (n := 7) (S := fun w' => w'.cell? ⟨gb143, 0, none⟩ = some (.int .i64 a0_0) ∧ w'.cell? ⟨gb143, 1, none⟩ = some (.int .i64 a0_1) ∧ w'.cell? ⟨gb143, 2, none⟩ = some (.int .i64 a0_2) ∧ w'.cell? ⟨gb143, 3, none⟩ = some (.int .i64 a0_3) ∧ w'.cell? ⟨gb143, 4, none⟩ = some (.int .i64 a0_4) ∧ w'.cell? ⟨gb144, 0, none⟩ = some (.int .i64 a1_0) ∧ w'.cell? ⟨gb144, 1, none⟩ = some (.int .i64 a1_1) ∧ w'.cell? ⟨gb144, 2, none⟩ = some (.int .i64 a1_2) ∧ w'.cell? ⟨gb144, 3, none⟩ = some (.int .i64 a1_3) ∧ w'.cell? ⟨gb144, 4, none⟩ = some (.int .i64 a1_4)) (ds := []) #[false, false, false, false, false, false, false] (by kernel_rfl) rfl rfl ⟨(qcd BK143.out 0).trans rfl, (qcd BK143.out 1).trans rfl, (qcd BK143.out 2).trans rfl, (qcd BK143.out 3).trans rfl, (qcd BK143.out 4).trans rfl, (qcd BK144.out 0).trans rfl, (qcd BK144.out 1).trans rfl, (qcd BK144.out 2).trans rfl, (qcd BK144.out 3).trans rfl, (qcd BK144.out 4).trans rfl⟩ (fun hHeld => ?_)
    generalize wc.drew = w23 at HO_5 BK143 BK144 HB hHeld ⊢
    refine pure_ (i := 6) (N := some 27) (v := ?_) (a' := ?_) #[false, false, false, false, false, false, true] rfl rfl (by kernel_rfl) (fun _ _ _ h => h) (Or.inl ⟨by rfl, ?_⟩) ?_ ?_
    rotate_left
    ·intro w'
     go_simp
     with_reducible rfl
    rotate_left
    ·simp only [Act.put, p1d, p2d, p3d, i64_w, i32_w]
     rfl
    refine take_ (i := 0) (N := some 21) (v := ?_) (a' := ?_) #[true, false, false, false, false, false, true] rfl rfl (by kernel_rfl) (fun _ _ _ h => h) (Or.inl ⟨by rfl, ?_⟩) hHeld ?_ ?_
    rotate_left
    ·rintro w' ⟨s0, s1, s2, s3, s4, s5, s6, s7, s8, s9⟩
     go_simp
     with_reducible rfl
    rotate_left
    ·simp only [Act.put, p1d, p2d, p3d, i64_w, i32_w]
     rfl
    refine take_ (i := 2) (N := some 23) (v := ?_) (a' := ?_) #[true, false, true, false, false, false, true] rfl rfl (by kernel_rfl) (fun _ _ _ h => h) (Or.inl ⟨by rfl, ?_⟩) hHeld ?_ ?_
    rotate_left
    ·rintro w' ⟨s0, s1, s2, s3, s4, s5, s6, s7, s8, s9⟩
     go_simp
     with_reducible rfl
    rotate_left
    ·simp only [Act.put, p1d, p2d, p3d, i64_w, i32_w]
     rfl
    refine one_ (i := 1) (N := some 22) #[true, true, true, false, false, false, true] rfl rfl (by kernel_rfl) (by decide) (fun K hK => ?_)
    refine goes_ Try.func56 (by kernel_rfl) rfl #[.agg #[.int .i64 a0_0, .int .i64 a0_1, .int .i64 a0_2, .int .i64 a0_3, .int .i64 a0_4]] (by rfl) rfl rfl (by (try simp only [List.map_toArray, List.map_cons, List.map_nil]); first | done | rfl | (simp only [List.length_drop, List.length_take]; rfl)) ?_
    with_reducible refine (impl_FlightOf.calls a0_0 a0_1 a0_2 a0_3 a0_4 t150 _ A20.out).mono ?_
    rintro e w24 ⟨rfl, hb⟩
    refine ⟨_, rfl, ?_⟩
    have n0_ := qgd (qjd (by (with_reducible repeat (first | apply qkd | apply qld | apply qmd)); exact HO_5.out) hb)
    have n1_ := qgd (q8d (g := gb143) (o := .cells #[.int .i64 a0_0, .int .i64 a0_1, .int .i64 a0_2, .int .i64 a0_3, .int .i64 a0_4] 28 (0, 0)) (by (with_reducible repeat (first | refine q5d ?_ _ | refine q6d ?_ | refine q7d ?_ _)); exact BK143.out) hb)
    have n2_ := qgd (q8d (g := gb144) (o := .cells #[.int .i64 a1_0, .int .i64 a1_1, .int .i64 a1_2, .int .i64 a1_3, .int .i64 a1_4] 28 (0, 0)) (by (with_reducible repeat (first | refine q5d ?_ _ | refine q6d ?_ | refine q7d ?_ _)); exact BK144.out) hb)
    have n3_ := qgd (q9d (by repeat (first | (with_reducible first | exact HB.out | apply q1d | apply q2d | apply q3d | refine q4d ?_ GE143.out | refine q4d ?_ GE144.out) | exact HB.out)) hb)
    clear HO_5
    clear BK143
    clear BK144
    clear HB
    have HO_5 := n0_
    have BK143 := n1_
    have BK144 := n2_
    have HB := n3_
    clear n0_ n1_ n2_ n3_
    (try clear hb)
    (try clear hb2)
    (try clear hk)
    (try clear hi)
    refine hK.out _ _ ⟨(qcd BK143.out 0).trans rfl, (qcd BK143.out 1).trans rfl, (qcd BK143.out 2).trans rfl, (qcd BK143.out 3).trans rfl, (qcd BK143.out 4).trans rfl, (qcd BK144.out 0).trans rfl, (qcd BK144.out 1).trans rfl, (qcd BK144.out 2).trans rfl, (qcd BK144.out 3).trans rfl, (qcd BK144.out 4).trans rfl⟩ (fun hHeld => ?_)
    clear hK K
    refine norm_ (a' := ?_) ?_ ?_
    rotate_left
    ·show Act.put _ (some 22) _ = _
     simp only [Act.put, p1d, p2d, p3d, i64_w, i32_w]
     rfl
    refine one_ (i := 3) (N := some 24) #[true, true, true, true, false, false, true] rfl rfl (by kernel_rfl) (by decide) (fun K hK => ?_)
    refine goes_ Try.func56 (by kernel_rfl) rfl #[.agg #[.int .i64 a1_0, .int .i64 a1_1, .int .i64 a1_2, .int .i64 a1_3, .int .i64 a1_4]] (by rfl) rfl rfl (by (try simp only [List.map_toArray, List.map_cons, List.map_nil]); first | done | rfl | (simp only [List.length_drop, List.length_take]; rfl)) ?_
    with_reducible refine (impl_FlightOf.calls a1_0 a1_1 a1_2 a1_3 a1_4 t151 _ A21.out).mono ?_
    rintro e w25 ⟨rfl, hb⟩
    refine ⟨_, rfl, ?_⟩
    have n0_ := qgd (qjd (by (with_reducible repeat (first | apply qkd | apply qld | apply qmd)); exact HO_5.out) hb)
    have n1_ := qgd (q8d (g := gb143) (o := .cells #[.int .i64 a0_0, .int .i64 a0_1, .int .i64 a0_2, .int .i64 a0_3, .int .i64 a0_4] 28 (0, 0)) (by (with_reducible repeat (first | refine q5d ?_ _ | refine q6d ?_ | refine q7d ?_ _)); exact BK143.out) hb)
    have n2_ := qgd (q8d (g := gb144) (o := .cells #[.int .i64 a1_0, .int .i64 a1_1, .int .i64 a1_2, .int .i64 a1_3, .int .i64 a1_4] 28 (0, 0)) (by (with_reducible repeat (first | refine q5d ?_ _ | refine q6d ?_ | refine q7d ?_ _)); exact BK144.out) hb)
    have n3_ := qgd (q9d (by repeat (first | (with_reducible first | exact HB.out | apply q1d | apply q2d | apply q3d | refine q4d ?_ GE143.out | refine q4d ?_ GE144.out) | exact HB.out)) hb)
    clear HO_5
    clear BK143
    clear BK144
    clear HB
    have HO_5 := n0_
    have BK143 := n1_
    have BK144 := n2_
    have HB := n3_
    clear n0_ n1_ n2_ n3_
    (try clear hb)
    (try clear hb2)
    (try clear hk)
    (try clear hi)
    refine hK.out _ _ ⟨(qcd BK143.out 0).trans rfl, (qcd BK143.out 1).trans rfl, (qcd BK143.out 2).trans rfl, (qcd BK143.out 3).trans rfl, (qcd BK143.out 4).trans rfl, (qcd BK144.out 0).trans rfl, (qcd BK144.out 1).trans rfl, (qcd BK144.out 2).trans rfl, (qcd BK144.out 3).trans rfl, (qcd BK144.out 4).trans rfl⟩ (fun hHeld => ?_)
    clear hK K
    refine norm_ (a' := ?_) ?_ ?_
    rotate_left
    ·show Act.put _ (some 24) _ = _
     simp only [Act.put, p1d, p2d, p3d, i64_w, i32_w]
     rfl
    refine pure_ (i := 4) (N := some 25) (v := ?_) (a' := ?_) #[true, true, true, true, true, false, true] rfl rfl (by kernel_rfl) (fun _ _ _ h => h) (Or.inl ⟨by rfl, ?_⟩) ?_ ?_
    rotate_left
    ·intro w'
     go_simp
     with_reducible rfl
    rotate_left
    ·simp only [Act.put, p1d, p2d, p3d, i64_w, i32_w]
     rfl
    refine pure_ (i := 5) (N := some 26) (v := ?_) (a' := ?_) #[true, true, true, true, true, true, true] rfl rfl (by kernel_rfl) (fun _ _ _ h => h) (Or.inl ⟨by rfl, ?_⟩) ?_ ?_
    rotate_left
    ·intro w'
     go_simp
     with_reducible rfl
    rotate_left
    ·simp only [Act.put, p1d, p2d, p3d, i64_w, i32_w]
     rfl
    refine done_ (by kernel_rfl) ?_
    try go_wp2
    go_loopg [5, 27] kj2 (fun kq v5 v27 w' => ∃ (x5_2 : List Int) (x27_2 : Int), v27 = .int .i64 x27_2 ∧ Aside0 (impl_MeetingsOf.l0 kq x5_2 (wrap64 ((ji22) + 1)) x27_2 a0_0 a0_1 a0_2 a0_3 a0_4 a1_0 a1_1 a1_2 a1_3 a1_4 = some r) ∧ Aside0 (kq ≤ kj2) ∧ Aside0 (Kd.R (Kd.int .i64) 3 w' w.heap.size (fun _ => True) v5 x5_2) ∧ Aside0 (w'.heap[gb143]? = some (.cells #[.int .i64 a0_0, .int .i64 a0_1, .int .i64 a0_2, .int .i64 a0_3, .int .i64 a0_4] 28 (0, 0))) ∧ Aside0 (w'.heap[gb144]? = some (.cells #[.int .i64 a1_0, .int .i64 a1_1, .int .i64 a1_2, .int .i64 a1_3, .int .i64 a1_4] 28 (0, 0))) ∧ Aside0 (Below w.heap.size w w'))
    case atStart => exact ⟨(y145), (0), (by first | rfl | (simp; done) | (simp [*]; done)), H', ⟨Nat.le_refl _⟩, ⟨by (with_reducible repeat (first | apply qkd | apply qld | apply qmd)); exact HO_5.out⟩, ⟨by (with_reducible repeat (first | refine q5d ?_ _ | refine q6d ?_ | refine q7d ?_ _)); exact BK143.out⟩, ⟨by (with_reducible repeat (first | refine q5d ?_ _ | refine q6d ?_ | refine q7d ?_ _)); exact BK144.out⟩, ⟨by repeat (first | (with_reducible first | exact HB.out | apply q1d | apply q2d | apply q3d | refine q4d ?_ GE143.out | refine q4d ?_ GE144.out) | exact HB.out)⟩⟩
    case round =>
     clear H'
     try clear c1
     try clear p2
     try clear c4
     try clear c5
     try clear p6
     try clear c9
     try clear c11
     try clear c16
     try clear c19
     try clear hcz12_0
     try clear hcz12_1
     try clear hcz12_2
     try clear hcz12_3
     try clear hcz12_4
     try clear hcz14_0
     try clear hcz14_1
     try clear hcz14_2
     try clear hcz14_3
     try clear hcz14_4
     try clear hcz17_0
     try clear hcz17_1
     try clear hcz17_2
     try clear hcz17_3
     try clear hcz17_4
     try clear hfz12_0
     try clear hfz12_1
     try clear hfz12_2
     try clear hfz12_3
     try clear hfz12_4
     try clear hfz14_0
     try clear hfz14_1
     try clear hfz14_2
     try clear hfz14_3
     try clear hfz14_4
     try clear hfz17_0
     try clear hfz17_1
     try clear hfz17_2
     try clear hfz17_3
     try clear hfz17_4
     try clear p2
     obtain ⟨x5_2, x27_2, rfl, HA, HK2, HO_5, BK143, BK144, HB⟩ := hrel
     cases gk with
     | zero => exact absurd HA.out (by simp [impl_MeetingsOf.l0])
     | succ k2 =>
      have H := HA.out
      clear HA
      simp only [impl_MeetingsOf.l0] at H
      by_cases c26 : x27_2 < (wrap64 ((ji22) + 1))
      ·rw [if_pos c26] at H
       have c26b0 : decide (x27_2 < (wrap64 ((ji22) + 1))) = true := decide_eq_true c26
       clear c26
       replace H := Option.bind_eq_some_iff.mp H
       obtain ⟨⟨t152, t153, t154⟩, A270, H⟩ := H
       replace H : ((impl_PlaceAt.f k2 a1_0 a1_1 a1_2 a1_3 a1_4 x27_2).bind fun bt156 => (if (t152 == bt156.1 && (t153 == bt156.2.1)) = true then ((impl_HeightAt.f a0_0 a0_1 a0_2 a0_3 a0_4 x27_2).bind fun t160 => ((impl_HeightAt.f a1_0 a1_1 a1_2 a1_3 a1_4 x27_2).bind fun t161 => (if t160 = t161 then (if x5_2.length < 17592186044416 then (impl_MeetingsOf.l0 k2 (x5_2 ++ [x27_2]) (wrap64 ((ji22) + 1)) (wrap64 (x27_2 + 1)) a0_0 a0_1 a0_2 a0_3 a0_4 a1_0 a1_1 a1_2 a1_3 a1_4) else (none)) else (impl_MeetingsOf.l0 k2 x5_2 (wrap64 ((ji22) + 1)) (wrap64 (x27_2 + 1)) a0_0 a0_1 a0_2 a0_3 a0_4 a1_0 a1_1 a1_2 a1_3 a1_4)))) else (impl_MeetingsOf.l0 k2 x5_2 (wrap64 ((ji22) + 1)) (wrap64 (x27_2 + 1)) a0_0 a0_1 a0_2 a0_3 a0_4 a1_0 a1_1 a1_2 a1_3 a1_4))) = some r := H
       have A27 := qgd A270
       clear A270
       replace H := Option.bind_eq_some_iff.mp H
       obtain ⟨⟨t156, t157, t158⟩, A280, H⟩ := H
       replace H : (if (t152 == t156 && (t153 == t157)) = true then ((impl_HeightAt.f a0_0 a0_1 a0_2 a0_3 a0_4 x27_2).bind fun t160 => ((impl_HeightAt.f a1_0 a1_1 a1_2 a1_3 a1_4 x27_2).bind fun t161 => (if t160 = t161 then (if x5_2.length < 17592186044416 then (impl_MeetingsOf.l0 k2 (x5_2 ++ [x27_2]) (wrap64 ((ji22) + 1)) (wrap64 (x27_2 + 1)) a0_0 a0_1 a0_2 a0_3 a0_4 a1_0 a1_1 a1_2 a1_3 a1_4) else (none)) else (impl_MeetingsOf.l0 k2 x5_2 (wrap64 ((ji22) + 1)) (wrap64 (x27_2 + 1)) a0_0 a0_1 a0_2 a0_3 a0_4 a1_0 a1_1 a1_2 a1_3 a1_4)))) else (impl_MeetingsOf.l0 k2 x5_2 (wrap64 ((ji22) + 1)) (wrap64 (x27_2 + 1)) a0_0 a0_1 a0_2 a0_3 a0_4 a1_0 a1_1 a1_2 a1_3 a1_4)) = some r := H
       have A28 := qgd A280
       clear A280
       by_cases c29 : (t152 == t156 && (t153 == t157)) = true
       ·rw [if_pos c29] at H
        have c29b0 : (t152 == t156 && (t153 == t157)) = true := c29
        (try (have c29b1 : decide (t152 = t156 && (t153 == t157)) = true := by simpa using c29))
        (try (have c29b2 : (t152 == t156 && (t153 == t157)) = true := by simpa using c29))
        clear c29
        replace H := Option.bind_eq_some_iff.mp H
        obtain ⟨t160, A300, H⟩ := H
        replace H : ((impl_HeightAt.f a1_0 a1_1 a1_2 a1_3 a1_4 x27_2).bind fun t161 => (if t160 = t161 then (if x5_2.length < 17592186044416 then (impl_MeetingsOf.l0 k2 (x5_2 ++ [x27_2]) (wrap64 ((ji22) + 1)) (wrap64 (x27_2 + 1)) a0_0 a0_1 a0_2 a0_3 a0_4 a1_0 a1_1 a1_2 a1_3 a1_4) else (none)) else (impl_MeetingsOf.l0 k2 x5_2 (wrap64 ((ji22) + 1)) (wrap64 (x27_2 + 1)) a0_0 a0_1 a0_2 a0_3 a0_4 a1_0 a1_1 a1_2 a1_3 a1_4))) = some r := H
        have A30 := qgd A300
        clear A300
        replace H := Option.bind_eq_some_iff.mp H
        obtain ⟨t161, A310, H⟩ := H
        replace H : (if t160 = t161 then (if x5_2.length < 17592186044416 then (impl_MeetingsOf.l0 k2 (x5_2 ++ [x27_2]) (wrap64 ((ji22) + 1)) (wrap64 (x27_2 + 1)) a0_0 a0_1 a0_2 a0_3 a0_4 a1_0 a1_1 a1_2 a1_3 a1_4) else (none)) else (impl_MeetingsOf.l0 k2 x5_2 (wrap64 ((ji22) + 1)) (wrap64 (x27_2 + 1)) a0_0 a0_1 a0_2 a0_3 a0_4 a1_0 a1_1 a1_2 a1_3 a1_4)) = some r := H
        have A31 := qgd A310
        clear A310
        by_cases c32 : t160 = t161
        ·rw [if_pos c32] at H
         have c32b0 : (t160 == t161) = true := beq_iff_eq.mpr c32
         have c32b1 : (t160 != t161) = false := bne_eq_false_iff_eq.mpr c32
         clear c32
         by_cases c33 : x5_2.length < 17592186044416
         ·rw [if_pos c33] at H
          have LMc33 := qgd c33
          clear c33
          obtain ⟨y162, hy162⟩ : ∃ y_ : List Int, y_ = (x5_2 ++ [x27_2]) := ⟨_, rfl⟩
          replace H : (impl_MeetingsOf.l0 k2 y162 (wrap64 ((ji22) + 1)) (wrap64 (x27_2 + 1)) a0_0 a0_1 a0_2 a0_3 a0_4 a1_0 a1_1 a1_2 a1_3 a1_4) = some r := by first | (rw [hy162]; with_reducible exact H) | (have H2_ := (Option.bind_some _ _).symm.trans H; rw [hy162]; with_reducible exact H2_) | (have H2_ := (Option.bind_some _ _).symm.trans H; with_reducible exact H2_) | with_reducible exact H | (rw [hy162]; exact H) | exact H
          have Ny162 := qgd hy162
          clear hy162
          have H' := qgd H
          clear H
          have hnb34 := NB143_144.out
          have hnc34 := NB144_143.out
          have hcz35_0 : wr.cell? ⟨gb143, 0, none⟩ = some (.int .i64 a0_0) := (qcd BK143.out 0).trans rfl
          have hcz35_1 : wr.cell? ⟨gb143, 1, none⟩ = some (.int .i64 a0_1) := (qcd BK143.out 1).trans rfl
          have hcz35_2 : wr.cell? ⟨gb143, 2, none⟩ = some (.int .i64 a0_2) := (qcd BK143.out 2).trans rfl
          have hcz35_3 : wr.cell? ⟨gb143, 3, none⟩ = some (.int .i64 a0_3) := (qcd BK143.out 3).trans rfl
          have hcz35_4 : wr.cell? ⟨gb143, 4, none⟩ = some (.int .i64 a0_4) := (qcd BK143.out 4).trans rfl
          have hfz35_0 := qbd BK143.out 0
          have hfz35_1 := qbd BK143.out 1
          have hfz35_2 := qbd BK143.out 2
          have hfz35_3 := qbd BK143.out 3
          have hfz35_4 := qbd BK143.out 4
          try go_wp2_with (first | ((with_reducible refine qtd (f := 26) rfl ?_); refine goesL_ (some 33) rfl rfl Try.func26 (by kernel_rfl) rfl #[.agg #[.int .i64 a0_0, .int .i64 a0_1, .int .i64 a0_2, .int .i64 a0_3, .int .i64 a0_4], .int .i64 x27_2] rfl (by (try simp only [List.map_toArray, List.map_cons, List.map_nil]); first | done | rfl | (simp only [List.length_drop, List.length_take]; rfl)) ?_; (with_reducible refine (impl_PlaceAt.calls k2 a0_0 a0_1 a0_2 a0_3 a0_4 x27_2 t152 t153 t154 _ A27.out).mono ?_); rintro e w36 ⟨rfl, hb⟩; refine ⟨_, rfl, ?_⟩; have n0_ := qgd (qjd (by (with_reducible repeat (first | apply qkd | apply qld | apply qmd)); exact HO_5.out) hb); have n1_ := qgd (q8d (g := gb143) (o := .cells #[.int .i64 a0_0, .int .i64 a0_1, .int .i64 a0_2, .int .i64 a0_3, .int .i64 a0_4] 28 (0, 0)) (by (with_reducible repeat (first | refine q5d ?_ _ | refine q6d ?_ | refine q7d ?_ _)); exact BK143.out) hb); have n2_ := qgd (q8d (g := gb144) (o := .cells #[.int .i64 a1_0, .int .i64 a1_1, .int .i64 a1_2, .int .i64 a1_3, .int .i64 a1_4] 28 (0, 0)) (by (with_reducible repeat (first | refine q5d ?_ _ | refine q6d ?_ | refine q7d ?_ _)); exact BK144.out) hb); have n3_ := qgd (q9d (by repeat (first | (with_reducible first | exact HB.out | apply q1d | apply q2d | apply q3d | refine q4d ?_ GE143.out | refine q4d ?_ GE144.out) | exact HB.out)) hb); clear HO_5; clear BK143; clear BK144; clear HB; have HO_5 := n0_; have BK143 := n1_; have BK144 := n2_; have HB := n3_; clear n0_ n1_ n2_ n3_; (try clear hb); (try clear hb2); (try clear hk); (try clear hi)) | ((with_reducible refine qud (N := 7) rfl ?_); refine qhd ?hg (N := 7) ?hd (cs := #[.int .i64 0, .int .i64 0]) (t := 26) ?hr ?_; (case hd => rfl); (case hg => rfl); (case hr => first | (go_simp; done) | (go_simp; rfl)); intro gb155 hg w37 hbox hb; have n0_ := qgd (qjd (by (with_reducible repeat (first | apply qkd | apply qld | apply qmd)); exact HO_5.out) hb); have n1_ := qgd (q8d (g := gb143) (o := .cells #[.int .i64 a0_0, .int .i64 a0_1, .int .i64 a0_2, .int .i64 a0_3, .int .i64 a0_4] 28 (0, 0)) (by (with_reducible repeat (first | refine q5d ?_ _ | refine q6d ?_ | refine q7d ?_ _)); exact BK143.out) hb); have n2_ := qgd (q8d (g := gb144) (o := .cells #[.int .i64 a1_0, .int .i64 a1_1, .int .i64 a1_2, .int .i64 a1_3, .int .i64 a1_4] 28 (0, 0)) (by (with_reducible repeat (first | refine q5d ?_ _ | refine q6d ?_ | refine q7d ?_ _)); exact BK144.out) hb); have n3_ := qgd (q9d (by repeat (first | (with_reducible first | exact HB.out | apply q1d | apply q2d | apply q3d | refine q4d ?_ GE143.out | refine q4d ?_ GE144.out) | exact HB.out)) hb); have n4_ := qgd (hbox); have n5_ := qgd ((by rw [hg]; exact (qad (by repeat (first | (with_reducible first | exact HB.out | apply q1d | apply q2d | apply q3d | refine q4d ?_ GE143.out | refine q4d ?_ GE144.out) | exact HB.out))) : w.heap.size ≤ gb155)); have n6_ := qgd ((by rw [hg]; exact (qad (by repeat (first | (with_reducible first | exact HB.out | apply q1d | apply q2d | apply q3d | refine q4d ?_ GE143.out | refine q4d ?_ GE144.out) | exact HB.out))) : w.heap.size ≤ gb155)); have n7_ := qgd ((by rw [hg]; exact qvd (qdd (g := gb143) (o := .cells #[.int .i64 a0_0, .int .i64 a0_1, .int .i64 a0_2, .int .i64 a0_3, .int .i64 a0_4] 28 (0, 0)) (by (with_reducible repeat (first | refine q5d ?_ _ | refine q6d ?_ | refine q7d ?_ _)); exact BK143.out)) : gb143 ≠ gb155)); have n8_ := qgd ((by rw [hg]; exact qwd (qdd (g := gb143) (o := .cells #[.int .i64 a0_0, .int .i64 a0_1, .int .i64 a0_2, .int .i64 a0_3, .int .i64 a0_4] 28 (0, 0)) (by (with_reducible repeat (first | refine q5d ?_ _ | refine q6d ?_ | refine q7d ?_ _)); exact BK143.out)) : gb155 ≠ gb143)); have n9_ := qgd ((by rw [hg]; exact qvd (qdd (g := gb144) (o := .cells #[.int .i64 a1_0, .int .i64 a1_1, .int .i64 a1_2, .int .i64 a1_3, .int .i64 a1_4] 28 (0, 0)) (by (with_reducible repeat (first | refine q5d ?_ _ | refine q6d ?_ | refine q7d ?_ _)); exact BK144.out)) : gb144 ≠ gb155)); have n10_ := qgd ((by rw [hg]; exact qwd (qdd (g := gb144) (o := .cells #[.int .i64 a1_0, .int .i64 a1_1, .int .i64 a1_2, .int .i64 a1_3, .int .i64 a1_4] 28 (0, 0)) (by (with_reducible repeat (first | refine q5d ?_ _ | refine q6d ?_ | refine q7d ?_ _)); exact BK144.out)) : gb155 ≠ gb144)); clear HO_5; clear BK143; clear BK144; clear HB; have HO_5 := n0_; have BK143 := n1_; have BK144 := n2_; have HB := n3_; have BK155 := n4_; have GW155 := n5_; have GE155 := n6_; have NB143_155 := n7_; have NB155_143 := n8_; have NB144_155 := n9_; have NB155_144 := n10_; clear n0_ n1_ n2_ n3_ n4_ n5_ n6_ n7_ n8_ n9_ n10_; clear hb hbox hg; have hnb38 := NB155_143.out; have hnc38 := NB143_155.out; have hnb39 := NB155_144.out; have hnc39 := NB144_155.out; have hcz40_0 : w37.cell? ⟨gb155, 0, none⟩ = some (.int .i64 0) := (qcd BK155.out 0).trans rfl; have hcz40_1 : w37.cell? ⟨gb155, 1, none⟩ = some (.int .i64 0) := (qcd BK155.out 1).trans rfl; have hfz40_0 := qbd BK155.out 0; have hfz40_1 := qbd BK155.out 1; have hcz41_0 : w37.cell? ⟨gb144, 0, none⟩ = some (.int .i64 a1_0) := (qcd BK144.out 0).trans rfl; have hcz41_1 : w37.cell? ⟨gb144, 1, none⟩ = some (.int .i64 a1_1) := (qcd BK144.out 1).trans rfl; have hcz41_2 : w37.cell? ⟨gb144, 2, none⟩ = some (.int .i64 a1_2) := (qcd BK144.out 2).trans rfl; have hcz41_3 : w37.cell? ⟨gb144, 3, none⟩ = some (.int .i64 a1_3) := (qcd BK144.out 3).trans rfl; have hcz41_4 : w37.cell? ⟨gb144, 4, none⟩ = some (.int .i64 a1_4) := (qcd BK144.out 4).trans rfl; have hfz41_0 := qbd BK144.out 0; have hfz41_1 := qbd BK144.out 1; have hfz41_2 := qbd BK144.out 2; have hfz41_3 := qbd BK144.out 3; have hfz41_4 := qbd BK144.out 4) | ((with_reducible refine qtd (f := 26) rfl ?_); refine goesL_ (some 39) rfl rfl Try.func26 (by kernel_rfl) rfl #[.agg #[.int .i64 a1_0, .int .i64 a1_1, .int .i64 a1_2, .int .i64 a1_3, .int .i64 a1_4], .int .i64 x27_2] rfl (by (try simp only [List.map_toArray, List.map_cons, List.map_nil]); first | done | rfl | (simp only [List.length_drop, List.length_take]; rfl)) ?_; (with_reducible refine (impl_PlaceAt.calls k2 a1_0 a1_1 a1_2 a1_3 a1_4 x27_2 t156 t157 t158 _ A28.out).mono ?_); rintro e w42 ⟨rfl, hb⟩; refine ⟨_, rfl, ?_⟩; have n0_ := qgd (qjd (by (with_reducible repeat (first | apply qkd | apply qld | apply qmd)); exact (Kd.R_mono (Kd.R_far (p := ⟨gb155, 1, none⟩) (Kd.R_far (p := ⟨gb155, 0, none⟩) (Kd.R_types HO_5.out BK155.out (by decide)) (fun _ hk => hk.2) (.int .i64 t152)) (fun _ hk => hk.2) (.int .i64 t153)) (fun _ h_ => h_.1))) hb); have n1_ := qgd (q8d (g := gb143) (o := .cells #[.int .i64 a0_0, .int .i64 a0_1, .int .i64 a0_2, .int .i64 a0_3, .int .i64 a0_4] 28 (0, 0)) (by (with_reducible repeat (first | refine q5d ?_ _ | refine q6d ?_ | refine q7d ?_ _)); refine qed ?_ NB143_155.out _; (with_reducible repeat (first | refine q5d ?_ _ | refine q6d ?_ | refine q7d ?_ _)); refine qed ?_ NB143_155.out _; (with_reducible repeat (first | refine q5d ?_ _ | refine q6d ?_ | refine q7d ?_ _)); exact BK143.out) hb); have n2_ := qgd (q8d (g := gb144) (o := .cells #[.int .i64 a1_0, .int .i64 a1_1, .int .i64 a1_2, .int .i64 a1_3, .int .i64 a1_4] 28 (0, 0)) (by (with_reducible repeat (first | refine q5d ?_ _ | refine q6d ?_ | refine q7d ?_ _)); refine qed ?_ NB144_155.out _; (with_reducible repeat (first | refine q5d ?_ _ | refine q6d ?_ | refine q7d ?_ _)); refine qed ?_ NB144_155.out _; (with_reducible repeat (first | refine q5d ?_ _ | refine q6d ?_ | refine q7d ?_ _)); exact BK144.out) hb); have n3_ := qgd (q8d (g := gb155) (o := .cells #[.int .i64 t152, .int .i64 t153] 26 (0, 0)) (by (with_reducible repeat (first | refine q5d ?_ _ | refine q6d ?_ | refine q7d ?_ _)); refine qfd (cs := #[.int .i64 t152, .int .i64 0]) ?_ 1 _ rfl; (with_reducible repeat (first | refine q5d ?_ _ | refine q6d ?_ | refine q7d ?_ _)); refine qfd (cs := #[.int .i64 0, .int .i64 0]) ?_ 0 _ rfl; (with_reducible repeat (first | refine q5d ?_ _ | refine q6d ?_ | refine q7d ?_ _)); exact BK155.out) hb); have n4_ := qgd (q9d (by repeat (first | (with_reducible first | exact HB.out | apply q1d | apply q2d | apply q3d | refine q4d ?_ GE143.out | refine q4d ?_ GE144.out | refine q4d ?_ GE155.out) | exact HB.out)) hb); clear HO_5; clear BK143; clear BK144; clear BK155; clear HB; have HO_5 := n0_; have BK143 := n1_; have BK144 := n2_; have BK155 := n3_; have HB := n4_; clear n0_ n1_ n2_ n3_ n4_; (try clear hb); (try clear hb2); (try clear hk); (try clear hi)) | ((with_reducible refine qud (N := 9) rfl ?_); refine qhd ?hg (N := 9) ?hd (cs := #[.int .i64 0, .int .i64 0]) (t := 26) ?hr ?_; (case hd => rfl); (case hg => rfl); (case hr => first | (go_simp; done) | (go_simp; rfl)); intro gb159 hg w43 hbox hb; have n0_ := qgd (qjd (by (with_reducible repeat (first | apply qkd | apply qld | apply qmd)); exact HO_5.out) hb); have n1_ := qgd (q8d (g := gb143) (o := .cells #[.int .i64 a0_0, .int .i64 a0_1, .int .i64 a0_2, .int .i64 a0_3, .int .i64 a0_4] 28 (0, 0)) (by (with_reducible repeat (first | refine q5d ?_ _ | refine q6d ?_ | refine q7d ?_ _)); exact BK143.out) hb); have n2_ := qgd (q8d (g := gb144) (o := .cells #[.int .i64 a1_0, .int .i64 a1_1, .int .i64 a1_2, .int .i64 a1_3, .int .i64 a1_4] 28 (0, 0)) (by (with_reducible repeat (first | refine q5d ?_ _ | refine q6d ?_ | refine q7d ?_ _)); exact BK144.out) hb); have n3_ := qgd (q8d (g := gb155) (o := .cells #[.int .i64 t152, .int .i64 t153] 26 (0, 0)) (by (with_reducible repeat (first | refine q5d ?_ _ | refine q6d ?_ | refine q7d ?_ _)); exact BK155.out) hb); have n4_ := qgd (q9d (by repeat (first | (with_reducible first | exact HB.out | apply q1d | apply q2d | apply q3d | refine q4d ?_ GE143.out | refine q4d ?_ GE144.out | refine q4d ?_ GE155.out) | exact HB.out)) hb); have n5_ := qgd (hbox); have n6_ := qgd ((by rw [hg]; exact (qad (by repeat (first | (with_reducible first | exact HB.out | apply q1d | apply q2d | apply q3d | refine q4d ?_ GE143.out | refine q4d ?_ GE144.out | refine q4d ?_ GE155.out) | exact HB.out))) : w.heap.size ≤ gb159)); have n7_ := qgd ((by rw [hg]; exact (qad (by repeat (first | (with_reducible first | exact HB.out | apply q1d | apply q2d | apply q3d | refine q4d ?_ GE143.out | refine q4d ?_ GE144.out | refine q4d ?_ GE155.out) | exact HB.out))) : w.heap.size ≤ gb159)); have n8_ := qgd ((by rw [hg]; exact qvd (qdd (g := gb143) (o := .cells #[.int .i64 a0_0, .int .i64 a0_1, .int .i64 a0_2, .int .i64 a0_3, .int .i64 a0_4] 28 (0, 0)) (by (with_reducible repeat (first | refine q5d ?_ _ | refine q6d ?_ | refine q7d ?_ _)); exact BK143.out)) : gb143 ≠ gb159)); have n9_ := qgd ((by rw [hg]; exact qwd (qdd (g := gb143) (o := .cells #[.int .i64 a0_0, .int .i64 a0_1, .int .i64 a0_2, .int .i64 a0_3, .int .i64 a0_4] 28 (0, 0)) (by (with_reducible repeat (first | refine q5d ?_ _ | refine q6d ?_ | refine q7d ?_ _)); exact BK143.out)) : gb159 ≠ gb143)); have n10_ := qgd ((by rw [hg]; exact qvd (qdd (g := gb144) (o := .cells #[.int .i64 a1_0, .int .i64 a1_1, .int .i64 a1_2, .int .i64 a1_3, .int .i64 a1_4] 28 (0, 0)) (by (with_reducible repeat (first | refine q5d ?_ _ | refine q6d ?_ | refine q7d ?_ _)); exact BK144.out)) : gb144 ≠ gb159)); have n11_ := qgd ((by rw [hg]; exact qwd (qdd (g := gb144) (o := .cells #[.int .i64 a1_0, .int .i64 a1_1, .int .i64 a1_2, .int .i64 a1_3, .int .i64 a1_4] 28 (0, 0)) (by (with_reducible repeat (first | refine q5d ?_ _ | refine q6d ?_ | refine q7d ?_ _)); exact BK144.out)) : gb159 ≠ gb144)); have n12_ := qgd ((by rw [hg]; exact qvd (qdd (g := gb155) (o := .cells #[.int .i64 t152, .int .i64 t153] 26 (0, 0)) (by (with_reducible repeat (first | refine q5d ?_ _ | refine q6d ?_ | refine q7d ?_ _)); exact BK155.out)) : gb155 ≠ gb159)); have n13_ := qgd ((by rw [hg]; exact qwd (qdd (g := gb155) (o := .cells #[.int .i64 t152, .int .i64 t153] 26 (0, 0)) (by (with_reducible repeat (first | refine q5d ?_ _ | refine q6d ?_ | refine q7d ?_ _)); exact BK155.out)) : gb159 ≠ gb155)); clear HO_5; clear BK143; clear BK144; clear BK155; clear HB; have HO_5 := n0_; have BK143 := n1_; have BK144 := n2_; have BK155 := n3_; have HB := n4_; have BK159 := n5_; have GW159 := n6_; have GE159 := n7_; have NB143_159 := n8_; have NB159_143 := n9_; have NB144_159 := n10_; have NB159_144 := n11_; have NB155_159 := n12_; have NB159_155 := n13_; clear n0_ n1_ n2_ n3_ n4_ n5_ n6_ n7_ n8_ n9_ n10_ n11_ n12_ n13_; clear hb hbox hg; have hnb44 := NB159_143.out; have hnc44 := NB143_159.out; have hnb45 := NB159_144.out; have hnc45 := NB144_159.out; have hnb46 := NB159_155.out; have hnc46 := NB155_159.out; have hcz47_0 : w43.cell? ⟨gb159, 0, none⟩ = some (.int .i64 0) := (qcd BK159.out 0).trans rfl; have hcz47_1 : w43.cell? ⟨gb159, 1, none⟩ = some (.int .i64 0) := (qcd BK159.out 1).trans rfl; have hfz47_0 := qbd BK159.out 0; have hfz47_1 := qbd BK159.out 1))
          have n0_ : Aside0 (Kd.R (Kd.int .i64) 3 ((w43.setCell ⟨gb159, 0, none⟩ (.int .i64 t156)).setCell ⟨gb159, 1, none⟩ (.int .i64 t157)) w.heap.size (fun _ => True) u5 x5_2) := ⟨by (with_reducible repeat (first | apply qkd | apply qld | apply qmd)); exact Kd.R_mono (Kd.R_far (p := ⟨gb159, 1, none⟩) (Kd.R_far (p := ⟨gb159, 0, none⟩) (Kd.R_types HO_5.out BK159.out (by decide)) (fun _ hk => hk.2) (.int .i64 t156)) (fun _ hk => hk.2) (.int .i64 t157)) (fun _ hk => trivial)⟩
          have n1_ : Aside0 (((w43.setCell ⟨gb159, 0, none⟩ (.int .i64 t156)).setCell ⟨gb159, 1, none⟩ (.int .i64 t157)).heap[gb143]? = some (.cells #[.int .i64 a0_0, .int .i64 a0_1, .int .i64 a0_2, .int .i64 a0_3, .int .i64 a0_4] 28 (0, 0))) := ⟨by (with_reducible repeat (first | refine q5d ?_ _ | refine q6d ?_ | refine q7d ?_ _)); refine qed ?_ NB143_159.out _; (with_reducible repeat (first | refine q5d ?_ _ | refine q6d ?_ | refine q7d ?_ _)); refine qed ?_ NB143_159.out _; (with_reducible repeat (first | refine q5d ?_ _ | refine q6d ?_ | refine q7d ?_ _)); exact BK143.out⟩
          have n2_ : Aside0 (((w43.setCell ⟨gb159, 0, none⟩ (.int .i64 t156)).setCell ⟨gb159, 1, none⟩ (.int .i64 t157)).heap[gb144]? = some (.cells #[.int .i64 a1_0, .int .i64 a1_1, .int .i64 a1_2, .int .i64 a1_3, .int .i64 a1_4] 28 (0, 0))) := ⟨by (with_reducible repeat (first | refine q5d ?_ _ | refine q6d ?_ | refine q7d ?_ _)); refine qed ?_ NB144_159.out _; (with_reducible repeat (first | refine q5d ?_ _ | refine q6d ?_ | refine q7d ?_ _)); refine qed ?_ NB144_159.out _; (with_reducible repeat (first | refine q5d ?_ _ | refine q6d ?_ | refine q7d ?_ _)); exact BK144.out⟩
          have n3_ : Aside0 (((w43.setCell ⟨gb159, 0, none⟩ (.int .i64 t156)).setCell ⟨gb159, 1, none⟩ (.int .i64 t157)).heap[gb155]? = some (.cells #[.int .i64 t152, .int .i64 t153] 26 (0, 0))) := ⟨by (with_reducible repeat (first | refine q5d ?_ _ | refine q6d ?_ | refine q7d ?_ _)); refine qed ?_ NB155_159.out _; (with_reducible repeat (first | refine q5d ?_ _ | refine q6d ?_ | refine q7d ?_ _)); refine qed ?_ NB155_159.out _; (with_reducible repeat (first | refine q5d ?_ _ | refine q6d ?_ | refine q7d ?_ _)); exact BK155.out⟩
          have n4_ : Aside0 (((w43.setCell ⟨gb159, 0, none⟩ (.int .i64 t156)).setCell ⟨gb159, 1, none⟩ (.int .i64 t157)).heap[gb159]? = some (.cells #[.int .i64 t156, .int .i64 t157] 26 (0, 0))) := ⟨by (with_reducible repeat (first | refine q5d ?_ _ | refine q6d ?_ | refine q7d ?_ _)); refine qfd (cs := #[.int .i64 t156, .int .i64 0]) ?_ 1 _ rfl; (with_reducible repeat (first | refine q5d ?_ _ | refine q6d ?_ | refine q7d ?_ _)); refine qfd (cs := #[.int .i64 0, .int .i64 0]) ?_ 0 _ rfl; (with_reducible repeat (first | refine q5d ?_ _ | refine q6d ?_ | refine q7d ?_ _)); exact BK159.out⟩
          have n5_ : Aside0 (Below w.heap.size w ((w43.setCell ⟨gb159, 0, none⟩ (.int .i64 t156)).setCell ⟨gb159, 1, none⟩ (.int .i64 t157))) := ⟨by repeat (first | (with_reducible first | exact HB.out | apply q1d | apply q2d | apply q3d | refine q4d ?_ GE143.out | refine q4d ?_ GE144.out | refine q4d ?_ GE155.out | refine q4d ?_ GE159.out) | exact HB.out)⟩
          (try clear HO_5)
          (try clear BK143)
          (try clear BK144)
          (try clear BK155)
          (try clear BK159)
          (try clear HB)
          generalize ((w43.setCell ⟨gb159, 0, none⟩ (.int .i64 t156)).setCell ⟨gb159, 1, none⟩ (.int .i64 t157)) = w48 at n0_ n1_ n2_ n3_ n4_ n5_ ⊢
          have HO_5 := n0_
          have BK143 := n1_
          have BK144 := n2_
          have BK155 := n3_
          have BK159 := n4_
          have HB := n5_
          clear n0_ n1_ n2_ n3_ n4_ n5_
          have n0_ := qgd (qmd HO_5.out)
          have n1_ := qgd (q6d BK143.out)
          have n2_ := qgd (q6d BK144.out)
          have n3_ := qgd (q6d BK155.out)
          have n4_ := qgd (q6d BK159.out)
          have n5_ := qgd (q3d HB.out)
          clear HO_5
          clear BK143
          clear BK144
          clear BK155
          clear BK159
          clear HB
          have HO_5 := n0_
          have BK143 := n1_
          have BK144 := n2_
          have BK155 := n3_
          have BK159 := n4_
          have HB := n5_
          clear n0_ n1_ n2_ n3_ n4_ n5_
          refine start_ (n := 12) (S := fun w' => w'.cell? ⟨gb155, 0, none⟩ = some (.int .i64 t152) ∧ w'.cell? ⟨gb155, 1, none⟩ = some (.int .i64 t153) ∧ w'.cell? ⟨gb159, 0, none⟩ = some (.int .i64 t156) ∧ w'.cell? ⟨gb159, 1, none⟩ = some (.int .i64 t157) ∧ w'.cell? ⟨gb143, 0, none⟩ = some (.int .i64 a0_0) ∧ w'.cell? ⟨gb143, 1, none⟩ = some (.int .i64 a0_1) ∧ w'.cell? ⟨gb143, 2, none⟩ = some (.int .i64 a0_2) ∧ w'.cell? ⟨gb143, 3, none⟩ = some (.int .i64 a0_3) ∧ w'.cell? ⟨gb143, 4, none⟩ = some (.int .i64 a0_4) ∧ w'.cell? ⟨gb144, 0, none⟩ = some (.int .i64 a1_0) ∧ w'.cell? ⟨gb144, 1, none⟩ = some (.int .i64 a1_1) ∧ w'.cell? ⟨gb144, 2, none⟩ = some (.int .i64 a1_2) ∧ w'.cell? ⟨gb144, 3, none⟩ = some (.int .i64 a1_3) ∧ w'.cell? ⟨gb144, 4, none⟩ = some (.int .i64 a1_4)) (ds := []) #[false, false, false, false, false, false, false, false, false, false, false, false] (by kernel_rfl) rfl rfl ⟨(qcd BK155.out 0).trans rfl, (qcd BK155.out 1).trans rfl, (qcd BK159.out 0).trans rfl, (qcd BK159.out 1).trans rfl, (qcd BK143.out 0).trans rfl, (qcd BK143.out 1).trans rfl, (qcd BK143.out 2).trans rfl, (qcd BK143.out 3).trans rfl, (qcd BK143.out 4).trans rfl, (qcd BK144.out 0).trans rfl, (qcd BK144.out 1).trans rfl, (qcd BK144.out 2).trans rfl, (qcd BK144.out 3).trans rfl, (qcd BK144.out 4).trans rfl⟩ (fun hHeld => ?_); refine with_tabW impl_MeetingsOf.tab9 impl_MeetingsOf.bits9 (fun HT_ HW_ => ?_)
          generalize w48.drew = w49 at HO_5 BK143 BK144 BK155 BK159 HB hHeld ⊢
          refine take_ (i := 0) (N := some 42) (v := ?_) (a' := ?_) #[true, false, false, false, false, false, false, false, false, false, false, false] rfl rfl (take_ofW HT_.out HW_.out (by kernel_rfl)) (fun _ _ _ h => h) (Or.inl ⟨by rfl, ?_⟩) hHeld ?_ ?_
          rotate_left
          ·rintro w' ⟨s0, s1, s2, s3, s4, s5, s6, s7, s8, s9, s10, s11, s12, s13⟩
           go_simp
           with_reducible rfl
          rotate_left
          ·simp only [Act.put, p1d, p2d, p3d, i64_w, i32_w]
           rfl
          refine take_ (i := 1) (N := some 43) (v := ?_) (a' := ?_) #[true, true, false, false, false, false, false, false, false, false, false, false] rfl rfl (take_ofW HT_.out HW_.out (by kernel_rfl)) (fun _ _ _ h => h) (Or.inl ⟨by rfl, ?_⟩) hHeld ?_ ?_
          rotate_left
          ·rintro w' ⟨s0, s1, s2, s3, s4, s5, s6, s7, s8, s9, s10, s11, s12, s13⟩
           go_simp
           with_reducible rfl
          rotate_left
          ·simp only [Act.put, p1d, p2d, p3d, i64_w, i32_w]
           rfl
          refine pure_ (i := 2) (N := some 44) (v := ?_) (a' := ?_) #[true, true, true, false, false, false, false, false, false, false, false, false] rfl rfl (any_of HT_.out (by kernel_rfl)) (fun _ _ _ h => h) (Or.inl ⟨by rfl, ?_⟩) ?_ ?_
          rotate_left
          ·intro w'
           go_simp
           with_reducible rfl
          rotate_left
          ·simp only [Act.put, p1d, p2d, p3d, i64_w, i32_w]
           rfl
          refine pure_ (i := 3) (N := some 45) (v := ?_) (a' := ?_) #[true, true, true, true, false, false, false, false, false, false, false, false] rfl rfl (any_of HT_.out (by kernel_rfl)) (fun _ _ _ h => h) (Or.inl ⟨by rfl, ?_⟩) ?_ ?_
          rotate_left
          ·intro w'
           go_simp
           with_reducible rfl
          rotate_left
          ·simp only [Act.put, p1d, p2d, p3d, i64_w, i32_w]
           rfl
          refine pure_ (i := 5) (N := some 47) (v := ?_) (a' := ?_) #[true, true, true, true, false, true, false, false, false, false, false, false] rfl rfl (any_of HT_.out (by kernel_rfl)) (fun _ _ _ h => h) (Or.inl ⟨by rfl, ?_⟩) ?_ ?_
          rotate_left
          ·intro w'
           go_simp
           with_reducible rfl
          rotate_left
          ·simp only [Act.put, p1d, p2d, p3d, i64_w, i32_w]
           rfl
          refine pure_ (i := 8) (N := some 50) (v := ?_) (a' := ?_) #[true, true, true, true, false, true, false, false, true, false, false, false] rfl rfl (any_of HT_.out (by kernel_rfl)) (fun _ _ _ h => h) (Or.inl ⟨by rfl, ?_⟩) ?_ ?_
          rotate_left
          ·intro w'
           go_simp
           with_reducible rfl
          rotate_left
          ·simp only [Act.put, p1d, p2d, p3d, i64_w, i32_w]
           rfl
          refine take_ (i := 4) (N := some 46) (v := ?_) (a' := ?_) #[true, true, true, true, true, true, false, false, true, false, false, false] rfl rfl (take_ofW HT_.out HW_.out (by kernel_rfl)) (fun _ _ _ h => h) (Or.inl ⟨by rfl, ?_⟩) hHeld ?_ ?_
          rotate_left
          ·rintro w' ⟨s0, s1, s2, s3, s4, s5, s6, s7, s8, s9, s10, s11, s12, s13⟩
           go_simp
           with_reducible rfl
          rotate_left
          ·simp only [Act.put, p1d, p2d, p3d, i64_w, i32_w]
           rfl
          refine take_ (i := 7) (N := some 49) (v := ?_) (a' := ?_) #[true, true, true, true, true, true, false, true, true, false, false, false] rfl rfl (take_ofW HT_.out HW_.out (by kernel_rfl)) (fun _ _ _ h => h) (Or.inl ⟨by rfl, ?_⟩) hHeld ?_ ?_
          rotate_left
          ·rintro w' ⟨s0, s1, s2, s3, s4, s5, s6, s7, s8, s9, s10, s11, s12, s13⟩
           go_simp
           with_reducible rfl
          rotate_left
          ·simp only [Act.put, p1d, p2d, p3d, i64_w, i32_w]
           rfl
          refine one_ (i := 6) (N := some 48) #[true, true, true, true, true, true, true, true, true, false, false, false] rfl rfl (one_of HT_.out (by kernel_rfl)) (by decide) (fun K hK => ?_)
          refine goes_ Try.func53 (by kernel_rfl) rfl #[.agg #[.int .i64 a0_0, .int .i64 a0_1, .int .i64 a0_2, .int .i64 a0_3, .int .i64 a0_4], .int .i64 x27_2] (by rfl) rfl rfl (by (try simp only [List.map_toArray, List.map_cons, List.map_nil]); first | done | rfl | (simp only [List.length_drop, List.length_take]; rfl)) ?_
          with_reducible refine (impl_HeightAt.calls a0_0 a0_1 a0_2 a0_3 a0_4 x27_2 t160 _ A30.out).mono ?_
          rintro e w50 ⟨rfl, hb⟩
          refine ⟨_, rfl, ?_⟩
          have n0_ := qgd (qjd (by (with_reducible repeat (first | apply qkd | apply qld | apply qmd)); exact HO_5.out) hb)
          have n1_ := qgd (q8d (g := gb143) (o := .cells #[.int .i64 a0_0, .int .i64 a0_1, .int .i64 a0_2, .int .i64 a0_3, .int .i64 a0_4] 28 (0, 0)) (by (with_reducible repeat (first | refine q5d ?_ _ | refine q6d ?_ | refine q7d ?_ _)); exact BK143.out) hb)
          have n2_ := qgd (q8d (g := gb144) (o := .cells #[.int .i64 a1_0, .int .i64 a1_1, .int .i64 a1_2, .int .i64 a1_3, .int .i64 a1_4] 28 (0, 0)) (by (with_reducible repeat (first | refine q5d ?_ _ | refine q6d ?_ | refine q7d ?_ _)); exact BK144.out) hb)
          have n3_ := qgd (q8d (g := gb155) (o := .cells #[.int .i64 t152, .int .i64 t153] 26 (0, 0)) (by (with_reducible repeat (first | refine q5d ?_ _ | refine q6d ?_ | refine q7d ?_ _)); exact BK155.out) hb)
          have n4_ := qgd (q8d (g := gb159) (o := .cells #[.int .i64 t156, .int .i64 t157] 26 (0, 0)) (by (with_reducible repeat (first | refine q5d ?_ _ | refine q6d ?_ | refine q7d ?_ _)); exact BK159.out) hb)
          have n5_ := qgd (q9d (by repeat (first | (with_reducible first | exact HB.out | apply q1d | apply q2d | apply q3d | refine q4d ?_ GE143.out | refine q4d ?_ GE144.out | refine q4d ?_ GE155.out | refine q4d ?_ GE159.out) | exact HB.out)) hb)
          clear HO_5
          clear BK143
          clear BK144
          clear BK155
          clear BK159
          clear HB
          have HO_5 := n0_
          have BK143 := n1_
          have BK144 := n2_
          have BK155 := n3_
          have BK159 := n4_
          have HB := n5_
          clear n0_ n1_ n2_ n3_ n4_ n5_
          (try clear hb)
          (try clear hb2)
          (try clear hk)
          (try clear hi)
          refine hK.out _ _ ⟨(qcd BK155.out 0).trans rfl, (qcd BK155.out 1).trans rfl, (qcd BK159.out 0).trans rfl, (qcd BK159.out 1).trans rfl, (qcd BK143.out 0).trans rfl, (qcd BK143.out 1).trans rfl, (qcd BK143.out 2).trans rfl, (qcd BK143.out 3).trans rfl, (qcd BK143.out 4).trans rfl, (qcd BK144.out 0).trans rfl, (qcd BK144.out 1).trans rfl, (qcd BK144.out 2).trans rfl, (qcd BK144.out 3).trans rfl, (qcd BK144.out 4).trans rfl⟩ (fun hHeld => ?_)
          clear hK K
          refine norm_ (a' := ?_) ?_ ?_
          rotate_left
          ·show Act.put _ (some 48) _ = _
           simp only [Act.put, p1d, p2d, p3d, i64_w, i32_w]
           rfl
          refine one_ (i := 9) (N := some 51) #[true, true, true, true, true, true, true, true, true, true, false, false] rfl rfl (one_of HT_.out (by kernel_rfl)) (by decide) (fun K hK => ?_)
          refine goes_ Try.func53 (by kernel_rfl) rfl #[.agg #[.int .i64 a1_0, .int .i64 a1_1, .int .i64 a1_2, .int .i64 a1_3, .int .i64 a1_4], .int .i64 x27_2] (by rfl) rfl rfl (by (try simp only [List.map_toArray, List.map_cons, List.map_nil]); first | done | rfl | (simp only [List.length_drop, List.length_take]; rfl)) ?_
          with_reducible refine (impl_HeightAt.calls a1_0 a1_1 a1_2 a1_3 a1_4 x27_2 t161 _ A31.out).mono ?_
          rintro e w51 ⟨rfl, hb⟩
          refine ⟨_, rfl, ?_⟩
          have n0_ := qgd (qjd (by (with_reducible repeat (first | apply qkd | apply qld | apply qmd)); exact HO_5.out) hb)
          have n1_ := qgd (q8d (g := gb143) (o := .cells #[.int .i64 a0_0, .int .i64 a0_1, .int .i64 a0_2, .int .i64 a0_3, .int .i64 a0_4] 28 (0, 0)) (by (with_reducible repeat (first | refine q5d ?_ _ | refine q6d ?_ | refine q7d ?_ _)); exact BK143.out) hb)
          have n2_ := qgd (q8d (g := gb144) (o := .cells #[.int .i64 a1_0, .int .i64 a1_1, .int .i64 a1_2, .int .i64 a1_3, .int .i64 a1_4] 28 (0, 0)) (by (with_reducible repeat (first | refine q5d ?_ _ | refine q6d ?_ | refine q7d ?_ _)); exact BK144.out) hb)
          have n3_ := qgd (q8d (g := gb155) (o := .cells #[.int .i64 t152, .int .i64 t153] 26 (0, 0)) (by (with_reducible repeat (first | refine q5d ?_ _ | refine q6d ?_ | refine q7d ?_ _)); exact BK155.out) hb)
          have n4_ := qgd (q8d (g := gb159) (o := .cells #[.int .i64 t156, .int .i64 t157] 26 (0, 0)) (by (with_reducible repeat (first | refine q5d ?_ _ | refine q6d ?_ | refine q7d ?_ _)); exact BK159.out) hb)
          have n5_ := qgd (q9d (by repeat (first | (with_reducible first | exact HB.out | apply q1d | apply q2d | apply q3d | refine q4d ?_ GE143.out | refine q4d ?_ GE144.out | refine q4d ?_ GE155.out | refine q4d ?_ GE159.out) | exact HB.out)) hb)
          clear HO_5
          clear BK143
          clear BK144
          clear BK155
          clear BK159
          clear HB
          have HO_5 := n0_
          have BK143 := n1_
          have BK144 := n2_
          have BK155 := n3_
          have BK159 := n4_
          have HB := n5_
          clear n0_ n1_ n2_ n3_ n4_ n5_
          (try clear hb)
          (try clear hb2)
          (try clear hk)
          (try clear hi)
          refine hK.out _ _ ⟨(qcd BK155.out 0).trans rfl, (qcd BK155.out 1).trans rfl, (qcd BK159.out 0).trans rfl, (qcd BK159.out 1).trans rfl, (qcd BK143.out 0).trans rfl, (qcd BK143.out 1).trans rfl, (qcd BK143.out 2).trans rfl, (qcd BK143.out 3).trans rfl, (qcd BK143.out 4).trans rfl, (qcd BK144.out 0).trans rfl, (qcd BK144.out 1).trans rfl, (qcd BK144.out 2).trans rfl, (qcd BK144.out 3).trans rfl, (qcd BK144.out 4).trans rfl⟩ (fun hHeld => ?_)
          clear hK K
          refine norm_ (a' := ?_) ?_ ?_
          rotate_left
          ·show Act.put _ (some 51) _ = _
           simp only [Act.put, p1d, p2d, p3d, i64_w, i32_w]
           rfl
          refine pure_ (i := 10) (N := some 52) (v := ?_) (a' := ?_) #[true, true, true, true, true, true, true, true, true, true, true, false] rfl rfl (any_of HT_.out (by kernel_rfl)) (fun _ _ _ h => h) (Or.inl ⟨by rfl, ?_⟩) ?_ ?_
          rotate_left
          ·intro w'
           go_simp
           with_reducible rfl
          rotate_left
          ·simp only [Act.put, p1d, p2d, p3d, i64_w, i32_w]
           rfl
          refine pure_ (i := 11) (N := some 53) (v := ?_) (a' := ?_) #[true, true, true, true, true, true, true, true, true, true, true, true] rfl rfl (any_of HT_.out (by kernel_rfl)) (fun _ _ _ h => h) (Or.inl ⟨by rfl, ?_⟩) ?_ ?_
          rotate_left
          ·intro w'
           go_simp
           with_reducible rfl
          rotate_left
          ·simp only [Act.put, p1d, p2d, p3d, i64_w, i32_w]
           rfl
          refine done_ (done_of HT_.out (by kernel_rfl)) ?_
          try go_wp2_with (first | ((with_reducible refine gate_builtin (b := .append) (xs := #[.tmp 54, .tmp 56]) rfl ?_); at_builtin; refine Kd.R_append (Kd.int .i64) (w0 := w) w.heap.size rfl (.tmp 54) (.tmp 56) 67 3 (.int .i64 0) 8 rfl Try.underlying67 info3 rfl (by decide) (by omega) u5 x5_2 x27_2 [.int .i64 x27_2] (fun _ => True) (fun _ => False) rfl rfl ?aP (fun _ hk => hk.elim) ?aF ?aO ?aB ?aS ?aL ?_; (case aP => exact rfl); (case aB => exact (by repeat (first | (with_reducible first | exact HB.out | apply q1d | apply q2d | apply q3d | refine q4d ?_ GE143.out | refine q4d ?_ GE144.out | refine q4d ?_ GE155.out | refine q4d ?_ GE159.out) | exact HB.out))); (case aF => exact (fun _ _ => trivial)); (case aO => exact (by (with_reducible repeat (first | apply qkd | apply qld | apply qmd)); exact HO_5.out)); (case aS => exact (qad (by repeat (first | (with_reducible first | exact HB.out | apply q1d | apply q2d | apply q3d | refine q4d ?_ GE143.out | refine q4d ?_ GE144.out | refine q4d ?_ GE155.out | refine q4d ?_ GE159.out) | exact HB.out)))); (case aL => have := LMc33.out; omega); intro v163 w52 ho hb hg hat; rw [← Ny162.out] at ho; have n0_ := qgd (blk_grown (g := gb143) (o := .cells #[.int .i64 a0_0, .int .i64 a0_1, .int .i64 a0_2, .int .i64 a0_3, .int .i64 a0_4] 28 (0, 0)) (by (with_reducible repeat (first | refine q5d ?_ _ | refine q6d ?_ | refine q7d ?_ _)); exact BK143.out) hg (Kd.R_ne HO_5.out BK143.out (by decide))); have n1_ := qgd (blk_grown (g := gb144) (o := .cells #[.int .i64 a1_0, .int .i64 a1_1, .int .i64 a1_2, .int .i64 a1_3, .int .i64 a1_4] 28 (0, 0)) (by (with_reducible repeat (first | refine q5d ?_ _ | refine q6d ?_ | refine q7d ?_ _)); exact BK144.out) hg (Kd.R_ne HO_5.out BK144.out (by decide))); have n2_ := qgd (blk_grown (g := gb155) (o := .cells #[.int .i64 t152, .int .i64 t153] 26 (0, 0)) (by (with_reducible repeat (first | refine q5d ?_ _ | refine q6d ?_ | refine q7d ?_ _)); exact BK155.out) hg (Kd.R_ne HO_5.out BK155.out (by decide))); have n3_ := qgd (blk_grown (g := gb159) (o := .cells #[.int .i64 t156, .int .i64 t157] 26 (0, 0)) (by (with_reducible repeat (first | refine q5d ?_ _ | refine q6d ?_ | refine q7d ?_ _)); exact BK159.out) hg (Kd.R_ne HO_5.out BK159.out (by decide))); have n4_ := qgd (hb); have n5_ := qgd (ho); clear BK143; clear BK144; clear BK155; clear BK159; clear HB; clear HO_5; have BK143 := n0_; have BK144 := n1_; have BK155 := n2_; have BK159 := n3_; have HB := n4_; have HO164 := n5_; clear n0_ n1_ n2_ n3_ n4_ n5_; clear ho hb hg hat))
          go_roundg k2
          case measure => have := HJ2.out; have := HK2.out; omega
          case rel => exact ⟨(y162), (wrap64 (x27_2 + 1)), (by first | rfl | (simp; done) | (simp [*]; done)), H', ⟨by have := HJ2.out; have := HK2.out; omega⟩, ⟨by (with_reducible repeat (first | apply qkd | apply qld | apply qmd)); exact HO164.out⟩, ⟨by (with_reducible repeat (first | refine q5d ?_ _ | refine q6d ?_ | refine q7d ?_ _)); exact BK143.out⟩, ⟨by (with_reducible repeat (first | refine q5d ?_ _ | refine q6d ?_ | refine q7d ?_ _)); exact BK144.out⟩, ⟨by repeat (first | (with_reducible first | exact HB.out | apply q1d | apply q2d | apply q3d | refine q4d ?_ GE143.out | refine q4d ?_ GE144.out | refine q4d ?_ GE155.out | refine q4d ?_ GE159.out) | exact HB.out)⟩⟩
         ·rw [if_neg c33] at H
          exact absurd H (by simp)
        ·rw [if_neg c32] at H
         have c32b0 : (t160 == t161) = false := beq_eq_false_iff_ne.mpr c32
         have c32b1 : (t160 != t161) = true := bne_iff_ne.mpr c32
         have H' := qgd H
         clear H
         have hnb53 := NB143_144.out
         have hnc53 := NB144_143.out
         have hcz54_0 : wr.cell? ⟨gb143, 0, none⟩ = some (.int .i64 a0_0) := (qcd BK143.out 0).trans rfl
         have hcz54_1 : wr.cell? ⟨gb143, 1, none⟩ = some (.int .i64 a0_1) := (qcd BK143.out 1).trans rfl
         have hcz54_2 : wr.cell? ⟨gb143, 2, none⟩ = some (.int .i64 a0_2) := (qcd BK143.out 2).trans rfl
         have hcz54_3 : wr.cell? ⟨gb143, 3, none⟩ = some (.int .i64 a0_3) := (qcd BK143.out 3).trans rfl
         have hcz54_4 : wr.cell? ⟨gb143, 4, none⟩ = some (.int .i64 a0_4) := (qcd BK143.out 4).trans rfl
         have hfz54_0 := qbd BK143.out 0
         have hfz54_1 := qbd BK143.out 1
         have hfz54_2 := qbd BK143.out 2
         have hfz54_3 := qbd BK143.out 3
         have hfz54_4 := qbd BK143.out 4
         try go_wp2_with (first | ((with_reducible refine qtd (f := 26) rfl ?_); refine goesL_ (some 33) rfl rfl Try.func26 (by kernel_rfl) rfl #[.agg #[.int .i64 a0_0, .int .i64 a0_1, .int .i64 a0_2, .int .i64 a0_3, .int .i64 a0_4], .int .i64 x27_2] rfl (by (try simp only [List.map_toArray, List.map_cons, List.map_nil]); first | done | rfl | (simp only [List.length_drop, List.length_take]; rfl)) ?_; (with_reducible refine (impl_PlaceAt.calls k2 a0_0 a0_1 a0_2 a0_3 a0_4 x27_2 t152 t153 t154 _ A27.out).mono ?_); rintro e w55 ⟨rfl, hb⟩; refine ⟨_, rfl, ?_⟩; have n0_ := qgd (qjd (by (with_reducible repeat (first | apply qkd | apply qld | apply qmd)); exact HO_5.out) hb); have n1_ := qgd (q8d (g := gb143) (o := .cells #[.int .i64 a0_0, .int .i64 a0_1, .int .i64 a0_2, .int .i64 a0_3, .int .i64 a0_4] 28 (0, 0)) (by (with_reducible repeat (first | refine q5d ?_ _ | refine q6d ?_ | refine q7d ?_ _)); exact BK143.out) hb); have n2_ := qgd (q8d (g := gb144) (o := .cells #[.int .i64 a1_0, .int .i64 a1_1, .int .i64 a1_2, .int .i64 a1_3, .int .i64 a1_4] 28 (0, 0)) (by (with_reducible repeat (first | refine q5d ?_ _ | refine q6d ?_ | refine q7d ?_ _)); exact BK144.out) hb); have n3_ := qgd (q9d (by repeat (first | (with_reducible first | exact HB.out | apply q1d | apply q2d | apply q3d | refine q4d ?_ GE143.out | refine q4d ?_ GE144.out) | exact HB.out)) hb); clear HO_5; clear BK143; clear BK144; clear HB; have HO_5 := n0_; have BK143 := n1_; have BK144 := n2_; have HB := n3_; clear n0_ n1_ n2_ n3_; (try clear hb); (try clear hb2); (try clear hk); (try clear hi)) | ((with_reducible refine qud (N := 7) rfl ?_); refine qhd ?hg (N := 7) ?hd (cs := #[.int .i64 0, .int .i64 0]) (t := 26) ?hr ?_; (case hd => rfl); (case hg => rfl); (case hr => first | (go_simp; done) | (go_simp; rfl)); intro gb155 hg w56 hbox hb; have n0_ := qgd (qjd (by (with_reducible repeat (first | apply qkd | apply qld | apply qmd)); exact HO_5.out) hb); have n1_ := qgd (q8d (g := gb143) (o := .cells #[.int .i64 a0_0, .int .i64 a0_1, .int .i64 a0_2, .int .i64 a0_3, .int .i64 a0_4] 28 (0, 0)) (by (with_reducible repeat (first | refine q5d ?_ _ | refine q6d ?_ | refine q7d ?_ _)); exact BK143.out) hb); have n2_ := qgd (q8d (g := gb144) (o := .cells #[.int .i64 a1_0, .int .i64 a1_1, .int .i64 a1_2, .int .i64 a1_3, .int .i64 a1_4] 28 (0, 0)) (by (with_reducible repeat (first | refine q5d ?_ _ | refine q6d ?_ | refine q7d ?_ _)); exact BK144.out) hb); have n3_ := qgd (q9d (by repeat (first | (with_reducible first | exact HB.out | apply q1d | apply q2d | apply q3d | refine q4d ?_ GE143.out | refine q4d ?_ GE144.out) | exact HB.out)) hb); have n4_ := qgd (hbox); have n5_ := qgd ((by rw [hg]; exact (qad (by repeat (first | (with_reducible first | exact HB.out | apply q1d | apply q2d | apply q3d | refine q4d ?_ GE143.out | refine q4d ?_ GE144.out) | exact HB.out))) : w.heap.size ≤ gb155)); have n6_ := qgd ((by rw [hg]; exact (qad (by repeat (first | (with_reducible first | exact HB.out | apply q1d | apply q2d | apply q3d | refine q4d ?_ GE143.out | refine q4d ?_ GE144.out) | exact HB.out))) : w.heap.size ≤ gb155)); have n7_ := qgd ((by rw [hg]; exact qvd (qdd (g := gb143) (o := .cells #[.int .i64 a0_0, .int .i64 a0_1, .int .i64 a0_2, .int .i64 a0_3, .int .i64 a0_4] 28 (0, 0)) (by (with_reducible repeat (first | refine q5d ?_ _ | refine q6d ?_ | refine q7d ?_ _)); exact BK143.out)) : gb143 ≠ gb155)); have n8_ := qgd ((by rw [hg]; exact qwd (qdd (g := gb143) (o := .cells #[.int .i64 a0_0, .int .i64 a0_1, .int .i64 a0_2, .int .i64 a0_3, .int .i64 a0_4] 28 (0, 0)) (by (with_reducible repeat (first | refine q5d ?_ _ | refine q6d ?_ | refine q7d ?_ _)); exact BK143.out)) : gb155 ≠ gb143)); have n9_ := qgd ((by rw [hg]; exact qvd (qdd (g := gb144) (o := .cells #[.int .i64 a1_0, .int .i64 a1_1, .int .i64 a1_2, .int .i64 a1_3, .int .i64 a1_4] 28 (0, 0)) (by (with_reducible repeat (first | refine q5d ?_ _ | refine q6d ?_ | refine q7d ?_ _)); exact BK144.out)) : gb144 ≠ gb155)); have n10_ := qgd ((by rw [hg]; exact qwd (qdd (g := gb144) (o := .cells #[.int .i64 a1_0, .int .i64 a1_1, .int .i64 a1_2, .int .i64 a1_3, .int .i64 a1_4] 28 (0, 0)) (by (with_reducible repeat (first | refine q5d ?_ _ | refine q6d ?_ | refine q7d ?_ _)); exact BK144.out)) : gb155 ≠ gb144)); clear HO_5; clear BK143; clear BK144; clear HB; have HO_5 := n0_; have BK143 := n1_; have BK144 := n2_; have HB := n3_; have BK155 := n4_; have GW155 := n5_; have GE155 := n6_; have NB143_155 := n7_; have NB155_143 := n8_; have NB144_155 := n9_; have NB155_144 := n10_; clear n0_ n1_ n2_ n3_ n4_ n5_ n6_ n7_ n8_ n9_ n10_; clear hb hbox hg; have hnb57 := NB155_143.out; have hnc57 := NB143_155.out; have hnb58 := NB155_144.out; have hnc58 := NB144_155.out; have hcz59_0 : w56.cell? ⟨gb155, 0, none⟩ = some (.int .i64 0) := (qcd BK155.out 0).trans rfl; have hcz59_1 : w56.cell? ⟨gb155, 1, none⟩ = some (.int .i64 0) := (qcd BK155.out 1).trans rfl; have hfz59_0 := qbd BK155.out 0; have hfz59_1 := qbd BK155.out 1; have hcz60_0 : w56.cell? ⟨gb144, 0, none⟩ = some (.int .i64 a1_0) := (qcd BK144.out 0).trans rfl; have hcz60_1 : w56.cell? ⟨gb144, 1, none⟩ = some (.int .i64 a1_1) := (qcd BK144.out 1).trans rfl; have hcz60_2 : w56.cell? ⟨gb144, 2, none⟩ = some (.int .i64 a1_2) := (qcd BK144.out 2).trans rfl; have hcz60_3 : w56.cell? ⟨gb144, 3, none⟩ = some (.int .i64 a1_3) := (qcd BK144.out 3).trans rfl; have hcz60_4 : w56.cell? ⟨gb144, 4, none⟩ = some (.int .i64 a1_4) := (qcd BK144.out 4).trans rfl; have hfz60_0 := qbd BK144.out 0; have hfz60_1 := qbd BK144.out 1; have hfz60_2 := qbd BK144.out 2; have hfz60_3 := qbd BK144.out 3; have hfz60_4 := qbd BK144.out 4) | ((with_reducible refine qtd (f := 26) rfl ?_); refine goesL_ (some 39) rfl rfl Try.func26 (by kernel_rfl) rfl #[.agg #[.int .i64 a1_0, .int .i64 a1_1, .int .i64 a1_2, .int .i64 a1_3, .int .i64 a1_4], .int .i64 x27_2] rfl (by (try simp only [List.map_toArray, List.map_cons, List.map_nil]); first | done | rfl | (simp only [List.length_drop, List.length_take]; rfl)) ?_; (with_reducible refine (impl_PlaceAt.calls k2 a1_0 a1_1 a1_2 a1_3 a1_4 x27_2 t156 t157 t158 _ A28.out).mono ?_); rintro e w61 ⟨rfl, hb⟩; refine ⟨_, rfl, ?_⟩; have n0_ := qgd (qjd (by (with_reducible repeat (first | apply qkd | apply qld | apply qmd)); exact (Kd.R_mono (Kd.R_far (p := ⟨gb155, 1, none⟩) (Kd.R_far (p := ⟨gb155, 0, none⟩) (Kd.R_types HO_5.out BK155.out (by decide)) (fun _ hk => hk.2) (.int .i64 t152)) (fun _ hk => hk.2) (.int .i64 t153)) (fun _ h_ => h_.1))) hb); have n1_ := qgd (q8d (g := gb143) (o := .cells #[.int .i64 a0_0, .int .i64 a0_1, .int .i64 a0_2, .int .i64 a0_3, .int .i64 a0_4] 28 (0, 0)) (by (with_reducible repeat (first | refine q5d ?_ _ | refine q6d ?_ | refine q7d ?_ _)); refine qed ?_ NB143_155.out _; (with_reducible repeat (first | refine q5d ?_ _ | refine q6d ?_ | refine q7d ?_ _)); refine qed ?_ NB143_155.out _; (with_reducible repeat (first | refine q5d ?_ _ | refine q6d ?_ | refine q7d ?_ _)); exact BK143.out) hb); have n2_ := qgd (q8d (g := gb144) (o := .cells #[.int .i64 a1_0, .int .i64 a1_1, .int .i64 a1_2, .int .i64 a1_3, .int .i64 a1_4] 28 (0, 0)) (by (with_reducible repeat (first | refine q5d ?_ _ | refine q6d ?_ | refine q7d ?_ _)); refine qed ?_ NB144_155.out _; (with_reducible repeat (first | refine q5d ?_ _ | refine q6d ?_ | refine q7d ?_ _)); refine qed ?_ NB144_155.out _; (with_reducible repeat (first | refine q5d ?_ _ | refine q6d ?_ | refine q7d ?_ _)); exact BK144.out) hb); have n3_ := qgd (q8d (g := gb155) (o := .cells #[.int .i64 t152, .int .i64 t153] 26 (0, 0)) (by (with_reducible repeat (first | refine q5d ?_ _ | refine q6d ?_ | refine q7d ?_ _)); refine qfd (cs := #[.int .i64 t152, .int .i64 0]) ?_ 1 _ rfl; (with_reducible repeat (first | refine q5d ?_ _ | refine q6d ?_ | refine q7d ?_ _)); refine qfd (cs := #[.int .i64 0, .int .i64 0]) ?_ 0 _ rfl; (with_reducible repeat (first | refine q5d ?_ _ | refine q6d ?_ | refine q7d ?_ _)); exact BK155.out) hb); have n4_ := qgd (q9d (by repeat (first | (with_reducible first | exact HB.out | apply q1d | apply q2d | apply q3d | refine q4d ?_ GE143.out | refine q4d ?_ GE144.out | refine q4d ?_ GE155.out) | exact HB.out)) hb); clear HO_5; clear BK143; clear BK144; clear BK155; clear HB; have HO_5 := n0_; have BK143 := n1_; have BK144 := n2_; have BK155 := n3_; have HB := n4_; clear n0_ n1_ n2_ n3_ n4_; (try clear hb); (try clear hb2); (try clear hk); (try clear hi)) | ((with_reducible refine qud (N := 9) rfl ?_); refine qhd ?hg (N := 9) ?hd (cs := #[.int .i64 0, .int .i64 0]) (t := 26) ?hr ?_; (case hd => rfl); (case hg => rfl); (case hr => first | (go_simp; done) | (go_simp; rfl)); intro gb159 hg w62 hbox hb; have n0_ := qgd (qjd (by (with_reducible repeat (first | apply qkd | apply qld | apply qmd)); exact HO_5.out) hb); have n1_ := qgd (q8d (g := gb143) (o := .cells #[.int .i64 a0_0, .int .i64 a0_1, .int .i64 a0_2, .int .i64 a0_3, .int .i64 a0_4] 28 (0, 0)) (by (with_reducible repeat (first | refine q5d ?_ _ | refine q6d ?_ | refine q7d ?_ _)); exact BK143.out) hb); have n2_ := qgd (q8d (g := gb144) (o := .cells #[.int .i64 a1_0, .int .i64 a1_1, .int .i64 a1_2, .int .i64 a1_3, .int .i64 a1_4] 28 (0, 0)) (by (with_reducible repeat (first | refine q5d ?_ _ | refine q6d ?_ | refine q7d ?_ _)); exact BK144.out) hb); have n3_ := qgd (q8d (g := gb155) (o := .cells #[.int .i64 t152, .int .i64 t153] 26 (0, 0)) (by (with_reducible repeat (first | refine q5d ?_ _ | refine q6d ?_ | refine q7d ?_ _)); exact BK155.out) hb); have n4_ := qgd (q9d (by repeat (first | (with_reducible first | exact HB.out | apply q1d | apply q2d | apply q3d | refine q4d ?_ GE143.out | refine q4d ?_ GE144.out | refine q4d ?_ GE155.out) | exact HB.out)) hb); have n5_ := qgd (hbox); have n6_ := qgd ((by rw [hg]; exact (qad (by repeat (first | (with_reducible first | exact HB.out | apply q1d | apply q2d | apply q3d | refine q4d ?_ GE143.out | refine q4d ?_ GE144.out | refine q4d ?_ GE155.out) | exact HB.out))) : w.heap.size ≤ gb159)); have n7_ := qgd ((by rw [hg]; exact (qad (by repeat (first | (with_reducible first | exact HB.out | apply q1d | apply q2d | apply q3d | refine q4d ?_ GE143.out | refine q4d ?_ GE144.out | refine q4d ?_ GE155.out) | exact HB.out))) : w.heap.size ≤ gb159)); have n8_ := qgd ((by rw [hg]; exact qvd (qdd (g := gb143) (o := .cells #[.int .i64 a0_0, .int .i64 a0_1, .int .i64 a0_2, .int .i64 a0_3, .int .i64 a0_4] 28 (0, 0)) (by (with_reducible repeat (first | refine q5d ?_ _ | refine q6d ?_ | refine q7d ?_ _)); exact BK143.out)) : gb143 ≠ gb159)); have n9_ := qgd ((by rw [hg]; exact qwd (qdd (g := gb143) (o := .cells #[.int .i64 a0_0, .int .i64 a0_1, .int .i64 a0_2, .int .i64 a0_3, .int .i64 a0_4] 28 (0, 0)) (by (with_reducible repeat (first | refine q5d ?_ _ | refine q6d ?_ | refine q7d ?_ _)); exact BK143.out)) : gb159 ≠ gb143)); have n10_ := qgd ((by rw [hg]; exact qvd (qdd (g := gb144) (o := .cells #[.int .i64 a1_0, .int .i64 a1_1, .int .i64 a1_2, .int .i64 a1_3, .int .i64 a1_4] 28 (0, 0)) (by (with_reducible repeat (first | refine q5d ?_ _ | refine q6d ?_ | refine q7d ?_ _)); exact BK144.out)) : gb144 ≠ gb159)); have n11_ := qgd ((by rw [hg]; exact qwd (qdd (g := gb144) (o := .cells #[.int .i64 a1_0, .int .i64 a1_1, .int .i64 a1_2, .int .i64 a1_3, .int .i64 a1_4] 28 (0, 0)) (by (with_reducible repeat (first | refine q5d ?_ _ | refine q6d ?_ | refine q7d ?_ _)); exact BK144.out)) : gb159 ≠ gb144)); have n12_ := qgd ((by rw [hg]; exact qvd (qdd (g := gb155) (o := .cells #[.int .i64 t152, .int .i64 t153] 26 (0, 0)) (by (with_reducible repeat (first | refine q5d ?_ _ | refine q6d ?_ | refine q7d ?_ _)); exact BK155.out)) : gb155 ≠ gb159)); have n13_ := qgd ((by rw [hg]; exact qwd (qdd (g := gb155) (o := .cells #[.int .i64 t152, .int .i64 t153] 26 (0, 0)) (by (with_reducible repeat (first | refine q5d ?_ _ | refine q6d ?_ | refine q7d ?_ _)); exact BK155.out)) : gb159 ≠ gb155)); clear HO_5; clear BK143; clear BK144; clear BK155; clear HB; have HO_5 := n0_; have BK143 := n1_; have BK144 := n2_; have BK155 := n3_; have HB := n4_; have BK159 := n5_; have GW159 := n6_; have GE159 := n7_; have NB143_159 := n8_; have NB159_143 := n9_; have NB144_159 := n10_; have NB159_144 := n11_; have NB155_159 := n12_; have NB159_155 := n13_; clear n0_ n1_ n2_ n3_ n4_ n5_ n6_ n7_ n8_ n9_ n10_ n11_ n12_ n13_; clear hb hbox hg; have hnb63 := NB159_143.out; have hnc63 := NB143_159.out; have hnb64 := NB159_144.out; have hnc64 := NB144_159.out; have hnb65 := NB159_155.out; have hnc65 := NB155_159.out; have hcz66_0 : w62.cell? ⟨gb159, 0, none⟩ = some (.int .i64 0) := (qcd BK159.out 0).trans rfl; have hcz66_1 : w62.cell? ⟨gb159, 1, none⟩ = some (.int .i64 0) := (qcd BK159.out 1).trans rfl; have hfz66_0 := qbd BK159.out 0; have hfz66_1 := qbd BK159.out 1))
         have n0_ : Aside0 (Kd.R (Kd.int .i64) 3 ((w62.setCell ⟨gb159, 0, none⟩ (.int .i64 t156)).setCell ⟨gb159, 1, none⟩ (.int .i64 t157)) w.heap.size (fun _ => True) u5 x5_2) := ⟨by (with_reducible repeat (first | apply qkd | apply qld | apply qmd)); exact Kd.R_mono (Kd.R_far (p := ⟨gb159, 1, none⟩) (Kd.R_far (p := ⟨gb159, 0, none⟩) (Kd.R_types HO_5.out BK159.out (by decide)) (fun _ hk => hk.2) (.int .i64 t156)) (fun _ hk => hk.2) (.int .i64 t157)) (fun _ hk => trivial)⟩
         have n1_ : Aside0 (((w62.setCell ⟨gb159, 0, none⟩ (.int .i64 t156)).setCell ⟨gb159, 1, none⟩ (.int .i64 t157)).heap[gb143]? = some (.cells #[.int .i64 a0_0, .int .i64 a0_1, .int .i64 a0_2, .int .i64 a0_3, .int .i64 a0_4] 28 (0, 0))) := ⟨by (with_reducible repeat (first | refine q5d ?_ _ | refine q6d ?_ | refine q7d ?_ _)); refine qed ?_ NB143_159.out _; (with_reducible repeat (first | refine q5d ?_ _ | refine q6d ?_ | refine q7d ?_ _)); refine qed ?_ NB143_159.out _; (with_reducible repeat (first | refine q5d ?_ _ | refine q6d ?_ | refine q7d ?_ _)); exact BK143.out⟩
         have n2_ : Aside0 (((w62.setCell ⟨gb159, 0, none⟩ (.int .i64 t156)).setCell ⟨gb159, 1, none⟩ (.int .i64 t157)).heap[gb144]? = some (.cells #[.int .i64 a1_0, .int .i64 a1_1, .int .i64 a1_2, .int .i64 a1_3, .int .i64 a1_4] 28 (0, 0))) := ⟨by (with_reducible repeat (first | refine q5d ?_ _ | refine q6d ?_ | refine q7d ?_ _)); refine qed ?_ NB144_159.out _; (with_reducible repeat (first | refine q5d ?_ _ | refine q6d ?_ | refine q7d ?_ _)); refine qed ?_ NB144_159.out _; (with_reducible repeat (first | refine q5d ?_ _ | refine q6d ?_ | refine q7d ?_ _)); exact BK144.out⟩
         have n3_ : Aside0 (((w62.setCell ⟨gb159, 0, none⟩ (.int .i64 t156)).setCell ⟨gb159, 1, none⟩ (.int .i64 t157)).heap[gb155]? = some (.cells #[.int .i64 t152, .int .i64 t153] 26 (0, 0))) := ⟨by (with_reducible repeat (first | refine q5d ?_ _ | refine q6d ?_ | refine q7d ?_ _)); refine qed ?_ NB155_159.out _; (with_reducible repeat (first | refine q5d ?_ _ | refine q6d ?_ | refine q7d ?_ _)); refine qed ?_ NB155_159.out _; (with_reducible repeat (first | refine q5d ?_ _ | refine q6d ?_ | refine q7d ?_ _)); exact BK155.out⟩
         have n4_ : Aside0 (((w62.setCell ⟨gb159, 0, none⟩ (.int .i64 t156)).setCell ⟨gb159, 1, none⟩ (.int .i64 t157)).heap[gb159]? = some (.cells #[.int .i64 t156, .int .i64 t157] 26 (0, 0))) := ⟨by (with_reducible repeat (first | refine q5d ?_ _ | refine q6d ?_ | refine q7d ?_ _)); refine qfd (cs := #[.int .i64 t156, .int .i64 0]) ?_ 1 _ rfl; (with_reducible repeat (first | refine q5d ?_ _ | refine q6d ?_ | refine q7d ?_ _)); refine qfd (cs := #[.int .i64 0, .int .i64 0]) ?_ 0 _ rfl; (with_reducible repeat (first | refine q5d ?_ _ | refine q6d ?_ | refine q7d ?_ _)); exact BK159.out⟩
         have n5_ : Aside0 (Below w.heap.size w ((w62.setCell ⟨gb159, 0, none⟩ (.int .i64 t156)).setCell ⟨gb159, 1, none⟩ (.int .i64 t157))) := ⟨by repeat (first | (with_reducible first | exact HB.out | apply q1d | apply q2d | apply q3d | refine q4d ?_ GE143.out | refine q4d ?_ GE144.out | refine q4d ?_ GE155.out | refine q4d ?_ GE159.out) | exact HB.out)⟩
         (try clear HO_5)
         (try clear BK143)
         (try clear BK144)
         (try clear BK155)
         (try clear BK159)
         (try clear HB)
         generalize ((w62.setCell ⟨gb159, 0, none⟩ (.int .i64 t156)).setCell ⟨gb159, 1, none⟩ (.int .i64 t157)) = w67 at n0_ n1_ n2_ n3_ n4_ n5_ ⊢
         have HO_5 := n0_
         have BK143 := n1_
         have BK144 := n2_
         have BK155 := n3_
         have BK159 := n4_
         have HB := n5_
         clear n0_ n1_ n2_ n3_ n4_ n5_
         have n0_ := qgd (qmd HO_5.out)
         have n1_ := qgd (q6d BK143.out)
         have n2_ := qgd (q6d BK144.out)
         have n3_ := qgd (q6d BK155.out)
         have n4_ := qgd (q6d BK159.out)
         have n5_ := qgd (q3d HB.out)
         clear HO_5
         clear BK143
         clear BK144
         clear BK155
         clear BK159
         clear HB
         have HO_5 := n0_
         have BK143 := n1_
         have BK144 := n2_
         have BK155 := n3_
         have BK159 := n4_
         have HB := n5_
         clear n0_ n1_ n2_ n3_ n4_ n5_
         refine start_ (n := 12) (S := fun w' => w'.cell? ⟨gb155, 0, none⟩ = some (.int .i64 t152) ∧ w'.cell? ⟨gb155, 1, none⟩ = some (.int .i64 t153) ∧ w'.cell? ⟨gb159, 0, none⟩ = some (.int .i64 t156) ∧ w'.cell? ⟨gb159, 1, none⟩ = some (.int .i64 t157) ∧ w'.cell? ⟨gb143, 0, none⟩ = some (.int .i64 a0_0) ∧ w'.cell? ⟨gb143, 1, none⟩ = some (.int .i64 a0_1) ∧ w'.cell? ⟨gb143, 2, none⟩ = some (.int .i64 a0_2) ∧ w'.cell? ⟨gb143, 3, none⟩ = some (.int .i64 a0_3) ∧ w'.cell? ⟨gb143, 4, none⟩ = some (.int .i64 a0_4) ∧ w'.cell? ⟨gb144, 0, none⟩ = some (.int .i64 a1_0) ∧ w'.cell? ⟨gb144, 1, none⟩ = some (.int .i64 a1_1) ∧ w'.cell? ⟨gb144, 2, none⟩ = some (.int .i64 a1_2) ∧ w'.cell? ⟨gb144, 3, none⟩ = some (.int .i64 a1_3) ∧ w'.cell? ⟨gb144, 4, none⟩ = some (.int .i64 a1_4)) (ds := []) #[false, false, false, false, false, false, false, false, false, false, false, false] (by kernel_rfl) rfl rfl ⟨(qcd BK155.out 0).trans rfl, (qcd BK155.out 1).trans rfl, (qcd BK159.out 0).trans rfl, (qcd BK159.out 1).trans rfl, (qcd BK143.out 0).trans rfl, (qcd BK143.out 1).trans rfl, (qcd BK143.out 2).trans rfl, (qcd BK143.out 3).trans rfl, (qcd BK143.out 4).trans rfl, (qcd BK144.out 0).trans rfl, (qcd BK144.out 1).trans rfl, (qcd BK144.out 2).trans rfl, (qcd BK144.out 3).trans rfl, (qcd BK144.out 4).trans rfl⟩ (fun hHeld => ?_); refine with_tabW impl_MeetingsOf.tab9 impl_MeetingsOf.bits9 (fun HT_ HW_ => ?_)
         generalize w67.drew = w68 at HO_5 BK143 BK144 BK155 BK159 HB hHeld ⊢
         refine take_ (i := 0) (N := some 42) (v := ?_) (a' := ?_) #[true, false, false, false, false, false, false, false, false, false, false, false] rfl rfl (take_ofW HT_.out HW_.out (by kernel_rfl)) (fun _ _ _ h => h) (Or.inl ⟨by rfl, ?_⟩) hHeld ?_ ?_
         rotate_left
         ·rintro w' ⟨s0, s1, s2, s3, s4, s5, s6, s7, s8, s9, s10, s11, s12, s13⟩
          go_simp
          with_reducible rfl
         rotate_left
         ·simp only [Act.put, p1d, p2d, p3d, i64_w, i32_w]
          rfl
         refine take_ (i := 1) (N := some 43) (v := ?_) (a' := ?_) #[true, true, false, false, false, false, false, false, false, false, false, false] rfl rfl (take_ofW HT_.out HW_.out (by kernel_rfl)) (fun _ _ _ h => h) (Or.inl ⟨by rfl, ?_⟩) hHeld ?_ ?_
         rotate_left
         ·rintro w' ⟨s0, s1, s2, s3, s4, s5, s6, s7, s8, s9, s10, s11, s12, s13⟩
          go_simp
          with_reducible rfl
         rotate_left
         ·simp only [Act.put, p1d, p2d, p3d, i64_w, i32_w]
          rfl
         refine pure_ (i := 2) (N := some 44) (v := ?_) (a' := ?_) #[true, true, true, false, false, false, false, false, false, false, false, false] rfl rfl (any_of HT_.out (by kernel_rfl)) (fun _ _ _ h => h) (Or.inl ⟨by rfl, ?_⟩) ?_ ?_
         rotate_left
         ·intro w'
          go_simp
          with_reducible rfl
         rotate_left
         ·simp only [Act.put, p1d, p2d, p3d, i64_w, i32_w]
          rfl
         refine pure_ (i := 3) (N := some 45) (v := ?_) (a' := ?_) #[true, true, true, true, false, false, false, false, false, false, false, false] rfl rfl (any_of HT_.out (by kernel_rfl)) (fun _ _ _ h => h) (Or.inl ⟨by rfl, ?_⟩) ?_ ?_
         rotate_left
         ·intro w'
          go_simp
          with_reducible rfl
         rotate_left
         ·simp only [Act.put, p1d, p2d, p3d, i64_w, i32_w]
          rfl
         refine pure_ (i := 5) (N := some 47) (v := ?_) (a' := ?_) #[true, true, true, true, false, true, false, false, false, false, false, false] rfl rfl (any_of HT_.out (by kernel_rfl)) (fun _ _ _ h => h) (Or.inl ⟨by rfl, ?_⟩) ?_ ?_
         rotate_left
         ·intro w'
          go_simp
          with_reducible rfl
         rotate_left
         ·simp only [Act.put, p1d, p2d, p3d, i64_w, i32_w]
          rfl
         refine pure_ (i := 8) (N := some 50) (v := ?_) (a' := ?_) #[true, true, true, true, false, true, false, false, true, false, false, false] rfl rfl (any_of HT_.out (by kernel_rfl)) (fun _ _ _ h => h) (Or.inl ⟨by rfl, ?_⟩) ?_ ?_
         rotate_left
         ·intro w'
          go_simp
          with_reducible rfl
         rotate_left
         ·simp only [Act.put, p1d, p2d, p3d, i64_w, i32_w]
          rfl
         refine take_ (i := 4) (N := some 46) (v := ?_) (a' := ?_) #[true, true, true, true, true, true, false, false, true, false, false, false] rfl rfl (take_ofW HT_.out HW_.out (by kernel_rfl)) (fun _ _ _ h => h) (Or.inl ⟨by rfl, ?_⟩) hHeld ?_ ?_
         rotate_left
         ·rintro w' ⟨s0, s1, s2, s3, s4, s5, s6, s7, s8, s9, s10, s11, s12, s13⟩
          go_simp
          with_reducible rfl
         rotate_left
         ·simp only [Act.put, p1d, p2d, p3d, i64_w, i32_w]
          rfl
         refine take_ (i := 7) (N := some 49) (v := ?_) (a' := ?_) #[true, true, true, true, true, true, false, true, true, false, false, false] rfl rfl (take_ofW HT_.out HW_.out (by kernel_rfl)) (fun _ _ _ h => h) (Or.inl ⟨by rfl, ?_⟩) hHeld ?_ ?_
         rotate_left
         ·rintro w' ⟨s0, s1, s2, s3, s4, s5, s6, s7, s8, s9, s10, s11, s12, s13⟩
          go_simp
          with_reducible rfl
         rotate_left
         ·simp only [Act.put, p1d, p2d, p3d, i64_w, i32_w]
          rfl
         refine one_ (i := 6) (N := some 48) #[true, true, true, true, true, true, true, true, true, false, false, false] rfl rfl (one_of HT_.out (by kernel_rfl)) (by decide) (fun K hK => ?_)
         refine goes_ Try.func53 (by kernel_rfl) rfl #[.agg #[.int .i64 a0_0, .int .i64 a0_1, .int .i64 a0_2, .int .i64 a0_3, .int .i64 a0_4], .int .i64 x27_2] (by rfl) rfl rfl (by (try simp only [List.map_toArray, List.map_cons, List.map_nil]); first | done | rfl | (simp only [List.length_drop, List.length_take]; rfl)) ?_
         with_reducible refine (impl_HeightAt.calls a0_0 a0_1 a0_2 a0_3 a0_4 x27_2 t160 _ A30.out).mono ?_
         rintro e w69 ⟨rfl, hb⟩
         refine ⟨_, rfl, ?_⟩
         have n0_ := qgd (qjd (by (with_reducible repeat (first | apply qkd | apply qld | apply qmd)); exact HO_5.out) hb)
         have n1_ := qgd (q8d (g := gb143) (o := .cells #[.int .i64 a0_0, .int .i64 a0_1, .int .i64 a0_2, .int .i64 a0_3, .int .i64 a0_4] 28 (0, 0)) (by (with_reducible repeat (first | refine q5d ?_ _ | refine q6d ?_ | refine q7d ?_ _)); exact BK143.out) hb)
         have n2_ := qgd (q8d (g := gb144) (o := .cells #[.int .i64 a1_0, .int .i64 a1_1, .int .i64 a1_2, .int .i64 a1_3, .int .i64 a1_4] 28 (0, 0)) (by (with_reducible repeat (first | refine q5d ?_ _ | refine q6d ?_ | refine q7d ?_ _)); exact BK144.out) hb)
         have n3_ := qgd (q8d (g := gb155) (o := .cells #[.int .i64 t152, .int .i64 t153] 26 (0, 0)) (by (with_reducible repeat (first | refine q5d ?_ _ | refine q6d ?_ | refine q7d ?_ _)); exact BK155.out) hb)
         have n4_ := qgd (q8d (g := gb159) (o := .cells #[.int .i64 t156, .int .i64 t157] 26 (0, 0)) (by (with_reducible repeat (first | refine q5d ?_ _ | refine q6d ?_ | refine q7d ?_ _)); exact BK159.out) hb)
         have n5_ := qgd (q9d (by repeat (first | (with_reducible first | exact HB.out | apply q1d | apply q2d | apply q3d | refine q4d ?_ GE143.out | refine q4d ?_ GE144.out | refine q4d ?_ GE155.out | refine q4d ?_ GE159.out) | exact HB.out)) hb)
         clear HO_5
         clear BK143
         clear BK144
         clear BK155
         clear BK159
         clear HB
         have HO_5 := n0_
         have BK143 := n1_
         have BK144 := n2_
         have BK155 := n3_
         have BK159 := n4_
         have HB := n5_
         clear n0_ n1_ n2_ n3_ n4_ n5_
         (try clear hb)
         (try clear hb2)
         (try clear hk)
         (try clear hi)
         refine hK.out _ _ ⟨(qcd BK155.out 0).trans rfl, (qcd BK155.out 1).trans rfl, (qcd BK159.out 0).trans rfl, (qcd BK159.out 1).trans rfl, (qcd BK143.out 0).trans rfl, (qcd BK143.out 1).trans rfl, (qcd BK143.out 2).trans rfl, (qcd BK143.out 3).trans rfl, (qcd BK143.out 4).trans rfl, (qcd BK144.out 0).trans rfl, (qcd BK144.out 1).trans rfl, (qcd BK144.out 2).trans rfl, (qcd BK144.out 3).trans rfl, (qcd BK144.out 4).trans rfl⟩ (fun hHeld => ?_)
         clear hK K
         refine norm_ (a' := ?_) ?_ ?_
         rotate_left
         ·show Act.put _ (some 48) _ = _
          simp only [Act.put, p1d, p2d, p3d, i64_w, i32_w]
          rfl
         refine one_ (i := 9) (N := some 51) #[true, true, true, true, true, true, true, true, true, true, false, false] rfl rfl (one_of HT_.out (by kernel_rfl)) (by decide) (fun K hK => ?_)
         refine goes_ Try.func53 (by kernel_rfl) rfl #[.agg #[.int .i64 a1_0, .int .i64 a1_1, .int .i64 a1_2, .int .i64 a1_3, .int .i64 a1_4], .int .i64 x27_2] (by rfl) rfl rfl (by (try simp only [List.map_toArray, List.map_cons, List.map_nil]); first | done | rfl | (simp only [List.length_drop, List.length_take]; rfl)) ?_
         with_reducible refine (impl_HeightAt.calls a1_0 a1_1 a1_2 a1_3 a1_4 x27_2 t161 _ A31.out).mono ?_
         rintro e w70 ⟨rfl, hb⟩
         refine ⟨_, rfl, ?_⟩
         have n0_ := qgd (qjd (by (with_reducible repeat (first | apply qkd | apply qld | apply qmd)); exact HO_5.out) hb)
         have n1_ := qgd (q8d (g := gb143) (o := .cells #[.int .i64 a0_0, .int .i64 a0_1, .int .i64 a0_2, .int .i64 a0_3, .int .i64 a0_4] 28 (0, 0)) (by (with_reducible repeat (first | refine q5d ?_ _ | refine q6d ?_ | refine q7d ?_ _)); exact BK143.out) hb)
         have n2_ := qgd (q8d (g := gb144) (o := .cells #[.int .i64 a1_0, .int .i64 a1_1, .int .i64 a1_2, .int .i64 a1_3, .int .i64 a1_4] 28 (0, 0)) (by (with_reducible repeat (first | refine q5d ?_ _ | refine q6d ?_ | refine q7d ?_ _)); exact BK144.out) hb)
         have n3_ := qgd (q8d (g := gb155) (o := .cells #[.int .i64 t152, .int .i64 t153] 26 (0, 0)) (by (with_reducible repeat (first | refine q5d ?_ _ | refine q6d ?_ | refine q7d ?_ _)); exact BK155.out) hb)
         have n4_ := qgd (q8d (g := gb159) (o := .cells #[.int .i64 t156, .int .i64 t157] 26 (0, 0)) (by (with_reducible repeat (first | refine q5d ?_ _ | refine q6d ?_ | refine q7d ?_ _)); exact BK159.out) hb)
         have n5_ := qgd (q9d (by repeat (first | (with_reducible first | exact HB.out | apply q1d | apply q2d | apply q3d | refine q4d ?_ GE143.out | refine q4d ?_ GE144.out | refine q4d ?_ GE155.out | refine q4d ?_ GE159.out) | exact HB.out)) hb)
         clear HO_5
         clear BK143
         clear BK144
         clear BK155
         clear BK159
         clear HB
         have HO_5 := n0_
         have BK143 := n1_
         have BK144 := n2_
         have BK155 := n3_
         have BK159 := n4_
         have HB := n5_
         clear n0_ n1_ n2_ n3_ n4_ n5_
         (try clear hb)
         (try clear hb2)
         (try clear hk)
         (try clear hi)
         refine hK.out _ _ ⟨(qcd BK155.out 0).trans rfl, (qcd BK155.out 1).trans rfl, (qcd BK159.out 0).trans rfl, (qcd BK159.out 1).trans rfl, (qcd BK143.out 0).trans rfl, (qcd BK143.out 1).trans rfl, (qcd BK143.out 2).trans rfl, (qcd BK143.out 3).trans rfl, (qcd BK143.out 4).trans rfl, (qcd BK144.out 0).trans rfl, (qcd BK144.out 1).trans rfl, (qcd BK144.out 2).trans rfl, (qcd BK144.out 3).trans rfl, (qcd BK144.out 4).trans rfl⟩ (fun hHeld => ?_)
         clear hK K
         refine norm_ (a' := ?_) ?_ ?_
         rotate_left
         ·show Act.put _ (some 51) _ = _
          simp only [Act.put, p1d, p2d, p3d, i64_w, i32_w]
          rfl
         refine pure_ (i := 10) (N := some 52) (v := ?_) (a' := ?_) #[true, true, true, true, true, true, true, true, true, true, true, false] rfl rfl (any_of HT_.out (by kernel_rfl)) (fun _ _ _ h => h) (Or.inl ⟨by rfl, ?_⟩) ?_ ?_
         rotate_left
         ·intro w'
          go_simp
          with_reducible rfl
         rotate_left
         ·simp only [Act.put, p1d, p2d, p3d, i64_w, i32_w]
          rfl
         refine pure_ (i := 11) (N := some 53) (v := ?_) (a' := ?_) #[true, true, true, true, true, true, true, true, true, true, true, true] rfl rfl (any_of HT_.out (by kernel_rfl)) (fun _ _ _ h => h) (Or.inl ⟨by rfl, ?_⟩) ?_ ?_
         rotate_left
         ·intro w'
          go_simp
          with_reducible rfl
         rotate_left
         ·simp only [Act.put, p1d, p2d, p3d, i64_w, i32_w]
          rfl
         refine done_ (done_of HT_.out (by kernel_rfl)) ?_
         try go_wp2
         go_roundg k2
         case measure => have := HJ2.out; have := HK2.out; omega
         case rel => exact ⟨(x5_2), (wrap64 (x27_2 + 1)), (by first | rfl | (simp; done) | (simp [*]; done)), H', ⟨by have := HJ2.out; have := HK2.out; omega⟩, ⟨by (with_reducible repeat (first | apply qkd | apply qld | apply qmd)); exact HO_5.out⟩, ⟨by (with_reducible repeat (first | refine q5d ?_ _ | refine q6d ?_ | refine q7d ?_ _)); exact BK143.out⟩, ⟨by (with_reducible repeat (first | refine q5d ?_ _ | refine q6d ?_ | refine q7d ?_ _)); exact BK144.out⟩, ⟨by repeat (first | (with_reducible first | exact HB.out | apply q1d | apply q2d | apply q3d | refine q4d ?_ GE143.out | refine q4d ?_ GE144.out | refine q4d ?_ GE155.out | refine q4d ?_ GE159.out) | exact HB.out)⟩⟩
       ·rw [if_neg c29] at H
        have c29b0 : (t152 == t156 && (t153 == t157)) = false := by simpa using c29
        (try (have c29b1 : decide (t152 = t156 && (t153 == t157)) = false := by simpa using c29))
        (try (have c29b2 : (t152 == t156 && (t153 == t157)) = false := by simpa using c29))
        (try (have c29b3 : ¬ (t152 = t156 && (t153 == t157)) := by simpa using c29))
        clear c29
        have H' := qgd H
        clear H
        have hnb71 := NB143_144.out
        have hnc71 := NB144_143.out
        have hcz72_0 : wr.cell? ⟨gb143, 0, none⟩ = some (.int .i64 a0_0) := (qcd BK143.out 0).trans rfl
        have hcz72_1 : wr.cell? ⟨gb143, 1, none⟩ = some (.int .i64 a0_1) := (qcd BK143.out 1).trans rfl
        have hcz72_2 : wr.cell? ⟨gb143, 2, none⟩ = some (.int .i64 a0_2) := (qcd BK143.out 2).trans rfl
        have hcz72_3 : wr.cell? ⟨gb143, 3, none⟩ = some (.int .i64 a0_3) := (qcd BK143.out 3).trans rfl
        have hcz72_4 : wr.cell? ⟨gb143, 4, none⟩ = some (.int .i64 a0_4) := (qcd BK143.out 4).trans rfl
        have hfz72_0 := qbd BK143.out 0
        have hfz72_1 := qbd BK143.out 1
        have hfz72_2 := qbd BK143.out 2
        have hfz72_3 := qbd BK143.out 3
        have hfz72_4 := qbd BK143.out 4
        try go_wp2_with (first | ((with_reducible refine qtd (f := 26) rfl ?_); refine goesL_ (some 33) rfl rfl Try.func26 (by kernel_rfl) rfl #[.agg #[.int .i64 a0_0, .int .i64 a0_1, .int .i64 a0_2, .int .i64 a0_3, .int .i64 a0_4], .int .i64 x27_2] rfl (by (try simp only [List.map_toArray, List.map_cons, List.map_nil]); first | done | rfl | (simp only [List.length_drop, List.length_take]; rfl)) ?_; (with_reducible refine (impl_PlaceAt.calls k2 a0_0 a0_1 a0_2 a0_3 a0_4 x27_2 t152 t153 t154 _ A27.out).mono ?_); rintro e w73 ⟨rfl, hb⟩; refine ⟨_, rfl, ?_⟩; have n0_ := qgd (qjd (by (with_reducible repeat (first | apply qkd | apply qld | apply qmd)); exact HO_5.out) hb); have n1_ := qgd (q8d (g := gb143) (o := .cells #[.int .i64 a0_0, .int .i64 a0_1, .int .i64 a0_2, .int .i64 a0_3, .int .i64 a0_4] 28 (0, 0)) (by (with_reducible repeat (first | refine q5d ?_ _ | refine q6d ?_ | refine q7d ?_ _)); exact BK143.out) hb); have n2_ := qgd (q8d (g := gb144) (o := .cells #[.int .i64 a1_0, .int .i64 a1_1, .int .i64 a1_2, .int .i64 a1_3, .int .i64 a1_4] 28 (0, 0)) (by (with_reducible repeat (first | refine q5d ?_ _ | refine q6d ?_ | refine q7d ?_ _)); exact BK144.out) hb); have n3_ := qgd (q9d (by repeat (first | (with_reducible first | exact HB.out | apply q1d | apply q2d | apply q3d | refine q4d ?_ GE143.out | refine q4d ?_ GE144.out) | exact HB.out)) hb); clear HO_5; clear BK143; clear BK144; clear HB; have HO_5 := n0_; have BK143 := n1_; have BK144 := n2_; have HB := n3_; clear n0_ n1_ n2_ n3_; (try clear hb); (try clear hb2); (try clear hk); (try clear hi)) | ((with_reducible refine qud (N := 7) rfl ?_); refine qhd ?hg (N := 7) ?hd (cs := #[.int .i64 0, .int .i64 0]) (t := 26) ?hr ?_; (case hd => rfl); (case hg => rfl); (case hr => first | (go_simp; done) | (go_simp; rfl)); intro gb155 hg w74 hbox hb; have n0_ := qgd (qjd (by (with_reducible repeat (first | apply qkd | apply qld | apply qmd)); exact HO_5.out) hb); have n1_ := qgd (q8d (g := gb143) (o := .cells #[.int .i64 a0_0, .int .i64 a0_1, .int .i64 a0_2, .int .i64 a0_3, .int .i64 a0_4] 28 (0, 0)) (by (with_reducible repeat (first | refine q5d ?_ _ | refine q6d ?_ | refine q7d ?_ _)); exact BK143.out) hb); have n2_ := qgd (q8d (g := gb144) (o := .cells #[.int .i64 a1_0, .int .i64 a1_1, .int .i64 a1_2, .int .i64 a1_3, .int .i64 a1_4] 28 (0, 0)) (by (with_reducible repeat (first | refine q5d ?_ _ | refine q6d ?_ | refine q7d ?_ _)); exact BK144.out) hb); have n3_ := qgd (q9d (by repeat (first | (with_reducible first | exact HB.out | apply q1d | apply q2d | apply q3d | refine q4d ?_ GE143.out | refine q4d ?_ GE144.out) | exact HB.out)) hb); have n4_ := qgd (hbox); have n5_ := qgd ((by rw [hg]; exact (qad (by repeat (first | (with_reducible first | exact HB.out | apply q1d | apply q2d | apply q3d | refine q4d ?_ GE143.out | refine q4d ?_ GE144.out) | exact HB.out))) : w.heap.size ≤ gb155)); have n6_ := qgd ((by rw [hg]; exact (qad (by repeat (first | (with_reducible first | exact HB.out | apply q1d | apply q2d | apply q3d | refine q4d ?_ GE143.out | refine q4d ?_ GE144.out) | exact HB.out))) : w.heap.size ≤ gb155)); have n7_ := qgd ((by rw [hg]; exact qvd (qdd (g := gb143) (o := .cells #[.int .i64 a0_0, .int .i64 a0_1, .int .i64 a0_2, .int .i64 a0_3, .int .i64 a0_4] 28 (0, 0)) (by (with_reducible repeat (first | refine q5d ?_ _ | refine q6d ?_ | refine q7d ?_ _)); exact BK143.out)) : gb143 ≠ gb155)); have n8_ := qgd ((by rw [hg]; exact qwd (qdd (g := gb143) (o := .cells #[.int .i64 a0_0, .int .i64 a0_1, .int .i64 a0_2, .int .i64 a0_3, .int .i64 a0_4] 28 (0, 0)) (by (with_reducible repeat (first | refine q5d ?_ _ | refine q6d ?_ | refine q7d ?_ _)); exact BK143.out)) : gb155 ≠ gb143)); have n9_ := qgd ((by rw [hg]; exact qvd (qdd (g := gb144) (o := .cells #[.int .i64 a1_0, .int .i64 a1_1, .int .i64 a1_2, .int .i64 a1_3, .int .i64 a1_4] 28 (0, 0)) (by (with_reducible repeat (first | refine q5d ?_ _ | refine q6d ?_ | refine q7d ?_ _)); exact BK144.out)) : gb144 ≠ gb155)); have n10_ := qgd ((by rw [hg]; exact qwd (qdd (g := gb144) (o := .cells #[.int .i64 a1_0, .int .i64 a1_1, .int .i64 a1_2, .int .i64 a1_3, .int .i64 a1_4] 28 (0, 0)) (by (with_reducible repeat (first | refine q5d ?_ _ | refine q6d ?_ | refine q7d ?_ _)); exact BK144.out)) : gb155 ≠ gb144)); clear HO_5; clear BK143; clear BK144; clear HB; have HO_5 := n0_; have BK143 := n1_; have BK144 := n2_; have HB := n3_; have BK155 := n4_; have GW155 := n5_; have GE155 := n6_; have NB143_155 := n7_; have NB155_143 := n8_; have NB144_155 := n9_; have NB155_144 := n10_; clear n0_ n1_ n2_ n3_ n4_ n5_ n6_ n7_ n8_ n9_ n10_; clear hb hbox hg; have hnb75 := NB155_143.out; have hnc75 := NB143_155.out; have hnb76 := NB155_144.out; have hnc76 := NB144_155.out; have hcz77_0 : w74.cell? ⟨gb155, 0, none⟩ = some (.int .i64 0) := (qcd BK155.out 0).trans rfl; have hcz77_1 : w74.cell? ⟨gb155, 1, none⟩ = some (.int .i64 0) := (qcd BK155.out 1).trans rfl; have hfz77_0 := qbd BK155.out 0; have hfz77_1 := qbd BK155.out 1; have hcz78_0 : w74.cell? ⟨gb144, 0, none⟩ = some (.int .i64 a1_0) := (qcd BK144.out 0).trans rfl; have hcz78_1 : w74.cell? ⟨gb144, 1, none⟩ = some (.int .i64 a1_1) := (qcd BK144.out 1).trans rfl; have hcz78_2 : w74.cell? ⟨gb144, 2, none⟩ = some (.int .i64 a1_2) := (qcd BK144.out 2).trans rfl; have hcz78_3 : w74.cell? ⟨gb144, 3, none⟩ = some (.int .i64 a1_3) := (qcd BK144.out 3).trans rfl; have hcz78_4 : w74.cell? ⟨gb144, 4, none⟩ = some (.int .i64 a1_4) := (qcd BK144.out 4).trans rfl; have hfz78_0 := qbd BK144.out 0; have hfz78_1 := qbd BK144.out 1; have hfz78_2 := qbd BK144.out 2; have hfz78_3 := qbd BK144.out 3; have hfz78_4 := qbd BK144.out 4) | ((with_reducible refine qtd (f := 26) rfl ?_); refine goesL_ (some 39) rfl rfl Try.func26 (by kernel_rfl) rfl #[.agg #[.int .i64 a1_0, .int .i64 a1_1, .int .i64 a1_2, .int .i64 a1_3, .int .i64 a1_4], .int .i64 x27_2] rfl (by (try simp only [List.map_toArray, List.map_cons, List.map_nil]); first | done | rfl | (simp only [List.length_drop, List.length_take]; rfl)) ?_; (with_reducible refine (impl_PlaceAt.calls k2 a1_0 a1_1 a1_2 a1_3 a1_4 x27_2 t156 t157 t158 _ A28.out).mono ?_); rintro e w79 ⟨rfl, hb⟩; refine ⟨_, rfl, ?_⟩; have n0_ := qgd (qjd (by (with_reducible repeat (first | apply qkd | apply qld | apply qmd)); exact (Kd.R_mono (Kd.R_far (p := ⟨gb155, 1, none⟩) (Kd.R_far (p := ⟨gb155, 0, none⟩) (Kd.R_types HO_5.out BK155.out (by decide)) (fun _ hk => hk.2) (.int .i64 t152)) (fun _ hk => hk.2) (.int .i64 t153)) (fun _ h_ => h_.1))) hb); have n1_ := qgd (q8d (g := gb143) (o := .cells #[.int .i64 a0_0, .int .i64 a0_1, .int .i64 a0_2, .int .i64 a0_3, .int .i64 a0_4] 28 (0, 0)) (by (with_reducible repeat (first | refine q5d ?_ _ | refine q6d ?_ | refine q7d ?_ _)); refine qed ?_ NB143_155.out _; (with_reducible repeat (first | refine q5d ?_ _ | refine q6d ?_ | refine q7d ?_ _)); refine qed ?_ NB143_155.out _; (with_reducible repeat (first | refine q5d ?_ _ | refine q6d ?_ | refine q7d ?_ _)); exact BK143.out) hb); have n2_ := qgd (q8d (g := gb144) (o := .cells #[.int .i64 a1_0, .int .i64 a1_1, .int .i64 a1_2, .int .i64 a1_3, .int .i64 a1_4] 28 (0, 0)) (by (with_reducible repeat (first | refine q5d ?_ _ | refine q6d ?_ | refine q7d ?_ _)); refine qed ?_ NB144_155.out _; (with_reducible repeat (first | refine q5d ?_ _ | refine q6d ?_ | refine q7d ?_ _)); refine qed ?_ NB144_155.out _; (with_reducible repeat (first | refine q5d ?_ _ | refine q6d ?_ | refine q7d ?_ _)); exact BK144.out) hb); have n3_ := qgd (q8d (g := gb155) (o := .cells #[.int .i64 t152, .int .i64 t153] 26 (0, 0)) (by (with_reducible repeat (first | refine q5d ?_ _ | refine q6d ?_ | refine q7d ?_ _)); refine qfd (cs := #[.int .i64 t152, .int .i64 0]) ?_ 1 _ rfl; (with_reducible repeat (first | refine q5d ?_ _ | refine q6d ?_ | refine q7d ?_ _)); refine qfd (cs := #[.int .i64 0, .int .i64 0]) ?_ 0 _ rfl; (with_reducible repeat (first | refine q5d ?_ _ | refine q6d ?_ | refine q7d ?_ _)); exact BK155.out) hb); have n4_ := qgd (q9d (by repeat (first | (with_reducible first | exact HB.out | apply q1d | apply q2d | apply q3d | refine q4d ?_ GE143.out | refine q4d ?_ GE144.out | refine q4d ?_ GE155.out) | exact HB.out)) hb); clear HO_5; clear BK143; clear BK144; clear BK155; clear HB; have HO_5 := n0_; have BK143 := n1_; have BK144 := n2_; have BK155 := n3_; have HB := n4_; clear n0_ n1_ n2_ n3_ n4_; (try clear hb); (try clear hb2); (try clear hk); (try clear hi)) | ((with_reducible refine qud (N := 9) rfl ?_); refine qhd ?hg (N := 9) ?hd (cs := #[.int .i64 0, .int .i64 0]) (t := 26) ?hr ?_; (case hd => rfl); (case hg => rfl); (case hr => first | (go_simp; done) | (go_simp; rfl)); intro gb159 hg w80 hbox hb; have n0_ := qgd (qjd (by (with_reducible repeat (first | apply qkd | apply qld | apply qmd)); exact HO_5.out) hb); have n1_ := qgd (q8d (g := gb143) (o := .cells #[.int .i64 a0_0, .int .i64 a0_1, .int .i64 a0_2, .int .i64 a0_3, .int .i64 a0_4] 28 (0, 0)) (by (with_reducible repeat (first | refine q5d ?_ _ | refine q6d ?_ | refine q7d ?_ _)); exact BK143.out) hb); have n2_ := qgd (q8d (g := gb144) (o := .cells #[.int .i64 a1_0, .int .i64 a1_1, .int .i64 a1_2, .int .i64 a1_3, .int .i64 a1_4] 28 (0, 0)) (by (with_reducible repeat (first | refine q5d ?_ _ | refine q6d ?_ | refine q7d ?_ _)); exact BK144.out) hb); have n3_ := qgd (q8d (g := gb155) (o := .cells #[.int .i64 t152, .int .i64 t153] 26 (0, 0)) (by (with_reducible repeat (first | refine q5d ?_ _ | refine q6d ?_ | refine q7d ?_ _)); exact BK155.out) hb); have n4_ := qgd (q9d (by repeat (first | (with_reducible first | exact HB.out | apply q1d | apply q2d | apply q3d | refine q4d ?_ GE143.out | refine q4d ?_ GE144.out | refine q4d ?_ GE155.out) | exact HB.out)) hb); have n5_ := qgd (hbox); have n6_ := qgd ((by rw [hg]; exact (qad (by repeat (first | (with_reducible first | exact HB.out | apply q1d | apply q2d | apply q3d | refine q4d ?_ GE143.out | refine q4d ?_ GE144.out | refine q4d ?_ GE155.out) | exact HB.out))) : w.heap.size ≤ gb159)); have n7_ := qgd ((by rw [hg]; exact (qad (by repeat (first | (with_reducible first | exact HB.out | apply q1d | apply q2d | apply q3d | refine q4d ?_ GE143.out | refine q4d ?_ GE144.out | refine q4d ?_ GE155.out) | exact HB.out))) : w.heap.size ≤ gb159)); have n8_ := qgd ((by rw [hg]; exact qvd (qdd (g := gb143) (o := .cells #[.int .i64 a0_0, .int .i64 a0_1, .int .i64 a0_2, .int .i64 a0_3, .int .i64 a0_4] 28 (0, 0)) (by (with_reducible repeat (first | refine q5d ?_ _ | refine q6d ?_ | refine q7d ?_ _)); exact BK143.out)) : gb143 ≠ gb159)); have n9_ := qgd ((by rw [hg]; exact qwd (qdd (g := gb143) (o := .cells #[.int .i64 a0_0, .int .i64 a0_1, .int .i64 a0_2, .int .i64 a0_3, .int .i64 a0_4] 28 (0, 0)) (by (with_reducible repeat (first | refine q5d ?_ _ | refine q6d ?_ | refine q7d ?_ _)); exact BK143.out)) : gb159 ≠ gb143)); have n10_ := qgd ((by rw [hg]; exact qvd (qdd (g := gb144) (o := .cells #[.int .i64 a1_0, .int .i64 a1_1, .int .i64 a1_2, .int .i64 a1_3, .int .i64 a1_4] 28 (0, 0)) (by (with_reducible repeat (first | refine q5d ?_ _ | refine q6d ?_ | refine q7d ?_ _)); exact BK144.out)) : gb144 ≠ gb159)); have n11_ := qgd ((by rw [hg]; exact qwd (qdd (g := gb144) (o := .cells #[.int .i64 a1_0, .int .i64 a1_1, .int .i64 a1_2, .int .i64 a1_3, .int .i64 a1_4] 28 (0, 0)) (by (with_reducible repeat (first | refine q5d ?_ _ | refine q6d ?_ | refine q7d ?_ _)); exact BK144.out)) : gb159 ≠ gb144)); have n12_ := qgd ((by rw [hg]; exact qvd (qdd (g := gb155) (o := .cells #[.int .i64 t152, .int .i64 t153] 26 (0, 0)) (by (with_reducible repeat (first | refine q5d ?_ _ | refine q6d ?_ | refine q7d ?_ _)); exact BK155.out)) : gb155 ≠ gb159)); have n13_ := qgd ((by rw [hg]; exact qwd (qdd (g := gb155) (o := .cells #[.int .i64 t152, .int .i64 t153] 26 (0, 0)) (by (with_reducible repeat (first | refine q5d ?_ _ | refine q6d ?_ | refine q7d ?_ _)); exact BK155.out)) : gb159 ≠ gb155)); clear HO_5; clear BK143; clear BK144; clear BK155; clear HB; have HO_5 := n0_; have BK143 := n1_; have BK144 := n2_; have BK155 := n3_; have HB := n4_; have BK159 := n5_; have GW159 := n6_; have GE159 := n7_; have NB143_159 := n8_; have NB159_143 := n9_; have NB144_159 := n10_; have NB159_144 := n11_; have NB155_159 := n12_; have NB159_155 := n13_; clear n0_ n1_ n2_ n3_ n4_ n5_ n6_ n7_ n8_ n9_ n10_ n11_ n12_ n13_; clear hb hbox hg; have hnb81 := NB159_143.out; have hnc81 := NB143_159.out; have hnb82 := NB159_144.out; have hnc82 := NB144_159.out; have hnb83 := NB159_155.out; have hnc83 := NB155_159.out; have hcz84_0 : w80.cell? ⟨gb159, 0, none⟩ = some (.int .i64 0) := (qcd BK159.out 0).trans rfl; have hcz84_1 : w80.cell? ⟨gb159, 1, none⟩ = some (.int .i64 0) := (qcd BK159.out 1).trans rfl; have hfz84_0 := qbd BK159.out 0; have hfz84_1 := qbd BK159.out 1))
        have n0_ : Aside0 (Kd.R (Kd.int .i64) 3 ((w80.setCell ⟨gb159, 0, none⟩ (.int .i64 t156)).setCell ⟨gb159, 1, none⟩ (.int .i64 t157)) w.heap.size (fun _ => True) u5 x5_2) := ⟨by (with_reducible repeat (first | apply qkd | apply qld | apply qmd)); exact Kd.R_mono (Kd.R_far (p := ⟨gb159, 1, none⟩) (Kd.R_far (p := ⟨gb159, 0, none⟩) (Kd.R_types HO_5.out BK159.out (by decide)) (fun _ hk => hk.2) (.int .i64 t156)) (fun _ hk => hk.2) (.int .i64 t157)) (fun _ hk => trivial)⟩
        have n1_ : Aside0 (((w80.setCell ⟨gb159, 0, none⟩ (.int .i64 t156)).setCell ⟨gb159, 1, none⟩ (.int .i64 t157)).heap[gb143]? = some (.cells #[.int .i64 a0_0, .int .i64 a0_1, .int .i64 a0_2, .int .i64 a0_3, .int .i64 a0_4] 28 (0, 0))) := ⟨by (with_reducible repeat (first | refine q5d ?_ _ | refine q6d ?_ | refine q7d ?_ _)); refine qed ?_ NB143_159.out _; (with_reducible repeat (first | refine q5d ?_ _ | refine q6d ?_ | refine q7d ?_ _)); refine qed ?_ NB143_159.out _; (with_reducible repeat (first | refine q5d ?_ _ | refine q6d ?_ | refine q7d ?_ _)); exact BK143.out⟩
        have n2_ : Aside0 (((w80.setCell ⟨gb159, 0, none⟩ (.int .i64 t156)).setCell ⟨gb159, 1, none⟩ (.int .i64 t157)).heap[gb144]? = some (.cells #[.int .i64 a1_0, .int .i64 a1_1, .int .i64 a1_2, .int .i64 a1_3, .int .i64 a1_4] 28 (0, 0))) := ⟨by (with_reducible repeat (first | refine q5d ?_ _ | refine q6d ?_ | refine q7d ?_ _)); refine qed ?_ NB144_159.out _; (with_reducible repeat (first | refine q5d ?_ _ | refine q6d ?_ | refine q7d ?_ _)); refine qed ?_ NB144_159.out _; (with_reducible repeat (first | refine q5d ?_ _ | refine q6d ?_ | refine q7d ?_ _)); exact BK144.out⟩
        have n3_ : Aside0 (((w80.setCell ⟨gb159, 0, none⟩ (.int .i64 t156)).setCell ⟨gb159, 1, none⟩ (.int .i64 t157)).heap[gb155]? = some (.cells #[.int .i64 t152, .int .i64 t153] 26 (0, 0))) := ⟨by (with_reducible repeat (first | refine q5d ?_ _ | refine q6d ?_ | refine q7d ?_ _)); refine qed ?_ NB155_159.out _; (with_reducible repeat (first | refine q5d ?_ _ | refine q6d ?_ | refine q7d ?_ _)); refine qed ?_ NB155_159.out _; (with_reducible repeat (first | refine q5d ?_ _ | refine q6d ?_ | refine q7d ?_ _)); exact BK155.out⟩
        have n4_ : Aside0 (((w80.setCell ⟨gb159, 0, none⟩ (.int .i64 t156)).setCell ⟨gb159, 1, none⟩ (.int .i64 t157)).heap[gb159]? = some (.cells #[.int .i64 t156, .int .i64 t157] 26 (0, 0))) := ⟨by (with_reducible repeat (first | refine q5d ?_ _ | refine q6d ?_ | refine q7d ?_ _)); refine qfd (cs := #[.int .i64 t156, .int .i64 0]) ?_ 1 _ rfl; (with_reducible repeat (first | refine q5d ?_ _ | refine q6d ?_ | refine q7d ?_ _)); refine qfd (cs := #[.int .i64 0, .int .i64 0]) ?_ 0 _ rfl; (with_reducible repeat (first | refine q5d ?_ _ | refine q6d ?_ | refine q7d ?_ _)); exact BK159.out⟩
        have n5_ : Aside0 (Below w.heap.size w ((w80.setCell ⟨gb159, 0, none⟩ (.int .i64 t156)).setCell ⟨gb159, 1, none⟩ (.int .i64 t157))) := ⟨by repeat (first | (with_reducible first | exact HB.out | apply q1d | apply q2d | apply q3d | refine q4d ?_ GE143.out | refine q4d ?_ GE144.out | refine q4d ?_ GE155.out | refine q4d ?_ GE159.out) | exact HB.out)⟩
        (try clear HO_5)
        (try clear BK143)
        (try clear BK144)
        (try clear BK155)
        (try clear BK159)
        (try clear HB)
        generalize ((w80.setCell ⟨gb159, 0, none⟩ (.int .i64 t156)).setCell ⟨gb159, 1, none⟩ (.int .i64 t157)) = w85 at n0_ n1_ n2_ n3_ n4_ n5_ ⊢
        have HO_5 := n0_
        have BK143 := n1_
        have BK144 := n2_
        have BK155 := n3_
        have BK159 := n4_
        have HB := n5_
        clear n0_ n1_ n2_ n3_ n4_ n5_
        have n0_ := qgd (qmd HO_5.out)
        have n1_ := qgd (q6d BK143.out)
        have n2_ := qgd (q6d BK144.out)
        have n3_ := qgd (q6d BK155.out)
        have n4_ := qgd (q6d BK159.out)
        have n5_ := qgd (q3d HB.out)
        clear HO_5
        clear BK143
        clear BK144
        clear BK155
        clear BK159
        clear HB
        have HO_5 := n0_
        have BK143 := n1_
        have BK144 := n2_
        have BK155 := n3_
        have BK159 := n4_
        have HB := n5_
        clear n0_ n1_ n2_ n3_ n4_ n5_
        refine start_ (n := 12) (S := fun w' => w'.cell? ⟨gb155, 0, none⟩ = some (.int .i64 t152) ∧ w'.cell? ⟨gb155, 1, none⟩ = some (.int .i64 t153) ∧ w'.cell? ⟨gb159, 0, none⟩ = some (.int .i64 t156) ∧ w'.cell? ⟨gb159, 1, none⟩ = some (.int .i64 t157)) (ds := []) #[false, false, false, false, false, false, false, false, false, false, false, false] (by kernel_rfl) rfl rfl ⟨(qcd BK155.out 0).trans rfl, (qcd BK155.out 1).trans rfl, (qcd BK159.out 0).trans rfl, (qcd BK159.out 1).trans rfl⟩ (fun hHeld => ?_); refine with_tabW impl_MeetingsOf.tab9 impl_MeetingsOf.bits9 (fun HT_ HW_ => ?_)
        generalize w85.drew = w86 at HO_5 BK143 BK144 BK155 BK159 HB hHeld ⊢
        refine take_ (i := 0) (N := some 42) (v := ?_) (a' := ?_) #[true, false, false, false, false, false, false, false, false, false, false, false] rfl rfl (take_ofW HT_.out HW_.out (by kernel_rfl)) (fun _ _ _ h => h) (Or.inl ⟨by rfl, ?_⟩) hHeld ?_ ?_
        rotate_left
        ·rintro w' ⟨s0, s1, s2, s3⟩
         go_simp
         with_reducible rfl
        rotate_left
        ·simp only [Act.put, p1d, p2d, p3d, i64_w, i32_w]
         rfl
        refine take_ (i := 1) (N := some 43) (v := ?_) (a' := ?_) #[true, true, false, false, false, false, false, false, false, false, false, false] rfl rfl (take_ofW HT_.out HW_.out (by kernel_rfl)) (fun _ _ _ h => h) (Or.inl ⟨by rfl, ?_⟩) hHeld ?_ ?_
        rotate_left
        ·rintro w' ⟨s0, s1, s2, s3⟩
         go_simp
         with_reducible rfl
        rotate_left
        ·simp only [Act.put, p1d, p2d, p3d, i64_w, i32_w]
         rfl
        refine pure_ (i := 2) (N := some 44) (v := ?_) (a' := ?_) #[true, true, true, false, false, false, false, false, false, false, false, false] rfl rfl (any_of HT_.out (by kernel_rfl)) (fun _ _ _ h => h) (Or.inl ⟨by rfl, ?_⟩) ?_ ?_
        rotate_left
        ·intro w'
         go_simp
         with_reducible rfl
        rotate_left
        ·simp only [Act.put, p1d, p2d, p3d, i64_w, i32_w]
         rfl
        refine pure_ (i := 3) (N := some 45) (v := ?_) (a' := ?_) #[true, true, true, true, false, false, false, false, false, false, false, false] rfl rfl (any_of HT_.out (by kernel_rfl)) (fun _ _ _ h => h) (Or.inl ⟨by rfl, ?_⟩) ?_ ?_
        rotate_left
        ·intro w'
         go_simp
         with_reducible rfl
        rotate_left
        ·simp only [Act.put, p1d, p2d, p3d, i64_w, i32_w]
         rfl
        refine pure_ (i := 4) (N := some 46) (v := undef) (a' := ?_) #[true, true, true, true, true, false, false, false, false, false, false, false] rfl rfl (any_of HT_.out (by kernel_rfl)) (fun _ _ _ h => h) (Or.inr ⟨by rfl, rfl⟩) ?_ ?_
        rotate_left
        ·simp only [Act.put, p1d, p2d, p3d, i64_w, i32_w]
         rfl
        refine pure_ (i := 5) (N := some 47) (v := undef) (a' := ?_) #[true, true, true, true, true, true, false, false, false, false, false, false] rfl rfl (any_of HT_.out (by kernel_rfl)) (fun _ _ _ h => h) (Or.inr ⟨by rfl, rfl⟩) ?_ ?_
        rotate_left
        ·simp only [Act.put, p1d, p2d, p3d, i64_w, i32_w]
         rfl
        refine pure_ (i := 6) (N := some 48) (v := undef) (a' := ?_) #[true, true, true, true, true, true, true, false, false, false, false, false] rfl rfl (any_of HT_.out (by kernel_rfl)) (fun _ _ _ h => h) (Or.inr ⟨by rfl, rfl⟩) ?_ ?_
        rotate_left
        ·simp only [Act.put, p1d, p2d, p3d, i64_w, i32_w]
         rfl
        refine pure_ (i := 7) (N := some 49) (v := undef) (a' := ?_) #[true, true, true, true, true, true, true, true, false, false, false, false] rfl rfl (any_of HT_.out (by kernel_rfl)) (fun _ _ _ h => h) (Or.inr ⟨by rfl, rfl⟩) ?_ ?_
        rotate_left
        ·simp only [Act.put, p1d, p2d, p3d, i64_w, i32_w]
         rfl
        refine pure_ (i := 8) (N := some 50) (v := undef) (a' := ?_) #[true, true, true, true, true, true, true, true, true, false, false, false] rfl rfl (any_of HT_.out (by kernel_rfl)) (fun _ _ _ h => h) (Or.inr ⟨by rfl, rfl⟩) ?_ ?_
        rotate_left
        ·simp only [Act.put, p1d, p2d, p3d, i64_w, i32_w]
         rfl
        refine pure_ (i := 9) (N := some 51) (v := undef) (a' := ?_) #[true, true, true, true, true, true, true, true, true, true, false, false] rfl rfl (any_of HT_.out (by kernel_rfl)) (fun _ _ _ h => h) (Or.inr ⟨by rfl, rfl⟩) ?_ ?_
        rotate_left
        ·simp only [Act.put, p1d, p2d, p3d, i64_w, i32_w]
         rfl
        refine pure_ (i := 10) (N := some 52) (v := undef) (a' := ?_) #[true, true, true, true, true, true, true, true, true, true, true, false] rfl rfl (any_of HT_.out (by kernel_rfl)) (fun _ _ _ h => h) (Or.inr ⟨by rfl, rfl⟩) ?_ ?_
        rotate_left
        ·simp only [Act.put, p1d, p2d, p3d, i64_w, i32_w]
         rfl
        refine pure_ (i := 11) (N := some 53) (v := ?_) (a' := ?_) #[true, true, true, true, true, true, true, true, true, true, true, true] rfl rfl (any_of HT_.out (by kernel_rfl)) (fun _ _ _ h => h) (Or.inl ⟨by rfl, ?_⟩) ?_ ?_
        rotate_left
        ·intro w'
         go_simp
         with_reducible rfl
        rotate_left
        ·simp only [Act.put, p1d, p2d, p3d, i64_w, i32_w]
         rfl
        refine done_ (done_of HT_.out (by kernel_rfl)) ?_
        try go_wp2
        go_roundg k2
        case measure => have := HJ2.out; have := HK2.out; omega
        case rel => exact ⟨(x5_2), (wrap64 (x27_2 + 1)), (by first | rfl | (simp; done) | (simp [*]; done)), H', ⟨by have := HJ2.out; have := HK2.out; omega⟩, ⟨by (with_reducible repeat (first | apply qkd | apply qld | apply qmd)); exact HO_5.out⟩, ⟨by (with_reducible repeat (first | refine q5d ?_ _ | refine q6d ?_ | refine q7d ?_ _)); exact BK143.out⟩, ⟨by (with_reducible repeat (first | refine q5d ?_ _ | refine q6d ?_ | refine q7d ?_ _)); exact BK144.out⟩, ⟨by repeat (first | (with_reducible first | exact HB.out | apply q1d | apply q2d | apply q3d | refine q4d ?_ GE143.out | refine q4d ?_ GE144.out | refine q4d ?_ GE155.out | refine q4d ?_ GE159.out) | exact HB.out)⟩⟩
      ·rw [if_neg c26] at H
       have c26b0 : decide (x27_2 < (wrap64 ((ji22) + 1))) = false := decide_eq_false c26
       clear c26
       obtain rfl := Option.some.inj H
       go_wp2
       go_ret
       exact ⟨_, by first | rfl | (simp [errW_none, errW_some] <;> rfl) | (simp only [← hji22]; first | rfl | (simp [errW_none, errW_some] <;> rfl)) | (simp [*, errW_none, errW_some] <;> rfl), by (with_reducible repeat (first | apply qkd | apply qld | apply qmd)); exact HO_5.out, by repeat (first | (with_reducible first | exact HB.out | apply q1d | apply q2d | apply q3d | refine q4d ?_ GE143.out | refine q4d ?_ GE144.out) | exact HB.out)⟩
end Go.Proofs.Ytlmgokicanlcpaa.PFnMeet
