-- A printed text with one place mended: the draws of a call are told where the next region begins.
import Derived.Test.YtlmgokicanlcpaaPFnMeetx0
import Derived.Test.YtlmgokicanlcpaaPFnMeetx4
import Derived.Test.YtlmgokicanlcpaaPFnMeetx5
namespace Go.Proofs.Ytlmgokicanlcpaa.PFnMeet
open Go.RowKit Go.Proofs.YtlmgokicanlcpaaW.PrintWords Go.Proofs.YtlmgokicanlcpaaW.PrintLast Go.Proofs.YtlmgokicanlcpaaW.PrintMore
attribute [local go_sem] max2_int min2_int max_two min_two max_three min_three max_four min_four   -- for this text's walks alone
set_option linter.unusedVariables false
set_option linter.unusedSimpArgs false

theorem p1g : type_of% @List.setIfInBounds_toArray := @List.setIfInBounds_toArray
theorem p2g : type_of% @List.set_cons_zero := @List.set_cons_zero
theorem p3g : type_of% @List.set_cons_succ := @List.set_cons_succ
theorem q1g : type_of% @below_alloc := @below_alloc
theorem q2g : type_of% @pw_below_drewN := @pw_below_drewN
theorem q3g : type_of% @below_drew1 := @below_drew1
theorem q4g : type_of% @below_set := @below_set
theorem q5g : type_of% @blk_drewN := @blk_drewN
theorem q6g : type_of% @blk_drew := @blk_drew
theorem q7g : type_of% @blk_alloc := @blk_alloc
theorem q8g : type_of% @blk_below := @blk_below
theorem q9g : type_of% @below_step := @below_step
theorem qag : type_of% @below_size := @below_size
theorem qbg : type_of% @blk_frozen := @blk_frozen
theorem qcg : type_of% @blk_cell := @blk_cell
theorem qdg : type_of% @blk_lt := @blk_lt
theorem qeg : type_of% @blk_far := @blk_far
theorem qfg : type_of% @blk_put := @blk_put
theorem qgg : type_of% @Aside0.mk := @Aside0.mk
theorem qhg : type_of% @box_event := @box_event
theorem qig : type_of% @cell_far := @cell_far
theorem qtg : type_of% @gate_callee := @gate_callee
theorem qug : type_of% @gate_dst := @gate_dst
theorem qvg : type_of% @Nat.ne_of_lt := @Nat.ne_of_lt
theorem qwg : type_of% @Nat.ne_of_gt := @Nat.ne_of_gt
/-! ### spec_DrawMeetingsOf: function 51 -/
def spec_DrawMeetingsOf.j0 : Nat → Int → Bool → Int → Int → Int → Int → Int → Int → Int → Int → Int → Int → Int → Int → Option (Int × Int × Int × Int × Int × Int × Int × Int × Int × Int)
  | 0, _, _, _, _, _, _, _, _, _, _, _, _, _, _ => none
  | k + 1, x7, x29, x322000, x322001, x322002, x322003, x322004, x330000, x330001, x330002, x330003, x330004, x337000, x337001 => if x29 = true then ((spec_l2Turn.f k (wrap64 ((wrap64 (-x7)) * x322003)) 0 (wrap64 (x322002 + 1))).bind fun bt340 => ((spec_l2Add.f x337000 x337001 bt340.1 bt340.2).bind fun bt342 => ((spec_l2Mod.f (wrap64 (x322002 + 1))).bind fun t344 => (some (x322000, x322001, x322002, x322003, x322004, bt342.1, bt342.2, t344, x322003, x322004))))) else (some (x322000, x322001, x322002, x322003, x322004, x330000, x330001, x330002, x330003, x330004))
def spec_DrawMeetingsOf.f (k : Nat) (l0 : List Int) : Option (Int × Int × Int × Int × Int × Int × Int × Int × Int × Int) := (spec_l1New.f k l0).bind fun bt310 => ((spec_l3Any.f k bt310.1 bt310.2.1 bt310.2.2).bind fun bt314 => ((spec_l3Any.f k bt310.1 bt314.2.2.2.2.2.1 bt314.2.2.2.2.2.2).bind fun bt322 => ((spec_l1Below.f bt310.1 bt322.2.2.2.2.2.1 bt322.2.2.2.2.2.2 20).bind fun bt330 => ((spec_PlaceAt.f k bt314.1 bt314.2.1 bt314.2.2.1 bt314.2.2.2.1 bt314.2.2.2.2.1 bt330.1).bind fun bt333 => (if bt333.2.2 = true then ((spec_l1Below.f bt310.1 bt330.2.1 bt330.2.2 3).bind fun bt337 => (spec_DrawMeetingsOf.j0 k bt330.1 (decide (bt337.1 > 0)) bt314.1 bt314.2.1 bt314.2.2.1 bt314.2.2.2.1 bt314.2.2.2.2.1 bt322.1 bt322.2.1 bt322.2.2.1 bt322.2.2.2.1 bt322.2.2.2.2.1 bt333.1 bt333.2.1)) else (spec_DrawMeetingsOf.j0 k bt330.1 false bt314.1 bt314.2.1 bt314.2.2.1 bt314.2.2.2.1 bt314.2.2.2.2.1 bt322.1 bt322.2.1 bt322.2.2.1 bt322.2.2.2.1 bt322.2.2.2.2.1 bt333.1 bt333.2.1))))))
theorem spec_DrawMeetingsOf.mono_l : ∀ k, (∀ y0 y1 y2 y3 y4 y5 y6 y7 y8 y9 y10 y11 y12 y13, LeO (spec_DrawMeetingsOf.j0 k y0 y1 y2 y3 y4 y5 y6 y7 y8 y9 y10 y11 y12 y13) (spec_DrawMeetingsOf.j0 (k + 1) y0 y1 y2 y3 y4 y5 y6 y7 y8 y9 y10 y11 y12 y13))
  | 0 => fun _ _ _ _ _ _ _ _ _ _ _ _ _ _ r h => by simp [spec_DrawMeetingsOf.j0] at h
  | k + 1 => by
    have ih0 := spec_DrawMeetingsOf.mono_l k
    · intro y0 y1 y2 y3 y4 y5 y6 y7 y8 y9 y10 y11 y12 y13
      unfold spec_DrawMeetingsOf.j0
      repeat' first
      | (with_reducible exact ih0 _ _ _ _ _ _ _ _ _ _ _ _ _ _)
      | (with_reducible exact spec_PlaceAt.mono _ _ _ _ _ _ _)
      | (with_reducible exact spec_l1New.mono _ _)
      | (with_reducible exact spec_l2Turn.mono _ _ _ _)
      | (with_reducible exact spec_l3Any.mono _ _ _ _)
      | (with_reducible exact LeO.refl _)
      | (with_reducible exact LeO.none _)
      | (with_reducible refine LeO.ite ?_ ?_)
      | (with_reducible refine LeO.bind ?_ (fun _ => ?_))
      | exact ih0 _ _ _ _ _ _ _ _ _ _ _ _ _ _
      | exact spec_PlaceAt.mono _ _ _ _ _ _ _
      | exact spec_l1New.mono _ _
      | exact spec_l2Turn.mono _ _ _ _
      | exact spec_l3Any.mono _ _ _ _
      | exact LeO.none _
      | refine LeO.ite ?_ ?_
      | refine LeO.bind ?_ (fun _ => ?_)
theorem spec_DrawMeetingsOf.mono : ∀ a0 k, LeO (spec_DrawMeetingsOf.f k a0) (spec_DrawMeetingsOf.f (k + 1) a0) := by
  intro a0 k
  have ih0 := spec_DrawMeetingsOf.mono_l k
  unfold spec_DrawMeetingsOf.f
  repeat' first
      | (with_reducible exact ih0 _ _ _ _ _ _ _ _ _ _ _ _ _ _)
      | (with_reducible exact spec_PlaceAt.mono _ _ _ _ _ _ _)
      | (with_reducible exact spec_l1New.mono _ _)
      | (with_reducible exact spec_l2Turn.mono _ _ _ _)
      | (with_reducible exact spec_l3Any.mono _ _ _ _)
      | (with_reducible exact LeO.refl _)
      | (with_reducible exact LeO.none _)
      | (with_reducible refine LeO.ite ?_ ?_)
      | (with_reducible refine LeO.bind ?_ (fun _ => ?_))
      | exact ih0 _ _ _ _ _ _ _ _ _ _ _ _ _ _
      | exact spec_PlaceAt.mono _ _ _ _ _ _ _
      | exact spec_l1New.mono _ _
      | exact spec_l2Turn.mono _ _ _ _
      | exact spec_l3Any.mono _ _ _ _
      | exact LeO.none _
      | refine LeO.ite ?_ ?_
      | refine LeO.bind ?_ (fun _ => ?_)
def spec_DrawMeetingsOf.T7 : Bool × List (List Nat × List Nat) := (true, [([], []), ([], []), ([1], [1]), ([], []), ([3], [3]), ([2, 4], [2, 4]), ([5], [5]), ([], []), ([7], [7]), ([8], [8]), ([6, 9], [6, 9]), ([0, 10, 10], [0, 10]), ([], []), ([12], [12]), ([13], [13]), ([14, 11], [14]), ([], []), ([16], [16]), ([], []), ([18], [18]), ([11, 15, 17, 19], [11, 15, 17, 19]), ([20, 15, 0, 1, 2, 3, 4, 5, 6, 7, 8, 9, 10, 11, 12, 13, 14, 15, 16, 17, 18, 19, 20], [20])])
def spec_DrawMeetingsOf.B7 : List Nat := [0, 0, 2, 0, 8, 30, 62, 0, 128, 384, 1022, 2047, 0, 4096, 12288, 32767, 0, 65536, 0, 262144, 1048575, 2097151]
theorem spec_DrawMeetingsOf.tab7 : rtab .any (opsOf Try.f51 7) = spec_DrawMeetingsOf.T7 := by kernel_rfl
theorem spec_DrawMeetingsOf.bits7 : waitsOk spec_DrawMeetingsOf.T7.2 spec_DrawMeetingsOf.B7 = true := by kernel_rfl
set_option maxHeartbeats 8000000 in
set_option maxRecDepth 100000 in
theorem spec_DrawMeetingsOf.calls (k : Nat) (A0 : Option Addr) (c0 : Nat) (l0 : List Int) (r1 : Int) (r2 : Int) (r3 : Int) (r4 : Int) (r5 : Int) (r6 : Int) (r7 : Int) (r8 : Int) (r9 : Int) (r10 : Int) (w : World) (hr0 : Kd.C (Kd.int .u8) w A0 l0.length l0) (hc0 : l0.length ≤ c0) (h : spec_DrawMeetingsOf.f k l0 = some (r1, r2, r3, r4, r5, r6, r7, r8, r9, r10)) :
 Calls Try.prog 51 #[.slice A0 l0.length c0] w fun e w' => e = .returned (.tuple #[.agg #[.int .i64 r1, .int .i64 r2, .int .i64 r3, .int .i64 r4, .int .i64 r5], .agg #[.int .i64 r6, .int .i64 r7, .int .i64 r8, .int .i64 r9, .int .i64 r10]]) ∧ Below w.heap.size w w' := by
 have hu28 := Try.underlying28
 have hu26 := Try.underlying26
 have HR0 := qgg hr0
 have HC0 := qgg hc0
 clear hr0 hc0
 have HB := qgg (Below.refl w.heap.size w)
 have H : ((spec_l1New.f k l0).bind fun bt310 => ((spec_l3Any.f k bt310.1 bt310.2.1 bt310.2.2).bind fun bt314 => ((spec_l3Any.f k bt310.1 bt314.2.2.2.2.2.1 bt314.2.2.2.2.2.2).bind fun bt322 => ((spec_l1Below.f bt310.1 bt322.2.2.2.2.2.1 bt322.2.2.2.2.2.2 20).bind fun bt330 => ((spec_PlaceAt.f k bt314.1 bt314.2.1 bt314.2.2.1 bt314.2.2.2.1 bt314.2.2.2.2.1 bt330.1).bind fun bt333 => (if bt333.2.2 = true then ((spec_l1Below.f bt310.1 bt330.2.1 bt330.2.2 3).bind fun bt337 => (spec_DrawMeetingsOf.j0 k bt330.1 (decide (bt337.1 > 0)) bt314.1 bt314.2.1 bt314.2.2.1 bt314.2.2.2.1 bt314.2.2.2.2.1 bt322.1 bt322.2.1 bt322.2.2.1 bt322.2.2.2.1 bt322.2.2.2.2.1 bt333.1 bt333.2.1)) else (spec_DrawMeetingsOf.j0 k bt330.1 false bt314.1 bt314.2.1 bt314.2.2.1 bt314.2.2.2.1 bt314.2.2.2.2.1 bt322.1 bt322.2.1 bt322.2.2.1 bt322.2.2.2.1 bt322.2.2.2.2.1 bt333.1 bt333.2.1))))))) = some (r1, r2, r3, r4, r5, r6, r7, r8, r9, r10) := h
 clear h
 replace H := Option.bind_eq_some_iff.mp H
 obtain ⟨⟨t310, t311, t312⟩, A20, H⟩ := H
 replace H : ((spec_l3Any.f k t310 t311 t312).bind fun bt314 => ((spec_l3Any.f k t310 bt314.2.2.2.2.2.1 bt314.2.2.2.2.2.2).bind fun bt322 => ((spec_l1Below.f t310 bt322.2.2.2.2.2.1 bt322.2.2.2.2.2.2 20).bind fun bt330 => ((spec_PlaceAt.f k bt314.1 bt314.2.1 bt314.2.2.1 bt314.2.2.2.1 bt314.2.2.2.2.1 bt330.1).bind fun bt333 => (if bt333.2.2 = true then ((spec_l1Below.f t310 bt330.2.1 bt330.2.2 3).bind fun bt337 => (spec_DrawMeetingsOf.j0 k bt330.1 (decide (bt337.1 > 0)) bt314.1 bt314.2.1 bt314.2.2.1 bt314.2.2.2.1 bt314.2.2.2.2.1 bt322.1 bt322.2.1 bt322.2.2.1 bt322.2.2.2.1 bt322.2.2.2.2.1 bt333.1 bt333.2.1)) else (spec_DrawMeetingsOf.j0 k bt330.1 false bt314.1 bt314.2.1 bt314.2.2.1 bt314.2.2.2.1 bt314.2.2.2.2.1 bt322.1 bt322.2.1 bt322.2.2.1 bt322.2.2.2.1 bt322.2.2.2.2.1 bt333.1 bt333.2.1)))))) = some (r1, r2, r3, r4, r5, r6, r7, r8, r9, r10) := H
 have A2 := qgg A20
 clear A20
 replace H := Option.bind_eq_some_iff.mp H
 obtain ⟨⟨t314, t315, t316, t317, t318, t319, t320⟩, A30, H⟩ := H
 replace H : ((spec_l3Any.f k t310 t319 t320).bind fun bt322 => ((spec_l1Below.f t310 bt322.2.2.2.2.2.1 bt322.2.2.2.2.2.2 20).bind fun bt330 => ((spec_PlaceAt.f k t314 t315 t316 t317 t318 bt330.1).bind fun bt333 => (if bt333.2.2 = true then ((spec_l1Below.f t310 bt330.2.1 bt330.2.2 3).bind fun bt337 => (spec_DrawMeetingsOf.j0 k bt330.1 (decide (bt337.1 > 0)) t314 t315 t316 t317 t318 bt322.1 bt322.2.1 bt322.2.2.1 bt322.2.2.2.1 bt322.2.2.2.2.1 bt333.1 bt333.2.1)) else (spec_DrawMeetingsOf.j0 k bt330.1 false t314 t315 t316 t317 t318 bt322.1 bt322.2.1 bt322.2.2.1 bt322.2.2.2.1 bt322.2.2.2.2.1 bt333.1 bt333.2.1))))) = some (r1, r2, r3, r4, r5, r6, r7, r8, r9, r10) := H
 have A3 := qgg A30
 clear A30
 replace H := Option.bind_eq_some_iff.mp H
 obtain ⟨⟨t322, t323, t324, t325, t326, t327, t328⟩, A40, H⟩ := H
 replace H : ((spec_l1Below.f t310 t327 t328 20).bind fun bt330 => ((spec_PlaceAt.f k t314 t315 t316 t317 t318 bt330.1).bind fun bt333 => (if bt333.2.2 = true then ((spec_l1Below.f t310 bt330.2.1 bt330.2.2 3).bind fun bt337 => (spec_DrawMeetingsOf.j0 k bt330.1 (decide (bt337.1 > 0)) t314 t315 t316 t317 t318 t322 t323 t324 t325 t326 bt333.1 bt333.2.1)) else (spec_DrawMeetingsOf.j0 k bt330.1 false t314 t315 t316 t317 t318 t322 t323 t324 t325 t326 bt333.1 bt333.2.1)))) = some (r1, r2, r3, r4, r5, r6, r7, r8, r9, r10) := H
 have A4 := qgg A40
 clear A40
 replace H := Option.bind_eq_some_iff.mp H
 obtain ⟨⟨t330, t331, t332⟩, A50, H⟩ := H
 replace H : ((spec_PlaceAt.f k t314 t315 t316 t317 t318 t330).bind fun bt333 => (if bt333.2.2 = true then ((spec_l1Below.f t310 t331 t332 3).bind fun bt337 => (spec_DrawMeetingsOf.j0 k t330 (decide (bt337.1 > 0)) t314 t315 t316 t317 t318 t322 t323 t324 t325 t326 bt333.1 bt333.2.1)) else (spec_DrawMeetingsOf.j0 k t330 false t314 t315 t316 t317 t318 t322 t323 t324 t325 t326 bt333.1 bt333.2.1))) = some (r1, r2, r3, r4, r5, r6, r7, r8, r9, r10) := H
 have A5 := qgg A50
 clear A50
 replace H := Option.bind_eq_some_iff.mp H
 obtain ⟨⟨t333, t334, t335⟩, A60, H⟩ := H
 replace H : (if t335 = true then ((spec_l1Below.f t310 t331 t332 3).bind fun bt337 => (spec_DrawMeetingsOf.j0 k t330 (decide (bt337.1 > 0)) t314 t315 t316 t317 t318 t322 t323 t324 t325 t326 t333 t334)) else (spec_DrawMeetingsOf.j0 k t330 false t314 t315 t316 t317 t318 t322 t323 t324 t325 t326 t333 t334)) = some (r1, r2, r3, r4, r5, r6, r7, r8, r9, r10) := H
 have A6 := qgg A60
 clear A60
 have HC7 := qgg H
 clear H
 go_enter Try.func51, Try.ntmps51
 go_upto_region 6 with (first | ((with_reducible refine qug (N := 2) rfl ?_); refine qhg ?hg (N := 2) ?hd (cs := #[.int .i64 0, .int .i64 0, .int .i64 0, .int .i64 0, .int .i64 0]) (t := 28) ?hr ?_; (case hd => rfl); (case hg => rfl); (case hr => first | (go_simp; done) | (go_simp; rfl)); intro gb308 hg w8 hbox hb; have n0_ := qgg (q9g (by repeat (first | (with_reducible first | exact HB.out | apply q1g | apply q2g | apply q3g) | exact HB.out)) hb); have n1_ := qgg (hbox); have n2_ := qgg ((by rw [hg]; exact (qag (by repeat (first | (with_reducible first | exact HB.out | apply q1g | apply q2g | apply q3g) | exact HB.out))) : w.heap.size ≤ gb308)); have n3_ := qgg ((by rw [hg]; exact (qag (by repeat (first | (with_reducible first | exact HB.out | apply q1g | apply q2g | apply q3g) | exact HB.out))) : w.heap.size ≤ gb308)); clear HB; have HB := n0_; have BK308 := n1_; have GW308 := n2_; have GE308 := n3_; clear n0_ n1_ n2_ n3_; clear hb hbox hg) | ((with_reducible refine qug (N := 3) rfl ?_); refine qhg ?hg (N := 3) ?hd (cs := #[.int .i64 0, .int .i64 0, .int .i64 0, .int .i64 0, .int .i64 0]) (t := 28) ?hr ?_; (case hd => rfl); (case hg => rfl); (case hr => first | (go_simp; done) | (go_simp; rfl)); intro gb309 hg w9 hbox hb; have n0_ := qgg (q8g (g := gb308) (o := .cells #[.int .i64 0, .int .i64 0, .int .i64 0, .int .i64 0, .int .i64 0] 28 (0, 0)) (by (with_reducible repeat (first | refine q5g ?_ _ | refine q6g ?_ | refine q7g ?_ _)); exact BK308.out) hb); have n1_ := qgg (q9g (by repeat (first | (with_reducible first | exact HB.out | apply q1g | apply q2g | apply q3g | refine q4g ?_ GE308.out) | exact HB.out)) hb); have n2_ := qgg (hbox); have n3_ := qgg ((by rw [hg]; exact (qag (by repeat (first | (with_reducible first | exact HB.out | apply q1g | apply q2g | apply q3g | refine q4g ?_ GE308.out) | exact HB.out))) : w.heap.size ≤ gb309)); have n4_ := qgg ((by rw [hg]; exact (qag (by repeat (first | (with_reducible first | exact HB.out | apply q1g | apply q2g | apply q3g | refine q4g ?_ GE308.out) | exact HB.out))) : w.heap.size ≤ gb309)); have n5_ := qgg ((by rw [hg]; exact qvg (qdg (g := gb308) (o := .cells #[.int .i64 0, .int .i64 0, .int .i64 0, .int .i64 0, .int .i64 0] 28 (0, 0)) (by (with_reducible repeat (first | refine q5g ?_ _ | refine q6g ?_ | refine q7g ?_ _)); exact BK308.out)) : gb308 ≠ gb309)); have n6_ := qgg ((by rw [hg]; exact qwg (qdg (g := gb308) (o := .cells #[.int .i64 0, .int .i64 0, .int .i64 0, .int .i64 0, .int .i64 0] 28 (0, 0)) (by (with_reducible repeat (first | refine q5g ?_ _ | refine q6g ?_ | refine q7g ?_ _)); exact BK308.out)) : gb309 ≠ gb308)); clear BK308; clear HB; have BK308 := n0_; have HB := n1_; have BK309 := n2_; have GW309 := n3_; have GE309 := n4_; have NB308_309 := n5_; have NB309_308 := n6_; clear n0_ n1_ n2_ n3_ n4_ n5_ n6_; clear hb hbox hg) | ((with_reducible refine qtg (f := 86) rfl ?_); refine goesL_ (some 11) rfl rfl Try.func86 (by kernel_rfl) rfl #[.slice A0 l0.length c0] rfl (by (try simp only [List.map_toArray, List.map_cons, List.map_nil]); first | done | rfl | (simp only [List.length_drop, List.length_take]; rfl)) ?_; (with_reducible refine (spec_l1New.calls k _ _ l0 t310 t311 t312 w _ ?side1 ?side2 ?side3 A2.out).mono ?_); (case side1 => repeat (first | (with_reducible first | exact HB.out | apply q1g | apply q2g | apply q3g | refine q4g ?_ GE308.out | refine q4g ?_ GE309.out) | exact HB.out)); (case side2 => exact HR0.out); (case side3 => exact HC0.out); rintro e w10 ⟨g313, rfl, hi, hb, hb2⟩; refine ⟨_, rfl, ?_⟩; have n0_ := qgg (q8g (g := gb308) (o := .cells #[.int .i64 0, .int .i64 0, .int .i64 0, .int .i64 0, .int .i64 0] 28 (0, 0)) (by (with_reducible repeat (first | refine q5g ?_ _ | refine q6g ?_ | refine q7g ?_ _)); exact BK308.out) hb2); have n1_ := qgg (q8g (g := gb309) (o := .cells #[.int .i64 0, .int .i64 0, .int .i64 0, .int .i64 0, .int .i64 0] 28 (0, 0)) (by (with_reducible repeat (first | refine q5g ?_ _ | refine q6g ?_ | refine q7g ?_ _)); exact BK309.out) hb2); have n2_ := qgg (hb); have n3_ := qgg (hi); have n4_ := qgg (IsS113.ne_blk hi (q8g (g := gb308) (o := .cells #[.int .i64 0, .int .i64 0, .int .i64 0, .int .i64 0, .int .i64 0] 28 (0, 0)) (by (with_reducible repeat (first | refine q5g ?_ _ | refine q6g ?_ | refine q7g ?_ _)); exact BK308.out) hb2) (by decide)); have n5_ := qgg (Ne.symm (IsS113.ne_blk hi (q8g (g := gb308) (o := .cells #[.int .i64 0, .int .i64 0, .int .i64 0, .int .i64 0, .int .i64 0] 28 (0, 0)) (by (with_reducible repeat (first | refine q5g ?_ _ | refine q6g ?_ | refine q7g ?_ _)); exact BK308.out) hb2) (by decide))); have n6_ := qgg (IsS113.ne_blk hi (q8g (g := gb309) (o := .cells #[.int .i64 0, .int .i64 0, .int .i64 0, .int .i64 0, .int .i64 0] 28 (0, 0)) (by (with_reducible repeat (first | refine q5g ?_ _ | refine q6g ?_ | refine q7g ?_ _)); exact BK309.out) hb2) (by decide)); have n7_ := qgg (Ne.symm (IsS113.ne_blk hi (q8g (g := gb309) (o := .cells #[.int .i64 0, .int .i64 0, .int .i64 0, .int .i64 0, .int .i64 0] 28 (0, 0)) (by (with_reducible repeat (first | refine q5g ?_ _ | refine q6g ?_ | refine q7g ?_ _)); exact BK309.out) hb2) (by decide))); clear BK308; clear BK309; clear HB; have BK308 := n0_; have BK309 := n1_; have HB := n2_; have HI313 := n3_; have NB313_308 := n4_; have NB308_313 := n5_; have NB313_309 := n6_; have NB309_313 := n7_; clear n0_ n1_ n2_ n3_ n4_ n5_ n6_ n7_; (try clear hb); (try clear hb2); (try clear hk); (try clear hi)) | ((with_reducible refine qtg (f := 87) rfl ?_); refine goesL_ (some 13) rfl rfl Try.func87 (by kernel_rfl) rfl #[.pointer (some ⟨g313, 0, none⟩)] rfl (by (try simp only [List.map_toArray, List.map_cons, List.map_nil]); first | done | rfl | (simp only [List.length_drop, List.length_take]; rfl)) ?_; (with_reducible refine (spec_l3Any.calls k g313 t310 t311 t312 t314 t315 t316 t317 t318 t319 t320 w _ ?side1 ?side2 A3.out).mono ?_); (case side1 => repeat (first | (with_reducible first | exact HI313.out | apply IsS113.alloc | apply IsS113.drewN | apply IsS113.drew | apply IsS113.set_1 | apply IsS113.set_2 | refine IsS113.far ?_ NB313_308.out _ | refine IsS113.far ?_ NB313_309.out _) | exact HI313.out)); (case side2 => repeat (first | (with_reducible first | exact HB.out | apply q1g | apply q2g | apply q3g | refine q4g ?_ (IsS113.ge HI313.out) | refine q4g ?_ GE308.out | refine q4g ?_ GE309.out) | exact HB.out)); rintro e w11 ⟨rfl, hi, hb, hk⟩; refine ⟨_, rfl, ?_⟩; have n0_ := qgg (KeepBut.blk hk (g' := gb308) (o := .cells #[.int .i64 0, .int .i64 0, .int .i64 0, .int .i64 0, .int .i64 0] 28 (0, 0)) (by (with_reducible repeat (first | refine q5g ?_ _ | refine q6g ?_ | refine q7g ?_ _)); exact BK308.out) NB308_313.out (by simp)); have n1_ := qgg (KeepBut.blk hk (g' := gb309) (o := .cells #[.int .i64 0, .int .i64 0, .int .i64 0, .int .i64 0, .int .i64 0] 28 (0, 0)) (by (with_reducible repeat (first | refine q5g ?_ _ | refine q6g ?_ | refine q7g ?_ _)); exact BK309.out) NB309_313.out (by simp)); have n2_ := qgg (hb); have n3_ := qgg (hi); clear BK308; clear BK309; clear HB; clear HI313; have BK308 := n0_; have BK309 := n1_; have HB := n2_; have HI313 := n3_; clear n0_ n1_ n2_ n3_; (try clear hb); (try clear hb2); (try clear hk); (try clear hi)) | ((with_reducible refine qug (N := 5) rfl ?_); refine qhg ?hg (N := 5) ?hd (cs := #[.int .i64 0, .int .i64 0, .int .i64 0, .int .i64 0, .int .i64 0]) (t := 28) ?hr ?_; (case hd => rfl); (case hg => rfl); (case hr => first | (go_simp; done) | (go_simp; rfl)); intro gb321 hg w12 hbox hb; have n0_ := qgg (q8g (g := gb308) (o := .cells #[.int .i64 0, .int .i64 0, .int .i64 0, .int .i64 0, .int .i64 0] 28 (0, 0)) (by (with_reducible repeat (first | refine q5g ?_ _ | refine q6g ?_ | refine q7g ?_ _)); exact BK308.out) hb); have n1_ := qgg (q8g (g := gb309) (o := .cells #[.int .i64 0, .int .i64 0, .int .i64 0, .int .i64 0, .int .i64 0] 28 (0, 0)) (by (with_reducible repeat (first | refine q5g ?_ _ | refine q6g ?_ | refine q7g ?_ _)); exact BK309.out) hb); have n2_ := qgg (IsS113.below (by repeat (first | (with_reducible first | exact HI313.out | apply IsS113.alloc | apply IsS113.drewN | apply IsS113.drew | apply IsS113.set_1 | apply IsS113.set_2 | refine IsS113.far ?_ NB313_308.out _ | refine IsS113.far ?_ NB313_309.out _) | exact HI313.out)) hb); have n3_ := qgg (q9g (by repeat (first | (with_reducible first | exact HB.out | apply q1g | apply q2g | apply q3g | refine q4g ?_ (IsS113.ge HI313.out) | refine q4g ?_ GE308.out | refine q4g ?_ GE309.out) | exact HB.out)) hb); have n4_ := qgg (hbox); have n5_ := qgg ((by rw [hg]; exact (qag (by repeat (first | (with_reducible first | exact HB.out | apply q1g | apply q2g | apply q3g | refine q4g ?_ (IsS113.ge HI313.out) | refine q4g ?_ GE308.out | refine q4g ?_ GE309.out) | exact HB.out))) : w.heap.size ≤ gb321)); have n6_ := qgg ((by rw [hg]; exact (qag (by repeat (first | (with_reducible first | exact HB.out | apply q1g | apply q2g | apply q3g | refine q4g ?_ (IsS113.ge HI313.out) | refine q4g ?_ GE308.out | refine q4g ?_ GE309.out) | exact HB.out))) : w.heap.size ≤ gb321)); have n7_ := qgg ((by rw [hg]; exact qvg (qdg (g := gb308) (o := .cells #[.int .i64 0, .int .i64 0, .int .i64 0, .int .i64 0, .int .i64 0] 28 (0, 0)) (by (with_reducible repeat (first | refine q5g ?_ _ | refine q6g ?_ | refine q7g ?_ _)); exact BK308.out)) : gb308 ≠ gb321)); have n8_ := qgg ((by rw [hg]; exact qwg (qdg (g := gb308) (o := .cells #[.int .i64 0, .int .i64 0, .int .i64 0, .int .i64 0, .int .i64 0] 28 (0, 0)) (by (with_reducible repeat (first | refine q5g ?_ _ | refine q6g ?_ | refine q7g ?_ _)); exact BK308.out)) : gb321 ≠ gb308)); have n9_ := qgg ((by rw [hg]; exact qvg (qdg (g := gb309) (o := .cells #[.int .i64 0, .int .i64 0, .int .i64 0, .int .i64 0, .int .i64 0] 28 (0, 0)) (by (with_reducible repeat (first | refine q5g ?_ _ | refine q6g ?_ | refine q7g ?_ _)); exact BK309.out)) : gb309 ≠ gb321)); have n10_ := qgg ((by rw [hg]; exact qwg (qdg (g := gb309) (o := .cells #[.int .i64 0, .int .i64 0, .int .i64 0, .int .i64 0, .int .i64 0] 28 (0, 0)) (by (with_reducible repeat (first | refine q5g ?_ _ | refine q6g ?_ | refine q7g ?_ _)); exact BK309.out)) : gb321 ≠ gb309)); have n11_ := qgg ((by rw [hg]; exact qvg (IsS113.lt (show IsS113 w _ g313 t310 t319 t320 from by repeat (first | (with_reducible first | exact HI313.out | apply IsS113.alloc | apply IsS113.drewN | apply IsS113.drew | apply IsS113.set_1 | apply IsS113.set_2 | refine IsS113.far ?_ NB313_308.out _ | refine IsS113.far ?_ NB313_309.out _) | exact HI313.out))) : g313 ≠ gb321)); have n12_ := qgg ((by rw [hg]; exact qwg (IsS113.lt (show IsS113 w _ g313 t310 t319 t320 from by repeat (first | (with_reducible first | exact HI313.out | apply IsS113.alloc | apply IsS113.drewN | apply IsS113.drew | apply IsS113.set_1 | apply IsS113.set_2 | refine IsS113.far ?_ NB313_308.out _ | refine IsS113.far ?_ NB313_309.out _) | exact HI313.out))) : gb321 ≠ g313)); clear BK308; clear BK309; clear HI313; clear HB; have BK308 := n0_; have BK309 := n1_; have HI313 := n2_; have HB := n3_; have BK321 := n4_; have GW321 := n5_; have GE321 := n6_; have NB308_321 := n7_; have NB321_308 := n8_; have NB309_321 := n9_; have NB321_309 := n10_; have NB313_321 := n11_; have NB321_313 := n12_; clear n0_ n1_ n2_ n3_ n4_ n5_ n6_ n7_ n8_ n9_ n10_ n11_ n12_; clear hb hbox hg; have hnb13 := NB321_308.out; have hnc13 := NB308_321.out; have hnb14 := NB321_309.out; have hnc14 := NB309_321.out; have hnb15 := NB321_313.out; have hnc15 := NB313_321.out; have hcz16_0 : w12.cell? ⟨gb321, 0, none⟩ = some (.int .i64 0) := (qcg BK321.out 0).trans rfl; have hcz16_1 : w12.cell? ⟨gb321, 1, none⟩ = some (.int .i64 0) := (qcg BK321.out 1).trans rfl; have hcz16_2 : w12.cell? ⟨gb321, 2, none⟩ = some (.int .i64 0) := (qcg BK321.out 2).trans rfl; have hcz16_3 : w12.cell? ⟨gb321, 3, none⟩ = some (.int .i64 0) := (qcg BK321.out 3).trans rfl; have hcz16_4 : w12.cell? ⟨gb321, 4, none⟩ = some (.int .i64 0) := (qcg BK321.out 4).trans rfl; have hfz16_0 := qbg BK321.out 0; have hfz16_1 := qbg BK321.out 1; have hfz16_2 := qbg BK321.out 2; have hfz16_3 := qbg BK321.out 3; have hfz16_4 := qbg BK321.out 4) | ((with_reducible refine qtg (f := 87) rfl ?_); refine goesL_ (some 15) rfl rfl Try.func87 (by kernel_rfl) rfl #[.pointer (some ⟨g313, 0, none⟩)] rfl (by (try simp only [List.map_toArray, List.map_cons, List.map_nil]); first | done | rfl | (simp only [List.length_drop, List.length_take]; rfl)) ?_; (with_reducible refine (spec_l3Any.calls k g313 t310 t319 t320 t322 t323 t324 t325 t326 t327 t328 w _ ?side1 ?side2 A4.out).mono ?_); (case side1 => repeat (first | (with_reducible first | exact HI313.out | apply IsS113.alloc | apply IsS113.drewN | apply IsS113.drew | apply IsS113.set_1 | apply IsS113.set_2 | refine IsS113.far ?_ NB313_308.out _ | refine IsS113.far ?_ NB313_309.out _ | refine IsS113.far ?_ NB313_321.out _) | exact HI313.out)); (case side2 => repeat (first | (with_reducible first | exact HB.out | apply q1g | apply q2g | apply q3g | refine q4g ?_ (IsS113.ge HI313.out) | refine q4g ?_ GE308.out | refine q4g ?_ GE309.out | refine q4g ?_ GE321.out) | exact HB.out)); rintro e w17 ⟨rfl, hi, hb, hk⟩; refine ⟨_, rfl, ?_⟩; have n0_ := qgg (KeepBut.blk hk (g' := gb308) (o := .cells #[.int .i64 0, .int .i64 0, .int .i64 0, .int .i64 0, .int .i64 0] 28 (0, 0)) (by (with_reducible repeat (first | refine q5g ?_ _ | refine q6g ?_ | refine q7g ?_ _)); refine qeg ?_ NB308_321.out _; (with_reducible repeat (first | refine q5g ?_ _ | refine q6g ?_ | refine q7g ?_ _)); refine qeg ?_ NB308_321.out _; (with_reducible repeat (first | refine q5g ?_ _ | refine q6g ?_ | refine q7g ?_ _)); refine qeg ?_ NB308_321.out _; (with_reducible repeat (first | refine q5g ?_ _ | refine q6g ?_ | refine q7g ?_ _)); refine qeg ?_ NB308_321.out _; (with_reducible repeat (first | refine q5g ?_ _ | refine q6g ?_ | refine q7g ?_ _)); refine qeg ?_ NB308_321.out _; (with_reducible repeat (first | refine q5g ?_ _ | refine q6g ?_ | refine q7g ?_ _)); exact BK308.out) NB308_313.out (by simp)); have n1_ := qgg (KeepBut.blk hk (g' := gb309) (o := .cells #[.int .i64 0, .int .i64 0, .int .i64 0, .int .i64 0, .int .i64 0] 28 (0, 0)) (by (with_reducible repeat (first | refine q5g ?_ _ | refine q6g ?_ | refine q7g ?_ _)); refine qeg ?_ NB309_321.out _; (with_reducible repeat (first | refine q5g ?_ _ | refine q6g ?_ | refine q7g ?_ _)); refine qeg ?_ NB309_321.out _; (with_reducible repeat (first | refine q5g ?_ _ | refine q6g ?_ | refine q7g ?_ _)); refine qeg ?_ NB309_321.out _; (with_reducible repeat (first | refine q5g ?_ _ | refine q6g ?_ | refine q7g ?_ _)); refine qeg ?_ NB309_321.out _; (with_reducible repeat (first | refine q5g ?_ _ | refine q6g ?_ | refine q7g ?_ _)); refine qeg ?_ NB309_321.out _; (with_reducible repeat (first | refine q5g ?_ _ | refine q6g ?_ | refine q7g ?_ _)); exact BK309.out) NB309_313.out (by simp)); have n2_ := qgg (KeepBut.blk hk (g' := gb321) (o := .cells #[.int .i64 t314, .int .i64 t315, .int .i64 t316, .int .i64 t317, .int .i64 t318] 28 (0, 0)) (by (with_reducible repeat (first | refine q5g ?_ _ | refine q6g ?_ | refine q7g ?_ _)); refine qfg (cs := #[.int .i64 t314, .int .i64 t315, .int .i64 t316, .int .i64 t317, .int .i64 0]) ?_ 4 _ rfl; (with_reducible repeat (first | refine q5g ?_ _ | refine q6g ?_ | refine q7g ?_ _)); refine qfg (cs := #[.int .i64 t314, .int .i64 t315, .int .i64 t316, .int .i64 0, .int .i64 0]) ?_ 3 _ rfl; (with_reducible repeat (first | refine q5g ?_ _ | refine q6g ?_ | refine q7g ?_ _)); refine qfg (cs := #[.int .i64 t314, .int .i64 t315, .int .i64 0, .int .i64 0, .int .i64 0]) ?_ 2 _ rfl; (with_reducible repeat (first | refine q5g ?_ _ | refine q6g ?_ | refine q7g ?_ _)); refine qfg (cs := #[.int .i64 t314, .int .i64 0, .int .i64 0, .int .i64 0, .int .i64 0]) ?_ 1 _ rfl; (with_reducible repeat (first | refine q5g ?_ _ | refine q6g ?_ | refine q7g ?_ _)); refine qfg (cs := #[.int .i64 0, .int .i64 0, .int .i64 0, .int .i64 0, .int .i64 0]) ?_ 0 _ rfl; (with_reducible repeat (first | refine q5g ?_ _ | refine q6g ?_ | refine q7g ?_ _)); exact BK321.out) NB321_313.out (by simp)); have n3_ := qgg (hb); have n4_ := qgg (hi); clear BK308; clear BK309; clear BK321; clear HB; clear HI313; have BK308 := n0_; have BK309 := n1_; have BK321 := n2_; have HB := n3_; have HI313 := n4_; clear n0_ n1_ n2_ n3_ n4_; (try clear hb); (try clear hb2); (try clear hk); (try clear hi)) | ((with_reducible refine qug (N := 6) rfl ?_); refine qhg ?hg (N := 6) ?hd (cs := #[.int .i64 0, .int .i64 0, .int .i64 0, .int .i64 0, .int .i64 0]) (t := 28) ?hr ?_; (case hd => rfl); (case hg => rfl); (case hr => first | (go_simp; done) | (go_simp; rfl)); intro gb329 hg w18 hbox hb; have n0_ := qgg (q8g (g := gb308) (o := .cells #[.int .i64 0, .int .i64 0, .int .i64 0, .int .i64 0, .int .i64 0] 28 (0, 0)) (by (with_reducible repeat (first | refine q5g ?_ _ | refine q6g ?_ | refine q7g ?_ _)); exact BK308.out) hb); have n1_ := qgg (q8g (g := gb309) (o := .cells #[.int .i64 0, .int .i64 0, .int .i64 0, .int .i64 0, .int .i64 0] 28 (0, 0)) (by (with_reducible repeat (first | refine q5g ?_ _ | refine q6g ?_ | refine q7g ?_ _)); exact BK309.out) hb); have n2_ := qgg (IsS113.below (by repeat (first | (with_reducible first | exact HI313.out | apply IsS113.alloc | apply IsS113.drewN | apply IsS113.drew | apply IsS113.set_1 | apply IsS113.set_2 | refine IsS113.far ?_ NB313_308.out _ | refine IsS113.far ?_ NB313_309.out _ | refine IsS113.far ?_ NB313_321.out _) | exact HI313.out)) hb); have n3_ := qgg (q8g (g := gb321) (o := .cells #[.int .i64 t314, .int .i64 t315, .int .i64 t316, .int .i64 t317, .int .i64 t318] 28 (0, 0)) (by (with_reducible repeat (first | refine q5g ?_ _ | refine q6g ?_ | refine q7g ?_ _)); exact BK321.out) hb); have n4_ := qgg (q9g (by repeat (first | (with_reducible first | exact HB.out | apply q1g | apply q2g | apply q3g | refine q4g ?_ (IsS113.ge HI313.out) | refine q4g ?_ GE308.out | refine q4g ?_ GE309.out | refine q4g ?_ GE321.out) | exact HB.out)) hb); have n5_ := qgg (hbox); have n6_ := qgg ((by rw [hg]; exact (qag (by repeat (first | (with_reducible first | exact HB.out | apply q1g | apply q2g | apply q3g | refine q4g ?_ (IsS113.ge HI313.out) | refine q4g ?_ GE308.out | refine q4g ?_ GE309.out | refine q4g ?_ GE321.out) | exact HB.out))) : w.heap.size ≤ gb329)); have n7_ := qgg ((by rw [hg]; exact (qag (by repeat (first | (with_reducible first | exact HB.out | apply q1g | apply q2g | apply q3g | refine q4g ?_ (IsS113.ge HI313.out) | refine q4g ?_ GE308.out | refine q4g ?_ GE309.out | refine q4g ?_ GE321.out) | exact HB.out))) : w.heap.size ≤ gb329)); have n8_ := qgg ((by rw [hg]; exact qvg (qdg (g := gb308) (o := .cells #[.int .i64 0, .int .i64 0, .int .i64 0, .int .i64 0, .int .i64 0] 28 (0, 0)) (by (with_reducible repeat (first | refine q5g ?_ _ | refine q6g ?_ | refine q7g ?_ _)); exact BK308.out)) : gb308 ≠ gb329)); have n9_ := qgg ((by rw [hg]; exact qwg (qdg (g := gb308) (o := .cells #[.int .i64 0, .int .i64 0, .int .i64 0, .int .i64 0, .int .i64 0] 28 (0, 0)) (by (with_reducible repeat (first | refine q5g ?_ _ | refine q6g ?_ | refine q7g ?_ _)); exact BK308.out)) : gb329 ≠ gb308)); have n10_ := qgg ((by rw [hg]; exact qvg (qdg (g := gb309) (o := .cells #[.int .i64 0, .int .i64 0, .int .i64 0, .int .i64 0, .int .i64 0] 28 (0, 0)) (by (with_reducible repeat (first | refine q5g ?_ _ | refine q6g ?_ | refine q7g ?_ _)); exact BK309.out)) : gb309 ≠ gb329)); have n11_ := qgg ((by rw [hg]; exact qwg (qdg (g := gb309) (o := .cells #[.int .i64 0, .int .i64 0, .int .i64 0, .int .i64 0, .int .i64 0] 28 (0, 0)) (by (with_reducible repeat (first | refine q5g ?_ _ | refine q6g ?_ | refine q7g ?_ _)); exact BK309.out)) : gb329 ≠ gb309)); have n12_ := qgg ((by rw [hg]; exact qvg (qdg (g := gb321) (o := .cells #[.int .i64 t314, .int .i64 t315, .int .i64 t316, .int .i64 t317, .int .i64 t318] 28 (0, 0)) (by (with_reducible repeat (first | refine q5g ?_ _ | refine q6g ?_ | refine q7g ?_ _)); exact BK321.out)) : gb321 ≠ gb329)); have n13_ := qgg ((by rw [hg]; exact qwg (qdg (g := gb321) (o := .cells #[.int .i64 t314, .int .i64 t315, .int .i64 t316, .int .i64 t317, .int .i64 t318] 28 (0, 0)) (by (with_reducible repeat (first | refine q5g ?_ _ | refine q6g ?_ | refine q7g ?_ _)); exact BK321.out)) : gb329 ≠ gb321)); have n14_ := qgg ((by rw [hg]; exact qvg (IsS113.lt (show IsS113 w _ g313 t310 t327 t328 from by repeat (first | (with_reducible first | exact HI313.out | apply IsS113.alloc | apply IsS113.drewN | apply IsS113.drew | apply IsS113.set_1 | apply IsS113.set_2 | refine IsS113.far ?_ NB313_308.out _ | refine IsS113.far ?_ NB313_309.out _ | refine IsS113.far ?_ NB313_321.out _) | exact HI313.out))) : g313 ≠ gb329)); have n15_ := qgg ((by rw [hg]; exact qwg (IsS113.lt (show IsS113 w _ g313 t310 t327 t328 from by repeat (first | (with_reducible first | exact HI313.out | apply IsS113.alloc | apply IsS113.drewN | apply IsS113.drew | apply IsS113.set_1 | apply IsS113.set_2 | refine IsS113.far ?_ NB313_308.out _ | refine IsS113.far ?_ NB313_309.out _ | refine IsS113.far ?_ NB313_321.out _) | exact HI313.out))) : gb329 ≠ g313)); clear BK308; clear BK309; clear HI313; clear BK321; clear HB; have BK308 := n0_; have BK309 := n1_; have HI313 := n2_; have BK321 := n3_; have HB := n4_; have BK329 := n5_; have GW329 := n6_; have GE329 := n7_; have NB308_329 := n8_; have NB329_308 := n9_; have NB309_329 := n10_; have NB329_309 := n11_; have NB321_329 := n12_; have NB329_321 := n13_; have NB313_329 := n14_; have NB329_313 := n15_; clear n0_ n1_ n2_ n3_ n4_ n5_ n6_ n7_ n8_ n9_ n10_ n11_ n12_ n13_ n14_ n15_; clear hb hbox hg; have hnb19 := NB329_308.out; have hnc19 := NB308_329.out; have hnb20 := NB329_309.out; have hnc20 := NB309_329.out; have hnb21 := NB329_321.out; have hnc21 := NB321_329.out; have hnb22 := NB329_313.out; have hnc22 := NB313_329.out; have hcz23_0 : w18.cell? ⟨gb329, 0, none⟩ = some (.int .i64 0) := (qcg BK329.out 0).trans rfl; have hcz23_1 : w18.cell? ⟨gb329, 1, none⟩ = some (.int .i64 0) := (qcg BK329.out 1).trans rfl; have hcz23_2 : w18.cell? ⟨gb329, 2, none⟩ = some (.int .i64 0) := (qcg BK329.out 2).trans rfl; have hcz23_3 : w18.cell? ⟨gb329, 3, none⟩ = some (.int .i64 0) := (qcg BK329.out 3).trans rfl; have hcz23_4 : w18.cell? ⟨gb329, 4, none⟩ = some (.int .i64 0) := (qcg BK329.out 4).trans rfl; have hfz23_0 := qbg BK329.out 0; have hfz23_1 := qbg BK329.out 1; have hfz23_2 := qbg BK329.out 2; have hfz23_3 := qbg BK329.out 3; have hfz23_4 := qbg BK329.out 4) | ((with_reducible refine qtg (f := 88) rfl ?_); refine goesL_ (some 17) rfl rfl Try.func88 (by kernel_rfl) rfl #[.pointer (some ⟨g313, 0, none⟩), .int .i64 20] rfl (by (try simp only [List.map_toArray, List.map_cons, List.map_nil]); first | done | rfl | (simp only [List.length_drop, List.length_take]; rfl)) ?_; (with_reducible refine (spec_l1Below.calls g313 t310 t327 t328 20 t330 t331 t332 w _ ?side1 ?side2 A5.out).mono ?_); (case side1 => repeat (first | (with_reducible first | exact HI313.out | apply IsS113.alloc | apply IsS113.drewN | apply IsS113.drew | apply IsS113.set_1 | apply IsS113.set_2 | refine IsS113.far ?_ NB313_308.out _ | refine IsS113.far ?_ NB313_309.out _ | refine IsS113.far ?_ NB313_321.out _ | refine IsS113.far ?_ NB313_329.out _) | exact HI313.out)); (case side2 => repeat (first | (with_reducible first | exact HB.out | apply q1g | apply q2g | apply q3g | refine q4g ?_ (IsS113.ge HI313.out) | refine q4g ?_ GE308.out | refine q4g ?_ GE309.out | refine q4g ?_ GE321.out | refine q4g ?_ GE329.out) | exact HB.out)); rintro e w24 ⟨rfl, hi, hb, hk⟩; refine ⟨_, rfl, ?_⟩; have n0_ := qgg (KeepBut.blk hk (g' := gb308) (o := .cells #[.int .i64 0, .int .i64 0, .int .i64 0, .int .i64 0, .int .i64 0] 28 (0, 0)) (by (with_reducible repeat (first | refine q5g ?_ _ | refine q6g ?_ | refine q7g ?_ _)); refine qeg ?_ NB308_329.out _; (with_reducible repeat (first | refine q5g ?_ _ | refine q6g ?_ | refine q7g ?_ _)); refine qeg ?_ NB308_329.out _; (with_reducible repeat (first | refine q5g ?_ _ | refine q6g ?_ | refine q7g ?_ _)); refine qeg ?_ NB308_329.out _; (with_reducible repeat (first | refine q5g ?_ _ | refine q6g ?_ | refine q7g ?_ _)); refine qeg ?_ NB308_329.out _; (with_reducible repeat (first | refine q5g ?_ _ | refine q6g ?_ | refine q7g ?_ _)); refine qeg ?_ NB308_329.out _; (with_reducible repeat (first | refine q5g ?_ _ | refine q6g ?_ | refine q7g ?_ _)); exact BK308.out) NB308_313.out (by simp)); have n1_ := qgg (KeepBut.blk hk (g' := gb309) (o := .cells #[.int .i64 0, .int .i64 0, .int .i64 0, .int .i64 0, .int .i64 0] 28 (0, 0)) (by (with_reducible repeat (first | refine q5g ?_ _ | refine q6g ?_ | refine q7g ?_ _)); refine qeg ?_ NB309_329.out _; (with_reducible repeat (first | refine q5g ?_ _ | refine q6g ?_ | refine q7g ?_ _)); refine qeg ?_ NB309_329.out _; (with_reducible repeat (first | refine q5g ?_ _ | refine q6g ?_ | refine q7g ?_ _)); refine qeg ?_ NB309_329.out _; (with_reducible repeat (first | refine q5g ?_ _ | refine q6g ?_ | refine q7g ?_ _)); refine qeg ?_ NB309_329.out _; (with_reducible repeat (first | refine q5g ?_ _ | refine q6g ?_ | refine q7g ?_ _)); refine qeg ?_ NB309_329.out _; (with_reducible repeat (first | refine q5g ?_ _ | refine q6g ?_ | refine q7g ?_ _)); exact BK309.out) NB309_313.out (by simp)); have n2_ := qgg (KeepBut.blk hk (g' := gb321) (o := .cells #[.int .i64 t314, .int .i64 t315, .int .i64 t316, .int .i64 t317, .int .i64 t318] 28 (0, 0)) (by (with_reducible repeat (first | refine q5g ?_ _ | refine q6g ?_ | refine q7g ?_ _)); refine qeg ?_ NB321_329.out _; (with_reducible repeat (first | refine q5g ?_ _ | refine q6g ?_ | refine q7g ?_ _)); refine qeg ?_ NB321_329.out _; (with_reducible repeat (first | refine q5g ?_ _ | refine q6g ?_ | refine q7g ?_ _)); refine qeg ?_ NB321_329.out _; (with_reducible repeat (first | refine q5g ?_ _ | refine q6g ?_ | refine q7g ?_ _)); refine qeg ?_ NB321_329.out _; (with_reducible repeat (first | refine q5g ?_ _ | refine q6g ?_ | refine q7g ?_ _)); refine qeg ?_ NB321_329.out _; (with_reducible repeat (first | refine q5g ?_ _ | refine q6g ?_ | refine q7g ?_ _)); exact BK321.out) NB321_313.out (by simp)); have n3_ := qgg (KeepBut.blk hk (g' := gb329) (o := .cells #[.int .i64 t322, .int .i64 t323, .int .i64 t324, .int .i64 t325, .int .i64 t326] 28 (0, 0)) (by (with_reducible repeat (first | refine q5g ?_ _ | refine q6g ?_ | refine q7g ?_ _)); refine qfg (cs := #[.int .i64 t322, .int .i64 t323, .int .i64 t324, .int .i64 t325, .int .i64 0]) ?_ 4 _ rfl; (with_reducible repeat (first | refine q5g ?_ _ | refine q6g ?_ | refine q7g ?_ _)); refine qfg (cs := #[.int .i64 t322, .int .i64 t323, .int .i64 t324, .int .i64 0, .int .i64 0]) ?_ 3 _ rfl; (with_reducible repeat (first | refine q5g ?_ _ | refine q6g ?_ | refine q7g ?_ _)); refine qfg (cs := #[.int .i64 t322, .int .i64 t323, .int .i64 0, .int .i64 0, .int .i64 0]) ?_ 2 _ rfl; (with_reducible repeat (first | refine q5g ?_ _ | refine q6g ?_ | refine q7g ?_ _)); refine qfg (cs := #[.int .i64 t322, .int .i64 0, .int .i64 0, .int .i64 0, .int .i64 0]) ?_ 1 _ rfl; (with_reducible repeat (first | refine q5g ?_ _ | refine q6g ?_ | refine q7g ?_ _)); refine qfg (cs := #[.int .i64 0, .int .i64 0, .int .i64 0, .int .i64 0, .int .i64 0]) ?_ 0 _ rfl; (with_reducible repeat (first | refine q5g ?_ _ | refine q6g ?_ | refine q7g ?_ _)); exact BK329.out) NB329_313.out (by simp)); have n4_ := qgg (hb); have n5_ := qgg (hi); clear BK308; clear BK309; clear BK321; clear BK329; clear HB; clear HI313; have BK308 := n0_; have BK309 := n1_; have BK321 := n2_; have BK329 := n3_; have HB := n4_; have HI313 := n5_; clear n0_ n1_ n2_ n3_ n4_ n5_; (try clear hb); (try clear hb2); (try clear hk); (try clear hi); have hcz25_0 : w24.cell? ⟨gb321, 0, none⟩ = some (.int .i64 t314) := (qcg BK321.out 0).trans rfl; have hcz25_1 : w24.cell? ⟨gb321, 1, none⟩ = some (.int .i64 t315) := (qcg BK321.out 1).trans rfl; have hcz25_2 : w24.cell? ⟨gb321, 2, none⟩ = some (.int .i64 t316) := (qcg BK321.out 2).trans rfl; have hcz25_3 : w24.cell? ⟨gb321, 3, none⟩ = some (.int .i64 t317) := (qcg BK321.out 3).trans rfl; have hcz25_4 : w24.cell? ⟨gb321, 4, none⟩ = some (.int .i64 t318) := (qcg BK321.out 4).trans rfl; have hfz25_0 := qbg BK321.out 0; have hfz25_1 := qbg BK321.out 1; have hfz25_2 := qbg BK321.out 2; have hfz25_3 := qbg BK321.out 3; have hfz25_4 := qbg BK321.out 4) | ((with_reducible refine qtg (f := 25) rfl ?_); refine goesL_ (some 21) rfl rfl Try.func25 (by kernel_rfl) rfl #[.agg #[.int .i64 t314, .int .i64 t315, .int .i64 t316, .int .i64 t317, .int .i64 t318], .int .i64 t330] rfl (by (try simp only [List.map_toArray, List.map_cons, List.map_nil]); first | done | rfl | (simp only [List.length_drop, List.length_take]; rfl)) ?_; (with_reducible refine (spec_PlaceAt.calls k t314 t315 t316 t317 t318 t330 t333 t334 t335 _ A6.out).mono ?_); rintro e w26 ⟨rfl, hb⟩; refine ⟨_, rfl, ?_⟩; have n0_ := qgg (q8g (g := gb308) (o := .cells #[.int .i64 0, .int .i64 0, .int .i64 0, .int .i64 0, .int .i64 0] 28 (0, 0)) (by (with_reducible repeat (first | refine q5g ?_ _ | refine q6g ?_ | refine q7g ?_ _)); exact BK308.out) hb); have n1_ := qgg (q8g (g := gb309) (o := .cells #[.int .i64 0, .int .i64 0, .int .i64 0, .int .i64 0, .int .i64 0] 28 (0, 0)) (by (with_reducible repeat (first | refine q5g ?_ _ | refine q6g ?_ | refine q7g ?_ _)); exact BK309.out) hb); have n2_ := qgg (IsS113.below (by repeat (first | (with_reducible first | exact HI313.out | apply IsS113.alloc | apply IsS113.drewN | apply IsS113.drew | apply IsS113.set_1 | apply IsS113.set_2 | refine IsS113.far ?_ NB313_308.out _ | refine IsS113.far ?_ NB313_309.out _ | refine IsS113.far ?_ NB313_321.out _ | refine IsS113.far ?_ NB313_329.out _) | exact HI313.out)) hb); have n3_ := qgg (q8g (g := gb321) (o := .cells #[.int .i64 t314, .int .i64 t315, .int .i64 t316, .int .i64 t317, .int .i64 t318] 28 (0, 0)) (by (with_reducible repeat (first | refine q5g ?_ _ | refine q6g ?_ | refine q7g ?_ _)); exact BK321.out) hb); have n4_ := qgg (q8g (g := gb329) (o := .cells #[.int .i64 t322, .int .i64 t323, .int .i64 t324, .int .i64 t325, .int .i64 t326] 28 (0, 0)) (by (with_reducible repeat (first | refine q5g ?_ _ | refine q6g ?_ | refine q7g ?_ _)); exact BK329.out) hb); have n5_ := qgg (q9g (by repeat (first | (with_reducible first | exact HB.out | apply q1g | apply q2g | apply q3g | refine q4g ?_ (IsS113.ge HI313.out) | refine q4g ?_ GE308.out | refine q4g ?_ GE309.out | refine q4g ?_ GE321.out | refine q4g ?_ GE329.out) | exact HB.out)) hb); clear BK308; clear BK309; clear HI313; clear BK321; clear BK329; clear HB; have BK308 := n0_; have BK309 := n1_; have HI313 := n2_; have BK321 := n3_; have BK329 := n4_; have HB := n5_; clear n0_ n1_ n2_ n3_ n4_ n5_; (try clear hb); (try clear hb2); (try clear hk); (try clear hi)) | ((with_reducible refine qug (N := 8) rfl ?_); refine qhg ?hg (N := 8) ?hd (cs := #[.int .i64 0, .int .i64 0]) (t := 26) ?hr ?_; (case hd => rfl); (case hg => rfl); (case hr => first | (go_simp; done) | (go_simp; rfl)); intro gb336 hg w27 hbox hb; have n0_ := qgg (q8g (g := gb308) (o := .cells #[.int .i64 0, .int .i64 0, .int .i64 0, .int .i64 0, .int .i64 0] 28 (0, 0)) (by (with_reducible repeat (first | refine q5g ?_ _ | refine q6g ?_ | refine q7g ?_ _)); exact BK308.out) hb); have n1_ := qgg (q8g (g := gb309) (o := .cells #[.int .i64 0, .int .i64 0, .int .i64 0, .int .i64 0, .int .i64 0] 28 (0, 0)) (by (with_reducible repeat (first | refine q5g ?_ _ | refine q6g ?_ | refine q7g ?_ _)); exact BK309.out) hb); have n2_ := qgg (IsS113.below (by repeat (first | (with_reducible first | exact HI313.out | apply IsS113.alloc | apply IsS113.drewN | apply IsS113.drew | apply IsS113.set_1 | apply IsS113.set_2 | refine IsS113.far ?_ NB313_308.out _ | refine IsS113.far ?_ NB313_309.out _ | refine IsS113.far ?_ NB313_321.out _ | refine IsS113.far ?_ NB313_329.out _) | exact HI313.out)) hb); have n3_ := qgg (q8g (g := gb321) (o := .cells #[.int .i64 t314, .int .i64 t315, .int .i64 t316, .int .i64 t317, .int .i64 t318] 28 (0, 0)) (by (with_reducible repeat (first | refine q5g ?_ _ | refine q6g ?_ | refine q7g ?_ _)); exact BK321.out) hb); have n4_ := qgg (q8g (g := gb329) (o := .cells #[.int .i64 t322, .int .i64 t323, .int .i64 t324, .int .i64 t325, .int .i64 t326] 28 (0, 0)) (by (with_reducible repeat (first | refine q5g ?_ _ | refine q6g ?_ | refine q7g ?_ _)); exact BK329.out) hb); have n5_ := qgg (q9g (by repeat (first | (with_reducible first | exact HB.out | apply q1g | apply q2g | apply q3g | refine q4g ?_ (IsS113.ge HI313.out) | refine q4g ?_ GE308.out | refine q4g ?_ GE309.out | refine q4g ?_ GE321.out | refine q4g ?_ GE329.out) | exact HB.out)) hb); have n6_ := qgg (hbox); have n7_ := qgg ((by rw [hg]; exact (qag (by repeat (first | (with_reducible first | exact HB.out | apply q1g | apply q2g | apply q3g | refine q4g ?_ (IsS113.ge HI313.out) | refine q4g ?_ GE308.out | refine q4g ?_ GE309.out | refine q4g ?_ GE321.out | refine q4g ?_ GE329.out) | exact HB.out))) : w.heap.size ≤ gb336)); have n8_ := qgg ((by rw [hg]; exact (qag (by repeat (first | (with_reducible first | exact HB.out | apply q1g | apply q2g | apply q3g | refine q4g ?_ (IsS113.ge HI313.out) | refine q4g ?_ GE308.out | refine q4g ?_ GE309.out | refine q4g ?_ GE321.out | refine q4g ?_ GE329.out) | exact HB.out))) : w.heap.size ≤ gb336)); have n9_ := qgg ((by rw [hg]; exact qvg (qdg (g := gb308) (o := .cells #[.int .i64 0, .int .i64 0, .int .i64 0, .int .i64 0, .int .i64 0] 28 (0, 0)) (by (with_reducible repeat (first | refine q5g ?_ _ | refine q6g ?_ | refine q7g ?_ _)); exact BK308.out)) : gb308 ≠ gb336)); have n10_ := qgg ((by rw [hg]; exact qwg (qdg (g := gb308) (o := .cells #[.int .i64 0, .int .i64 0, .int .i64 0, .int .i64 0, .int .i64 0] 28 (0, 0)) (by (with_reducible repeat (first | refine q5g ?_ _ | refine q6g ?_ | refine q7g ?_ _)); exact BK308.out)) : gb336 ≠ gb308)); have n11_ := qgg ((by rw [hg]; exact qvg (qdg (g := gb309) (o := .cells #[.int .i64 0, .int .i64 0, .int .i64 0, .int .i64 0, .int .i64 0] 28 (0, 0)) (by (with_reducible repeat (first | refine q5g ?_ _ | refine q6g ?_ | refine q7g ?_ _)); exact BK309.out)) : gb309 ≠ gb336)); have n12_ := qgg ((by rw [hg]; exact qwg (qdg (g := gb309) (o := .cells #[.int .i64 0, .int .i64 0, .int .i64 0, .int .i64 0, .int .i64 0] 28 (0, 0)) (by (with_reducible repeat (first | refine q5g ?_ _ | refine q6g ?_ | refine q7g ?_ _)); exact BK309.out)) : gb336 ≠ gb309)); have n13_ := qgg ((by rw [hg]; exact qvg (qdg (g := gb321) (o := .cells #[.int .i64 t314, .int .i64 t315, .int .i64 t316, .int .i64 t317, .int .i64 t318] 28 (0, 0)) (by (with_reducible repeat (first | refine q5g ?_ _ | refine q6g ?_ | refine q7g ?_ _)); exact BK321.out)) : gb321 ≠ gb336)); have n14_ := qgg ((by rw [hg]; exact qwg (qdg (g := gb321) (o := .cells #[.int .i64 t314, .int .i64 t315, .int .i64 t316, .int .i64 t317, .int .i64 t318] 28 (0, 0)) (by (with_reducible repeat (first | refine q5g ?_ _ | refine q6g ?_ | refine q7g ?_ _)); exact BK321.out)) : gb336 ≠ gb321)); have n15_ := qgg ((by rw [hg]; exact qvg (qdg (g := gb329) (o := .cells #[.int .i64 t322, .int .i64 t323, .int .i64 t324, .int .i64 t325, .int .i64 t326] 28 (0, 0)) (by (with_reducible repeat (first | refine q5g ?_ _ | refine q6g ?_ | refine q7g ?_ _)); exact BK329.out)) : gb329 ≠ gb336)); have n16_ := qgg ((by rw [hg]; exact qwg (qdg (g := gb329) (o := .cells #[.int .i64 t322, .int .i64 t323, .int .i64 t324, .int .i64 t325, .int .i64 t326] 28 (0, 0)) (by (with_reducible repeat (first | refine q5g ?_ _ | refine q6g ?_ | refine q7g ?_ _)); exact BK329.out)) : gb336 ≠ gb329)); have n17_ := qgg ((by rw [hg]; exact qvg (IsS113.lt (show IsS113 w _ g313 t310 t331 t332 from by repeat (first | (with_reducible first | exact HI313.out | apply IsS113.alloc | apply IsS113.drewN | apply IsS113.drew | apply IsS113.set_1 | apply IsS113.set_2 | refine IsS113.far ?_ NB313_308.out _ | refine IsS113.far ?_ NB313_309.out _ | refine IsS113.far ?_ NB313_321.out _ | refine IsS113.far ?_ NB313_329.out _) | exact HI313.out))) : g313 ≠ gb336)); have n18_ := qgg ((by rw [hg]; exact qwg (IsS113.lt (show IsS113 w _ g313 t310 t331 t332 from by repeat (first | (with_reducible first | exact HI313.out | apply IsS113.alloc | apply IsS113.drewN | apply IsS113.drew | apply IsS113.set_1 | apply IsS113.set_2 | refine IsS113.far ?_ NB313_308.out _ | refine IsS113.far ?_ NB313_309.out _ | refine IsS113.far ?_ NB313_321.out _ | refine IsS113.far ?_ NB313_329.out _) | exact HI313.out))) : gb336 ≠ g313)); clear BK308; clear BK309; clear HI313; clear BK321; clear BK329; clear HB; have BK308 := n0_; have BK309 := n1_; have HI313 := n2_; have BK321 := n3_; have BK329 := n4_; have HB := n5_; have BK336 := n6_; have GW336 := n7_; have GE336 := n8_; have NB308_336 := n9_; have NB336_308 := n10_; have NB309_336 := n11_; have NB336_309 := n12_; have NB321_336 := n13_; have NB336_321 := n14_; have NB329_336 := n15_; have NB336_329 := n16_; have NB313_336 := n17_; have NB336_313 := n18_; clear n0_ n1_ n2_ n3_ n4_ n5_ n6_ n7_ n8_ n9_ n10_ n11_ n12_ n13_ n14_ n15_ n16_ n17_ n18_; clear hb hbox hg; have hnb28 := NB336_308.out; have hnc28 := NB308_336.out; have hnb29 := NB336_309.out; have hnc29 := NB309_336.out; have hnb30 := NB336_321.out; have hnc30 := NB321_336.out; have hnb31 := NB336_329.out; have hnc31 := NB329_336.out; have hnb32 := NB336_313.out; have hnc32 := NB313_336.out; have hcz33_0 : w27.cell? ⟨gb336, 0, none⟩ = some (.int .i64 0) := (qcg BK336.out 0).trans rfl; have hcz33_1 : w27.cell? ⟨gb336, 1, none⟩ = some (.int .i64 0) := (qcg BK336.out 1).trans rfl; have hfz33_0 := qbg BK336.out 0; have hfz33_1 := qbg BK336.out 1))
 (try simp only [Act.put, p1g, p2g, p3g])
 go_cut [29] (fun v29 wc => ∃ (kq : Nat) (x29_6 : Bool), v29 = .bool x29_6 ∧ Aside0 (spec_DrawMeetingsOf.j0 kq t330 x29_6 t314 t315 t316 t317 t318 t322 t323 t324 t325 t326 t333 t334 = some (r1, r2, r3, r4, r5, r6, r7, r8, r9, r10)) ∧ Aside0 (kq ≤ k) ∧ Aside0 (wc.heap[gb308]? = some (.cells #[.int .i64 0, .int .i64 0, .int .i64 0, .int .i64 0, .int .i64 0] 28 (0, 0))) ∧ Aside0 (wc.heap[gb309]? = some (.cells #[.int .i64 0, .int .i64 0, .int .i64 0, .int .i64 0, .int .i64 0] 28 (0, 0))) ∧ Aside0 (wc.heap[gb321]? = some (.cells #[.int .i64 t314, .int .i64 t315, .int .i64 t316, .int .i64 t317, .int .i64 t318] 28 (0, 0))) ∧ Aside0 (wc.heap[gb329]? = some (.cells #[.int .i64 t322, .int .i64 t323, .int .i64 t324, .int .i64 t325, .int .i64 t326] 28 (0, 0))) ∧ Aside0 (wc.heap[gb336]? = some (.cells #[.int .i64 t333, .int .i64 t334] 26 (0, 0))) ∧ Aside0 (Below w.heap.size w wc))
 case first =>
  have H := HC7.out
  clear HC7
  by_cases c34 : t335 = true
  ·subst c34
   have H1 : ((spec_l1Below.f t310 t331 t332 3).bind fun bt337 => (spec_DrawMeetingsOf.j0 k t330 (decide (bt337.1 > 0)) t314 t315 t316 t317 t318 t322 t323 t324 t325 t326 t333 t334)) = some (r1, r2, r3, r4, r5, r6, r7, r8, r9, r10) := by rw [if_pos rfl] at H; exact H
   clear H
   have H := H1
   clear H1
   replace H := Option.bind_eq_some_iff.mp H
   obtain ⟨⟨t337, t338, t339⟩, A350, H⟩ := H
   replace H : (spec_DrawMeetingsOf.j0 k t330 (decide (t337 > 0)) t314 t315 t316 t317 t318 t322 t323 t324 t325 t326 t333 t334) = some (r1, r2, r3, r4, r5, r6, r7, r8, r9, r10) := H
   have A35 := qgg A350
   clear A350
   have H' := qgg H
   clear H
   go_wp2_with (first | (go_at_call 88; (with_reducible refine (spec_l1Below.calls g313 t310 t331 t332 3 t337 t338 t339 w _ ?side1 ?side2 A35.out).mono ?_); (case side1 => repeat (first | (with_reducible first | exact HI313.out | apply IsS113.alloc | apply IsS113.drewN | apply IsS113.drew | apply IsS113.set_1 | apply IsS113.set_2 | refine IsS113.far ?_ NB313_308.out _ | refine IsS113.far ?_ NB313_309.out _ | refine IsS113.far ?_ NB313_321.out _ | refine IsS113.far ?_ NB313_329.out _ | refine IsS113.far ?_ NB313_336.out _) | exact HI313.out)); (case side2 => repeat (first | (with_reducible first | exact HB.out | apply q1g | apply q2g | apply q3g | refine q4g ?_ (IsS113.ge HI313.out) | refine q4g ?_ GE308.out | refine q4g ?_ GE309.out | refine q4g ?_ GE321.out | refine q4g ?_ GE329.out | refine q4g ?_ GE336.out) | exact HB.out)); rintro e w36 ⟨rfl, hi, hb, hk⟩; have n0_ := qgg (KeepBut.blk hk (g' := gb308) (o := .cells #[.int .i64 0, .int .i64 0, .int .i64 0, .int .i64 0, .int .i64 0] 28 (0, 0)) (by (with_reducible repeat (first | refine q5g ?_ _ | refine q6g ?_ | refine q7g ?_ _)); refine qeg ?_ NB308_336.out _; (with_reducible repeat (first | refine q5g ?_ _ | refine q6g ?_ | refine q7g ?_ _)); refine qeg ?_ NB308_336.out _; (with_reducible repeat (first | refine q5g ?_ _ | refine q6g ?_ | refine q7g ?_ _)); exact BK308.out) NB308_313.out (by simp)); have n1_ := qgg (KeepBut.blk hk (g' := gb309) (o := .cells #[.int .i64 0, .int .i64 0, .int .i64 0, .int .i64 0, .int .i64 0] 28 (0, 0)) (by (with_reducible repeat (first | refine q5g ?_ _ | refine q6g ?_ | refine q7g ?_ _)); refine qeg ?_ NB309_336.out _; (with_reducible repeat (first | refine q5g ?_ _ | refine q6g ?_ | refine q7g ?_ _)); refine qeg ?_ NB309_336.out _; (with_reducible repeat (first | refine q5g ?_ _ | refine q6g ?_ | refine q7g ?_ _)); exact BK309.out) NB309_313.out (by simp)); have n2_ := qgg (KeepBut.blk hk (g' := gb321) (o := .cells #[.int .i64 t314, .int .i64 t315, .int .i64 t316, .int .i64 t317, .int .i64 t318] 28 (0, 0)) (by (with_reducible repeat (first | refine q5g ?_ _ | refine q6g ?_ | refine q7g ?_ _)); refine qeg ?_ NB321_336.out _; (with_reducible repeat (first | refine q5g ?_ _ | refine q6g ?_ | refine q7g ?_ _)); refine qeg ?_ NB321_336.out _; (with_reducible repeat (first | refine q5g ?_ _ | refine q6g ?_ | refine q7g ?_ _)); exact BK321.out) NB321_313.out (by simp)); have n3_ := qgg (KeepBut.blk hk (g' := gb329) (o := .cells #[.int .i64 t322, .int .i64 t323, .int .i64 t324, .int .i64 t325, .int .i64 t326] 28 (0, 0)) (by (with_reducible repeat (first | refine q5g ?_ _ | refine q6g ?_ | refine q7g ?_ _)); refine qeg ?_ NB329_336.out _; (with_reducible repeat (first | refine q5g ?_ _ | refine q6g ?_ | refine q7g ?_ _)); refine qeg ?_ NB329_336.out _; (with_reducible repeat (first | refine q5g ?_ _ | refine q6g ?_ | refine q7g ?_ _)); exact BK329.out) NB329_313.out (by simp)); have n4_ := qgg (KeepBut.blk hk (g' := gb336) (o := .cells #[.int .i64 t333, .int .i64 t334] 26 (0, 0)) (by (with_reducible repeat (first | refine q5g ?_ _ | refine q6g ?_ | refine q7g ?_ _)); refine qfg (cs := #[.int .i64 t333, .int .i64 0]) ?_ 1 _ rfl; (with_reducible repeat (first | refine q5g ?_ _ | refine q6g ?_ | refine q7g ?_ _)); refine qfg (cs := #[.int .i64 0, .int .i64 0]) ?_ 0 _ rfl; (with_reducible repeat (first | refine q5g ?_ _ | refine q6g ?_ | refine q7g ?_ _)); exact BK336.out) NB336_313.out (by simp)); have n5_ := qgg (hb); have n6_ := qgg (hi); clear BK308; clear BK309; clear BK321; clear BK329; clear BK336; clear HB; clear HI313; have BK308 := n0_; have BK309 := n1_; have BK321 := n2_; have BK329 := n3_; have BK336 := n4_; have HB := n5_; have HI313 := n6_; clear n0_ n1_ n2_ n3_ n4_ n5_ n6_; (try clear hb); (try clear hb2); (try clear hk); (try clear hi)))
   go_meet
   case rel => exact ⟨_, (decide (t337 > 0)), (by first | rfl | (simp; done) | (simp [*]; done)), H', ⟨by first | omega | exact Nat.le_refl _⟩, ⟨by (with_reducible repeat (first | refine q5g ?_ _ | refine q6g ?_ | refine q7g ?_ _)); exact BK308.out⟩, ⟨by (with_reducible repeat (first | refine q5g ?_ _ | refine q6g ?_ | refine q7g ?_ _)); exact BK309.out⟩, ⟨by (with_reducible repeat (first | refine q5g ?_ _ | refine q6g ?_ | refine q7g ?_ _)); exact BK321.out⟩, ⟨by (with_reducible repeat (first | refine q5g ?_ _ | refine q6g ?_ | refine q7g ?_ _)); exact BK329.out⟩, ⟨by (with_reducible repeat (first | refine q5g ?_ _ | refine q6g ?_ | refine q7g ?_ _)); exact BK336.out⟩, ⟨by repeat (first | (with_reducible first | exact HB.out | apply q1g | apply q2g | apply q3g | refine q4g ?_ (IsS113.ge HI313.out) | refine q4g ?_ GE308.out | refine q4g ?_ GE309.out | refine q4g ?_ GE321.out | refine q4g ?_ GE329.out | refine q4g ?_ GE336.out) | exact HB.out)⟩⟩
  ·replace c34 := Bool.eq_false_iff.mpr c34
   subst c34
   have H1 : (spec_DrawMeetingsOf.j0 k t330 false t314 t315 t316 t317 t318 t322 t323 t324 t325 t326 t333 t334) = some (r1, r2, r3, r4, r5, r6, r7, r8, r9, r10) := by rw [if_neg (show ¬ (false = true) by decide)] at H; exact H
   clear H
   have H := H1
   clear H1
   have H' := qgg H
   clear H
   go_wp2
   go_meet
   case rel => exact ⟨_, (false), (by first | rfl | (simp; done) | (simp [*]; done)), H', ⟨by first | omega | exact Nat.le_refl _⟩, ⟨by (with_reducible repeat (first | refine q5g ?_ _ | refine q6g ?_ | refine q7g ?_ _)); refine qeg ?_ NB308_336.out _; (with_reducible repeat (first | refine q5g ?_ _ | refine q6g ?_ | refine q7g ?_ _)); refine qeg ?_ NB308_336.out _; (with_reducible repeat (first | refine q5g ?_ _ | refine q6g ?_ | refine q7g ?_ _)); exact BK308.out⟩, ⟨by (with_reducible repeat (first | refine q5g ?_ _ | refine q6g ?_ | refine q7g ?_ _)); refine qeg ?_ NB309_336.out _; (with_reducible repeat (first | refine q5g ?_ _ | refine q6g ?_ | refine q7g ?_ _)); refine qeg ?_ NB309_336.out _; (with_reducible repeat (first | refine q5g ?_ _ | refine q6g ?_ | refine q7g ?_ _)); exact BK309.out⟩, ⟨by (with_reducible repeat (first | refine q5g ?_ _ | refine q6g ?_ | refine q7g ?_ _)); refine qeg ?_ NB321_336.out _; (with_reducible repeat (first | refine q5g ?_ _ | refine q6g ?_ | refine q7g ?_ _)); refine qeg ?_ NB321_336.out _; (with_reducible repeat (first | refine q5g ?_ _ | refine q6g ?_ | refine q7g ?_ _)); exact BK321.out⟩, ⟨by (with_reducible repeat (first | refine q5g ?_ _ | refine q6g ?_ | refine q7g ?_ _)); refine qeg ?_ NB329_336.out _; (with_reducible repeat (first | refine q5g ?_ _ | refine q6g ?_ | refine q7g ?_ _)); refine qeg ?_ NB329_336.out _; (with_reducible repeat (first | refine q5g ?_ _ | refine q6g ?_ | refine q7g ?_ _)); exact BK329.out⟩, ⟨by (with_reducible repeat (first | refine q5g ?_ _ | refine q6g ?_ | refine q7g ?_ _)); refine qfg (cs := #[.int .i64 t333, .int .i64 0]) ?_ 1 _ rfl; (with_reducible repeat (first | refine q5g ?_ _ | refine q6g ?_ | refine q7g ?_ _)); refine qfg (cs := #[.int .i64 0, .int .i64 0]) ?_ 0 _ rfl; (with_reducible repeat (first | refine q5g ?_ _ | refine q6g ?_ | refine q7g ?_ _)); exact BK336.out⟩, ⟨by repeat (first | (with_reducible first | exact HB.out | apply q1g | apply q2g | apply q3g | refine q4g ?_ (IsS113.ge HI313.out) | refine q4g ?_ GE308.out | refine q4g ?_ GE309.out | refine q4g ?_ GE321.out | refine q4g ?_ GE329.out | refine q4g ?_ GE336.out) | exact HB.out)⟩⟩
 case rest =>
  clear HC7
  try clear c1
  try clear c2
  try clear p2
  try clear c3
  try clear c5
  try clear c8
  try clear c13
  try clear c14
  try clear c15
  try clear c19
  try clear c20
  try clear c21
  try clear c22
  try clear c25
  try clear c28
  try clear c29
  try clear c30
  try clear c31
  try clear c32
  try clear c34
  try clear hcz16_0
  try clear hcz16_1
  try clear hcz16_2
  try clear hcz16_3
  try clear hcz16_4
  try clear hcz23_0
  try clear hcz23_1
  try clear hcz23_2
  try clear hcz23_3
  try clear hcz23_4
  try clear hcz25_0
  try clear hcz25_1
  try clear hcz25_2
  try clear hcz25_3
  try clear hcz25_4
  try clear hcz33_0
  try clear hcz33_1
  try clear hfz16_0
  try clear hfz16_1
  try clear hfz16_2
  try clear hfz16_3
  try clear hfz16_4
  try clear hfz23_0
  try clear hfz23_1
  try clear hfz23_2
  try clear hfz23_3
  try clear hfz23_4
  try clear hfz25_0
  try clear hfz25_1
  try clear hfz25_2
  try clear hfz25_3
  try clear hfz25_4
  try clear hfz33_0
  try clear hfz33_1
  obtain ⟨kq, x29_6, rfl, HA, HJ6, BK308, BK309, BK321, BK329, BK336, HB⟩ := hcut
  cases kq with
  | zero => exact absurd HA.out (by simp [spec_DrawMeetingsOf.j0])
  | succ kj6 =>
   have H := HA.out
   clear HA
   simp only [spec_DrawMeetingsOf.j0] at H
   by_cases c37 : x29_6 = true
   ·subst c37
    have H1 : ((spec_l2Turn.f kj6 (wrap64 ((wrap64 (-t330)) * t317)) 0 (wrap64 (t316 + 1))).bind fun bt340 => ((spec_l2Add.f t333 t334 bt340.1 bt340.2).bind fun bt342 => ((spec_l2Mod.f (wrap64 (t316 + 1))).bind fun t344 => (some (t314, t315, t316, t317, t318, bt342.1, bt342.2, t344, t317, t318))))) = some (r1, r2, r3, r4, r5, r6, r7, r8, r9, r10) := by rw [if_pos rfl] at H; exact H
    clear H
    have H := H1
    clear H1
    replace H := Option.bind_eq_some_iff.mp H
    obtain ⟨⟨t340, t341⟩, A380, H⟩ := H
    replace H : ((spec_l2Add.f t333 t334 t340 t341).bind fun bt342 => ((spec_l2Mod.f (wrap64 (t316 + 1))).bind fun t344 => (some (t314, t315, t316, t317, t318, bt342.1, bt342.2, t344, t317, t318)))) = some (r1, r2, r3, r4, r5, r6, r7, r8, r9, r10) := H
    have A38 := qgg A380
    clear A380
    replace H := Option.bind_eq_some_iff.mp H
    obtain ⟨⟨t342, t343⟩, A390, H⟩ := H
    replace H : ((spec_l2Mod.f (wrap64 (t316 + 1))).bind fun t344 => (some (t314, t315, t316, t317, t318, t342, t343, t344, t317, t318))) = some (r1, r2, r3, r4, r5, r6, r7, r8, r9, r10) := H
    have A39 := qgg A390
    clear A390
    replace H := Option.bind_eq_some_iff.mp H
    obtain ⟨t344, A400, H⟩ := H
    replace H : (some (t314, t315, t316, t317, t318, t342, t343, t344, t317, t318)) = some (r1, r2, r3, r4, r5, r6, r7, r8, r9, r10) := H
    have A40 := qgg A400
    clear A400
    simp only [Option.some.injEq, Prod.mk.injEq] at H
    obtain ⟨rfl, rfl, rfl, rfl, rfl, rfl, rfl, rfl, rfl, rfl⟩ := H
    try go_wp2
    have n0_ := qgg (q6g BK308.out)
    have n1_ := qgg (q6g BK309.out)
    have n2_ := qgg (q6g BK321.out)
    have n3_ := qgg (q6g BK329.out)
    have n4_ := qgg (q6g BK336.out)
    have n5_ := qgg (q3g HB.out)
    clear BK308
    clear BK309
    clear BK321
    clear BK329
    clear BK336
    clear HB
    have BK308 := n0_
    have BK309 := n1_
    have BK321 := n2_
    have BK329 := n3_
    have BK336 := n4_
    have HB := n5_
    clear n0_ n1_ n2_ n3_ n4_ n5_
    refine start_ (n := 22) (S := fun w' => w'.cell? ⟨gb336, 0, none⟩ = some (.int .i64 t333) ∧ w'.cell? ⟨gb336, 1, none⟩ = some (.int .i64 t334) ∧ w'.cell? ⟨gb321, 0, none⟩ = some (.int .i64 t314) ∧ w'.cell? ⟨gb321, 1, none⟩ = some (.int .i64 t315) ∧ w'.cell? ⟨gb321, 2, none⟩ = some (.int .i64 t316) ∧ w'.cell? ⟨gb321, 3, none⟩ = some (.int .i64 t317) ∧ w'.cell? ⟨gb321, 4, none⟩ = some (.int .i64 t318)) (ds := []) #[false, false, false, false, false, false, false, false, false, false, false, false, false, false, false, false, false, false, false, false, false, false] (by kernel_rfl) rfl rfl ⟨(qcg BK336.out 0).trans rfl, (qcg BK336.out 1).trans rfl, (qcg BK321.out 0).trans rfl, (qcg BK321.out 1).trans rfl, (qcg BK321.out 2).trans rfl, (qcg BK321.out 3).trans rfl, (qcg BK321.out 4).trans rfl⟩ (fun hHeld => ?_); refine with_tabW spec_DrawMeetingsOf.tab7 spec_DrawMeetingsOf.bits7 (fun HT_ HW_ => ?_)
    generalize wc.drew = w41 at BK308 BK309 BK321 BK329 BK336 HB hHeld ⊢
    refine pure_ (i := 1) (N := some 31) (v := ?_) (a' := ?_) #[false, true, false, false, false, false, false, false, false, false, false, false, false, false, false, false, false, false, false, false, false, false] rfl rfl (any_of HT_.out (by kernel_rfl)) (fun _ _ _ h => h) (Or.inl ⟨by rfl, ?_⟩) ?_ ?_
    rotate_left
    ·intro w'
     go_simp
     with_reducible rfl
    rotate_left
    ·simp only [Act.put, p1g, p2g, p3g, i64_w, i32_w]
     rfl
    refine pure_ (i := 2) (N := some 32) (v := ?_) (a' := ?_) #[false, true, true, false, false, false, false, false, false, false, false, false, false, false, false, false, false, false, false, false, false, false] rfl rfl (any_of HT_.out (by kernel_rfl)) (fun _ _ _ h => h) (Or.inl ⟨by rfl, ?_⟩) ?_ ?_
    rotate_left
    ·intro w'
     go_simp
     with_reducible rfl
    rotate_left
    ·simp only [Act.put, p1g, p2g, p3g, i64_w, i32_w]
     rfl
    refine pure_ (i := 3) (N := some 33) (v := ?_) (a' := ?_) #[false, true, true, true, false, false, false, false, false, false, false, false, false, false, false, false, false, false, false, false, false, false] rfl rfl (any_of HT_.out (by kernel_rfl)) (fun _ _ _ h => h) (Or.inl ⟨by rfl, ?_⟩) ?_ ?_
    rotate_left
    ·intro w'
     go_simp
     with_reducible rfl
    rotate_left
    ·simp only [Act.put, p1g, p2g, p3g, i64_w, i32_w]
     rfl
    refine pure_ (i := 7) (N := some 37) (v := ?_) (a' := ?_) #[false, true, true, true, false, false, false, true, false, false, false, false, false, false, false, false, false, false, false, false, false, false] rfl rfl (any_of HT_.out (by kernel_rfl)) (fun _ _ _ h => h) (Or.inl ⟨by rfl, ?_⟩) ?_ ?_
    rotate_left
    ·intro w'
     go_simp
     with_reducible rfl
    rotate_left
    ·simp only [Act.put, p1g, p2g, p3g, i64_w, i32_w]
     rfl
    refine pure_ (i := 12) (N := some 42) (v := ?_) (a' := ?_) #[false, true, true, true, false, false, false, true, false, false, false, false, true, false, false, false, false, false, false, false, false, false] rfl rfl (any_of HT_.out (by kernel_rfl)) (fun _ _ _ h => h) (Or.inl ⟨by rfl, ?_⟩) ?_ ?_
    rotate_left
    ·intro w'
     go_simp
     with_reducible rfl
    rotate_left
    ·simp only [Act.put, p1g, p2g, p3g, i64_w, i32_w]
     rfl
    refine pure_ (i := 16) (N := some 46) (v := ?_) (a' := ?_) #[false, true, true, true, false, false, false, true, false, false, false, false, true, false, false, false, true, false, false, false, false, false] rfl rfl (any_of HT_.out (by kernel_rfl)) (fun _ _ _ h => h) (Or.inl ⟨by rfl, ?_⟩) ?_ ?_
    rotate_left
    ·intro w'
     go_simp
     with_reducible rfl
    rotate_left
    ·simp only [Act.put, p1g, p2g, p3g, i64_w, i32_w]
     rfl
    refine pure_ (i := 18) (N := some 48) (v := ?_) (a' := ?_) #[false, true, true, true, false, false, false, true, false, false, false, false, true, false, false, false, true, false, true, false, false, false] rfl rfl (any_of HT_.out (by kernel_rfl)) (fun _ _ _ h => h) (Or.inl ⟨by rfl, ?_⟩) ?_ ?_
    rotate_left
    ·intro w'
     go_simp
     with_reducible rfl
    rotate_left
    ·simp only [Act.put, p1g, p2g, p3g, i64_w, i32_w]
     rfl
    refine take_ (i := 0) (N := some 30) (v := ?_) (a' := ?_) #[true, true, true, true, false, false, false, true, false, false, false, false, true, false, false, false, true, false, true, false, false, false] rfl rfl (take_ofW HT_.out HW_.out (by kernel_rfl)) (fun _ _ _ h => h) (Or.inl ⟨by rfl, ?_⟩) hHeld ?_ ?_
    rotate_left
    ·rintro w' ⟨s0, s1, s2, s3, s4, s5, s6⟩
     go_simp
     with_reducible rfl
    rotate_left
    ·simp only [Act.put, p1g, p2g, p3g, i64_w, i32_w]
     rfl
    refine take_ (i := 4) (N := some 34) (v := ?_) (a' := ?_) #[true, true, true, true, true, false, false, true, false, false, false, false, true, false, false, false, true, false, true, false, false, false] rfl rfl (take_ofW HT_.out HW_.out (by kernel_rfl)) (fun _ _ _ h => h) (Or.inl ⟨by rfl, ?_⟩) hHeld ?_ ?_
    rotate_left
    ·rintro w' ⟨s0, s1, s2, s3, s4, s5, s6⟩
     go_simp
     with_reducible rfl
    rotate_left
    ·simp only [Act.put, p1g, p2g, p3g, i64_w, i32_w]
     rfl
    refine pure_ (i := 5) (N := some 35) (v := ?_) (a' := ?_) #[true, true, true, true, true, true, false, true, false, false, false, false, true, false, false, false, true, false, true, false, false, false] rfl rfl (any_of HT_.out (by kernel_rfl)) (fun _ _ _ h => h) (Or.inl ⟨by rfl, ?_⟩) ?_ ?_
    rotate_left
    ·intro w'
     go_simp
     with_reducible rfl
    rotate_left
    ·simp only [Act.put, p1g, p2g, p3g, i64_w, i32_w]
     rfl
    refine pure_ (i := 6) (N := some 36) (v := ?_) (a' := ?_) #[true, true, true, true, true, true, true, true, false, false, false, false, true, false, false, false, true, false, true, false, false, false] rfl rfl (any_of HT_.out (by kernel_rfl)) (fun _ _ _ h => h) (Or.inl ⟨by rfl, ?_⟩) ?_ ?_
    rotate_left
    ·intro w'
     go_simp
     with_reducible rfl
    rotate_left
    ·simp only [Act.put, p1g, p2g, p3g, i64_w, i32_w]
     rfl
    refine take_ (i := 8) (N := some 38) (v := ?_) (a' := ?_) #[true, true, true, true, true, true, true, true, true, false, false, false, true, false, false, false, true, false, true, false, false, false] rfl rfl (take_ofW HT_.out HW_.out (by kernel_rfl)) (fun _ _ _ h => h) (Or.inl ⟨by rfl, ?_⟩) hHeld ?_ ?_
    rotate_left
    ·rintro w' ⟨s0, s1, s2, s3, s4, s5, s6⟩
     go_simp
     with_reducible rfl
    rotate_left
    ·simp only [Act.put, p1g, p2g, p3g, i64_w, i32_w]
     rfl
    refine pure_ (i := 9) (N := some 39) (v := ?_) (a' := ?_) #[true, true, true, true, true, true, true, true, true, true, false, false, true, false, false, false, true, false, true, false, false, false] rfl rfl (any_of HT_.out (by kernel_rfl)) (fun _ _ _ h => h) (Or.inl ⟨by rfl, ?_⟩) ?_ ?_
    rotate_left
    ·intro w'
     go_simp
     with_reducible rfl
    rotate_left
    ·simp only [Act.put, p1g, p2g, p3g, i64_w, i32_w]
     rfl
    refine take_ (i := 13) (N := some 43) (v := ?_) (a' := ?_) #[true, true, true, true, true, true, true, true, true, true, false, false, true, true, false, false, true, false, true, false, false, false] rfl rfl (take_ofW HT_.out HW_.out (by kernel_rfl)) (fun _ _ _ h => h) (Or.inl ⟨by rfl, ?_⟩) hHeld ?_ ?_
    rotate_left
    ·rintro w' ⟨s0, s1, s2, s3, s4, s5, s6⟩
     go_simp
     with_reducible rfl
    rotate_left
    ·simp only [Act.put, p1g, p2g, p3g, i64_w, i32_w]
     rfl
    refine pure_ (i := 14) (N := some 44) (v := ?_) (a' := ?_) #[true, true, true, true, true, true, true, true, true, true, false, false, true, true, true, false, true, false, true, false, false, false] rfl rfl (any_of HT_.out (by kernel_rfl)) (fun _ _ _ h => h) (Or.inl ⟨by rfl, ?_⟩) ?_ ?_
    rotate_left
    ·intro w'
     go_simp
     with_reducible rfl
    rotate_left
    ·simp only [Act.put, p1g, p2g, p3g, i64_w, i32_w]
     rfl
    refine take_ (i := 17) (N := some 47) (v := ?_) (a' := ?_) #[true, true, true, true, true, true, true, true, true, true, false, false, true, true, true, false, true, true, true, false, false, false] rfl rfl (take_ofW HT_.out HW_.out (by kernel_rfl)) (fun _ _ _ h => h) (Or.inl ⟨by rfl, ?_⟩) hHeld ?_ ?_
    rotate_left
    ·rintro w' ⟨s0, s1, s2, s3, s4, s5, s6⟩
     go_simp
     with_reducible rfl
    rotate_left
    ·simp only [Act.put, p1g, p2g, p3g, i64_w, i32_w]
     rfl
    refine take_ (i := 19) (N := some 49) (v := ?_) (a' := ?_) #[true, true, true, true, true, true, true, true, true, true, false, false, true, true, true, false, true, true, true, true, false, false] rfl rfl (take_ofW HT_.out HW_.out (by kernel_rfl)) (fun _ _ _ h => h) (Or.inl ⟨by rfl, ?_⟩) hHeld ?_ ?_
    rotate_left
    ·rintro w' ⟨s0, s1, s2, s3, s4, s5, s6⟩
     go_simp
     with_reducible rfl
    rotate_left
    ·simp only [Act.put, p1g, p2g, p3g, i64_w, i32_w]
     rfl
    refine one_ (i := 10) (N := some 40) #[true, true, true, true, true, true, true, true, true, true, true, false, true, true, true, false, true, true, true, true, false, false] rfl rfl (one_of HT_.out (by kernel_rfl)) (by decide) (fun K hK => ?_)
    refine goes_ Try.func62 (by kernel_rfl) rfl #[.agg #[.int .i64 (wrap64 ((wrap64 (-t330)) * t317)), .int .i64 0], .int .i64 (wrap64 (t316 + 1))] (by rfl) rfl rfl (by (try simp only [List.map_toArray, List.map_cons, List.map_nil]); first | done | rfl | (simp only [List.length_drop, List.length_take]; rfl)) ?_
    with_reducible refine (spec_l2Turn.calls kj6 (wrap64 ((wrap64 (-t330)) * t317)) 0 (wrap64 (t316 + 1)) t340 t341 _ A38.out).mono ?_
    rintro e w42 ⟨rfl, hb⟩
    refine ⟨_, rfl, ?_⟩
    have n0_ := qgg (q8g (g := gb308) (o := .cells #[.int .i64 0, .int .i64 0, .int .i64 0, .int .i64 0, .int .i64 0] 28 (0, 0)) (by (with_reducible repeat (first | refine q5g ?_ _ | refine q6g ?_ | refine q7g ?_ _)); exact BK308.out) hb)
    have n1_ := qgg (q8g (g := gb309) (o := .cells #[.int .i64 0, .int .i64 0, .int .i64 0, .int .i64 0, .int .i64 0] 28 (0, 0)) (by (with_reducible repeat (first | refine q5g ?_ _ | refine q6g ?_ | refine q7g ?_ _)); exact BK309.out) hb)
    have n2_ := qgg (q8g (g := gb321) (o := .cells #[.int .i64 t314, .int .i64 t315, .int .i64 t316, .int .i64 t317, .int .i64 t318] 28 (0, 0)) (by (with_reducible repeat (first | refine q5g ?_ _ | refine q6g ?_ | refine q7g ?_ _)); exact BK321.out) hb)
    have n3_ := qgg (q8g (g := gb329) (o := .cells #[.int .i64 t322, .int .i64 t323, .int .i64 t324, .int .i64 t325, .int .i64 t326] 28 (0, 0)) (by (with_reducible repeat (first | refine q5g ?_ _ | refine q6g ?_ | refine q7g ?_ _)); exact BK329.out) hb)
    have n4_ := qgg (q8g (g := gb336) (o := .cells #[.int .i64 t333, .int .i64 t334] 26 (0, 0)) (by (with_reducible repeat (first | refine q5g ?_ _ | refine q6g ?_ | refine q7g ?_ _)); exact BK336.out) hb)
    have n5_ := qgg (q9g (by repeat (first | (with_reducible first | exact HB.out | apply q1g | apply q2g | apply q3g | refine q4g ?_ GE308.out | refine q4g ?_ GE309.out | refine q4g ?_ GE321.out | refine q4g ?_ GE329.out | refine q4g ?_ GE336.out) | exact HB.out)) hb)
    clear BK308
    clear BK309
    clear BK321
    clear BK329
    clear BK336
    clear HB
    have BK308 := n0_
    have BK309 := n1_
    have BK321 := n2_
    have BK329 := n3_
    have BK336 := n4_
    have HB := n5_
    clear n0_ n1_ n2_ n3_ n4_ n5_
    (try clear hb)
    (try clear hb2)
    (try clear hk)
    (try clear hi)
    refine hK.out _ _ ⟨(qcg BK336.out 0).trans rfl, (qcg BK336.out 1).trans rfl, (qcg BK321.out 0).trans rfl, (qcg BK321.out 1).trans rfl, (qcg BK321.out 2).trans rfl, (qcg BK321.out 3).trans rfl, (qcg BK321.out 4).trans rfl⟩ (fun hHeld => ?_)
    clear hK K
    refine norm_ (a' := ?_) ?_ ?_
    rotate_left
    ·show Act.put _ (some 40) _ = _
     simp only [Act.put, p1g, p2g, p3g, i64_w, i32_w]
     rfl
    refine one_ (i := 11) (N := some 41) #[true, true, true, true, true, true, true, true, true, true, true, true, true, true, true, false, true, true, true, true, false, false] rfl rfl (one_of HT_.out (by kernel_rfl)) (by decide) (fun K hK => ?_)
    refine goes_ Try.func89 (by kernel_rfl) rfl #[.agg #[.int .i64 t333, .int .i64 t334], .agg #[.int .i64 t340, .int .i64 t341]] (by rfl) rfl rfl (by (try simp only [List.map_toArray, List.map_cons, List.map_nil]); first | done | rfl | (simp only [List.length_drop, List.length_take]; rfl)) ?_
    with_reducible refine (spec_l2Add.calls t333 t334 t340 t341 t342 t343 _ A39.out).mono ?_
    rintro e w43 ⟨rfl, hb⟩
    refine ⟨_, rfl, ?_⟩
    have n0_ := qgg (q8g (g := gb308) (o := .cells #[.int .i64 0, .int .i64 0, .int .i64 0, .int .i64 0, .int .i64 0] 28 (0, 0)) (by (with_reducible repeat (first | refine q5g ?_ _ | refine q6g ?_ | refine q7g ?_ _)); exact BK308.out) hb)
    have n1_ := qgg (q8g (g := gb309) (o := .cells #[.int .i64 0, .int .i64 0, .int .i64 0, .int .i64 0, .int .i64 0] 28 (0, 0)) (by (with_reducible repeat (first | refine q5g ?_ _ | refine q6g ?_ | refine q7g ?_ _)); exact BK309.out) hb)
    have n2_ := qgg (q8g (g := gb321) (o := .cells #[.int .i64 t314, .int .i64 t315, .int .i64 t316, .int .i64 t317, .int .i64 t318] 28 (0, 0)) (by (with_reducible repeat (first | refine q5g ?_ _ | refine q6g ?_ | refine q7g ?_ _)); exact BK321.out) hb)
    have n3_ := qgg (q8g (g := gb329) (o := .cells #[.int .i64 t322, .int .i64 t323, .int .i64 t324, .int .i64 t325, .int .i64 t326] 28 (0, 0)) (by (with_reducible repeat (first | refine q5g ?_ _ | refine q6g ?_ | refine q7g ?_ _)); exact BK329.out) hb)
    have n4_ := qgg (q8g (g := gb336) (o := .cells #[.int .i64 t333, .int .i64 t334] 26 (0, 0)) (by (with_reducible repeat (first | refine q5g ?_ _ | refine q6g ?_ | refine q7g ?_ _)); exact BK336.out) hb)
    have n5_ := qgg (q9g (by repeat (first | (with_reducible first | exact HB.out | apply q1g | apply q2g | apply q3g | refine q4g ?_ GE308.out | refine q4g ?_ GE309.out | refine q4g ?_ GE321.out | refine q4g ?_ GE329.out | refine q4g ?_ GE336.out) | exact HB.out)) hb)
    clear BK308
    clear BK309
    clear BK321
    clear BK329
    clear BK336
    clear HB
    have BK308 := n0_
    have BK309 := n1_
    have BK321 := n2_
    have BK329 := n3_
    have BK336 := n4_
    have HB := n5_
    clear n0_ n1_ n2_ n3_ n4_ n5_
    (try clear hb)
    (try clear hb2)
    (try clear hk)
    (try clear hi)
    refine hK.out _ _ ⟨(qcg BK336.out 0).trans rfl, (qcg BK336.out 1).trans rfl, (qcg BK321.out 0).trans rfl, (qcg BK321.out 1).trans rfl, (qcg BK321.out 2).trans rfl, (qcg BK321.out 3).trans rfl, (qcg BK321.out 4).trans rfl⟩ (fun hHeld => ?_)
    clear hK K
    refine norm_ (a' := ?_) ?_ ?_
    rotate_left
    ·show Act.put _ (some 41) _ = _
     simp only [Act.put, p1g, p2g, p3g, i64_w, i32_w]
     rfl
    refine one_ (i := 15) (N := some 45) #[true, true, true, true, true, true, true, true, true, true, true, true, true, true, true, true, true, true, true, true, false, false] rfl rfl (one_of HT_.out (by kernel_rfl)) (by decide) (fun K hK => ?_)
    refine goes_ Try.func90 (by kernel_rfl) rfl #[.int .i64 (wrap64 (t316 + 1))] (by rfl) rfl rfl (by (try simp only [List.map_toArray, List.map_cons, List.map_nil]); first | done | rfl | (simp only [List.length_drop, List.length_take]; rfl)) ?_
    with_reducible refine (spec_l2Mod.calls (wrap64 (t316 + 1)) t344 _ A40.out).mono ?_
    rintro e w' ⟨rfl, ⟨nd, rfl⟩⟩
    refine ⟨_, rfl, ?_⟩
    refine hK.out _ _ ⟨(qcg BK336.out 0).trans rfl, (qcg BK336.out 1).trans rfl, (qcg BK321.out 0).trans rfl, (qcg BK321.out 1).trans rfl, (qcg BK321.out 2).trans rfl, (qcg BK321.out 3).trans rfl, (qcg BK321.out 4).trans rfl⟩ (fun hHeld => ?_)
    clear hK K
    refine norm_ (a' := ?_) ?_ ?_
    rotate_left
    ·show Act.put _ (some 45) _ = _
     simp only [Act.put, p1g, p2g, p3g, i64_w, i32_w]
     rfl
    refine pure_ (i := 20) (N := some 50) (v := ?_) (a' := ?_) #[true, true, true, true, true, true, true, true, true, true, true, true, true, true, true, true, true, true, true, true, true, false] rfl rfl (any_of HT_.out (by kernel_rfl)) (fun _ _ _ h => h) (Or.inl ⟨by rfl, ?_⟩) ?_ ?_
    rotate_left
    ·intro w'
     go_simp
     with_reducible rfl
    rotate_left
    ·simp only [Act.put, p1g, p2g, p3g, i64_w, i32_w]
     rfl
    refine one_ (i := 21) (N := none) #[true, true, true, true, true, true, true, true, true, true, true, true, true, true, true, true, true, true, true, true, true, true] rfl rfl (one_of HT_.out (by kernel_rfl)) (by decide) (fun K hK => ?_)
    have hs44 : w43.cell? ⟨gb329, 0, none⟩ = some (.int .i64 t322) := (qcg BK329.out 0).trans rfl
    have hfs44 := qbg BK329.out 0
    have hns44_0 := NB308_329.out
    have hns44_1 := NB309_329.out
    have hns44_2 := NB321_329.out
    have hns44_4 := NB336_329.out
    have hms44_0 := NB329_308.out
    have hms44_1 := NB329_309.out
    have hms44_2 := NB329_321.out
    have hms44_4 := NB329_336.out
    have hs45 : w43.cell? ⟨gb329, 1, none⟩ = some (.int .i64 t323) := (qcg BK329.out 1).trans rfl
    have hfs45 := qbg BK329.out 1
    have hns45_0 := NB308_329.out
    have hns45_1 := NB309_329.out
    have hns45_2 := NB321_329.out
    have hns45_4 := NB336_329.out
    have hms45_0 := NB329_308.out
    have hms45_1 := NB329_309.out
    have hms45_2 := NB329_321.out
    have hms45_4 := NB329_336.out
    have hs46 : w43.cell? ⟨gb329, 2, none⟩ = some (.int .i64 t324) := (qcg BK329.out 2).trans rfl
    have hfs46 := qbg BK329.out 2
    have hns46_0 := NB308_329.out
    have hns46_1 := NB309_329.out
    have hns46_2 := NB321_329.out
    have hns46_4 := NB336_329.out
    have hms46_0 := NB329_308.out
    have hms46_1 := NB329_309.out
    have hms46_2 := NB329_321.out
    have hms46_4 := NB329_336.out
    have hs47 : w43.cell? ⟨gb329, 3, none⟩ = some (.int .i64 t325) := (qcg BK329.out 3).trans rfl
    have hfs47 := qbg BK329.out 3
    have hns47_0 := NB308_329.out
    have hns47_1 := NB309_329.out
    have hns47_2 := NB321_329.out
    have hns47_4 := NB336_329.out
    have hms47_0 := NB329_308.out
    have hms47_1 := NB329_309.out
    have hms47_2 := NB329_321.out
    have hms47_4 := NB329_336.out
    have hs48 : w43.cell? ⟨gb329, 4, none⟩ = some (.int .i64 t326) := (qcg BK329.out 4).trans rfl
    have hfs48 := qbg BK329.out 4
    have hns48_0 := NB308_329.out
    have hns48_1 := NB309_329.out
    have hns48_2 := NB321_329.out
    have hns48_4 := NB336_329.out
    have hms48_0 := NB329_308.out
    have hms48_1 := NB329_309.out
    have hms48_2 := NB329_321.out
    have hms48_4 := NB329_336.out
    refine skip_ (w1 := ?_) (by rfl) rfl ?_ ?_
    rotate_left
    ·go_simp
     rfl
    refine hK.out _ _ ⟨((qig (p := ⟨gb329, _, none⟩) NB336_329.out _).trans (((qig (p := ⟨gb329, _, none⟩) NB336_329.out _).trans (((qig (p := ⟨gb329, _, none⟩) NB336_329.out _).trans (((qig (p := ⟨gb329, _, none⟩) NB336_329.out _).trans (((qig (p := ⟨gb329, _, none⟩) NB336_329.out _).trans (hHeld.1)))))))))), ((qig (p := ⟨gb329, _, none⟩) NB336_329.out _).trans (((qig (p := ⟨gb329, _, none⟩) NB336_329.out _).trans (((qig (p := ⟨gb329, _, none⟩) NB336_329.out _).trans (((qig (p := ⟨gb329, _, none⟩) NB336_329.out _).trans (((qig (p := ⟨gb329, _, none⟩) NB336_329.out _).trans (hHeld.2.1)))))))))), ((qig (p := ⟨gb329, _, none⟩) NB321_329.out _).trans (((qig (p := ⟨gb329, _, none⟩) NB321_329.out _).trans (((qig (p := ⟨gb329, _, none⟩) NB321_329.out _).trans (((qig (p := ⟨gb329, _, none⟩) NB321_329.out _).trans (((qig (p := ⟨gb329, _, none⟩) NB321_329.out _).trans (hHeld.2.2.1)))))))))), ((qig (p := ⟨gb329, _, none⟩) NB321_329.out _).trans (((qig (p := ⟨gb329, _, none⟩) NB321_329.out _).trans (((qig (p := ⟨gb329, _, none⟩) NB321_329.out _).trans (((qig (p := ⟨gb329, _, none⟩) NB321_329.out _).trans (((qig (p := ⟨gb329, _, none⟩) NB321_329.out _).trans (hHeld.2.2.2.1)))))))))), ((qig (p := ⟨gb329, _, none⟩) NB321_329.out _).trans (((qig (p := ⟨gb329, _, none⟩) NB321_329.out _).trans (((qig (p := ⟨gb329, _, none⟩) NB321_329.out _).trans (((qig (p := ⟨gb329, _, none⟩) NB321_329.out _).trans (((qig (p := ⟨gb329, _, none⟩) NB321_329.out _).trans (hHeld.2.2.2.2.1)))))))))), ((qig (p := ⟨gb329, _, none⟩) NB321_329.out _).trans (((qig (p := ⟨gb329, _, none⟩) NB321_329.out _).trans (((qig (p := ⟨gb329, _, none⟩) NB321_329.out _).trans (((qig (p := ⟨gb329, _, none⟩) NB321_329.out _).trans (((qig (p := ⟨gb329, _, none⟩) NB321_329.out _).trans (hHeld.2.2.2.2.2.1)))))))))), ((qig (p := ⟨gb329, _, none⟩) NB321_329.out _).trans (((qig (p := ⟨gb329, _, none⟩) NB321_329.out _).trans (((qig (p := ⟨gb329, _, none⟩) NB321_329.out _).trans (((qig (p := ⟨gb329, _, none⟩) NB321_329.out _).trans (((qig (p := ⟨gb329, _, none⟩) NB321_329.out _).trans (hHeld.2.2.2.2.2.2))))))))))⟩ (fun hHeld => ?_)
    clear hK K
    refine done_ (done_of HT_.out (by kernel_rfl)) ?_
    try go_wp2
    have n0_ : Aside0 (((((((w43.drewN nd).setCell ⟨gb329, 0, none⟩ (.int .i64 t342)).setCell ⟨gb329, 1, none⟩ (.int .i64 t343)).setCell ⟨gb329, 2, none⟩ (.int .i64 t344)).setCell ⟨gb329, 3, none⟩ (.int .i64 t317)).setCell ⟨gb329, 4, none⟩ (.int .i64 t318)).heap[gb308]? = some (.cells #[.int .i64 0, .int .i64 0, .int .i64 0, .int .i64 0, .int .i64 0] 28 (0, 0))) := ⟨by (with_reducible repeat (first | refine q5g ?_ _ | refine q6g ?_ | refine q7g ?_ _)); refine qeg ?_ NB308_329.out _; (with_reducible repeat (first | refine q5g ?_ _ | refine q6g ?_ | refine q7g ?_ _)); refine qeg ?_ NB308_329.out _; (with_reducible repeat (first | refine q5g ?_ _ | refine q6g ?_ | refine q7g ?_ _)); refine qeg ?_ NB308_329.out _; (with_reducible repeat (first | refine q5g ?_ _ | refine q6g ?_ | refine q7g ?_ _)); refine qeg ?_ NB308_329.out _; (with_reducible repeat (first | refine q5g ?_ _ | refine q6g ?_ | refine q7g ?_ _)); refine qeg ?_ NB308_329.out _; (with_reducible repeat (first | refine q5g ?_ _ | refine q6g ?_ | refine q7g ?_ _)); exact BK308.out⟩
    have n1_ : Aside0 (((((((w43.drewN nd).setCell ⟨gb329, 0, none⟩ (.int .i64 t342)).setCell ⟨gb329, 1, none⟩ (.int .i64 t343)).setCell ⟨gb329, 2, none⟩ (.int .i64 t344)).setCell ⟨gb329, 3, none⟩ (.int .i64 t317)).setCell ⟨gb329, 4, none⟩ (.int .i64 t318)).heap[gb309]? = some (.cells #[.int .i64 0, .int .i64 0, .int .i64 0, .int .i64 0, .int .i64 0] 28 (0, 0))) := ⟨by (with_reducible repeat (first | refine q5g ?_ _ | refine q6g ?_ | refine q7g ?_ _)); refine qeg ?_ NB309_329.out _; (with_reducible repeat (first | refine q5g ?_ _ | refine q6g ?_ | refine q7g ?_ _)); refine qeg ?_ NB309_329.out _; (with_reducible repeat (first | refine q5g ?_ _ | refine q6g ?_ | refine q7g ?_ _)); refine qeg ?_ NB309_329.out _; (with_reducible repeat (first | refine q5g ?_ _ | refine q6g ?_ | refine q7g ?_ _)); refine qeg ?_ NB309_329.out _; (with_reducible repeat (first | refine q5g ?_ _ | refine q6g ?_ | refine q7g ?_ _)); refine qeg ?_ NB309_329.out _; (with_reducible repeat (first | refine q5g ?_ _ | refine q6g ?_ | refine q7g ?_ _)); exact BK309.out⟩
    have n2_ : Aside0 (((((((w43.drewN nd).setCell ⟨gb329, 0, none⟩ (.int .i64 t342)).setCell ⟨gb329, 1, none⟩ (.int .i64 t343)).setCell ⟨gb329, 2, none⟩ (.int .i64 t344)).setCell ⟨gb329, 3, none⟩ (.int .i64 t317)).setCell ⟨gb329, 4, none⟩ (.int .i64 t318)).heap[gb321]? = some (.cells #[.int .i64 t314, .int .i64 t315, .int .i64 t316, .int .i64 t317, .int .i64 t318] 28 (0, 0))) := ⟨by (with_reducible repeat (first | refine q5g ?_ _ | refine q6g ?_ | refine q7g ?_ _)); refine qeg ?_ NB321_329.out _; (with_reducible repeat (first | refine q5g ?_ _ | refine q6g ?_ | refine q7g ?_ _)); refine qeg ?_ NB321_329.out _; (with_reducible repeat (first | refine q5g ?_ _ | refine q6g ?_ | refine q7g ?_ _)); refine qeg ?_ NB321_329.out _; (with_reducible repeat (first | refine q5g ?_ _ | refine q6g ?_ | refine q7g ?_ _)); refine qeg ?_ NB321_329.out _; (with_reducible repeat (first | refine q5g ?_ _ | refine q6g ?_ | refine q7g ?_ _)); refine qeg ?_ NB321_329.out _; (with_reducible repeat (first | refine q5g ?_ _ | refine q6g ?_ | refine q7g ?_ _)); exact BK321.out⟩
    have n3_ : Aside0 (((((((w43.drewN nd).setCell ⟨gb329, 0, none⟩ (.int .i64 t342)).setCell ⟨gb329, 1, none⟩ (.int .i64 t343)).setCell ⟨gb329, 2, none⟩ (.int .i64 t344)).setCell ⟨gb329, 3, none⟩ (.int .i64 t317)).setCell ⟨gb329, 4, none⟩ (.int .i64 t318)).heap[gb329]? = some (.cells #[.int .i64 t342, .int .i64 t343, .int .i64 t344, .int .i64 t317, .int .i64 t318] 28 (0, 0))) := ⟨by (with_reducible repeat (first | refine q5g ?_ _ | refine q6g ?_ | refine q7g ?_ _)); refine qfg (cs := #[.int .i64 t342, .int .i64 t343, .int .i64 t344, .int .i64 t317, .int .i64 t326]) ?_ 4 _ rfl; (with_reducible repeat (first | refine q5g ?_ _ | refine q6g ?_ | refine q7g ?_ _)); refine qfg (cs := #[.int .i64 t342, .int .i64 t343, .int .i64 t344, .int .i64 t325, .int .i64 t326]) ?_ 3 _ rfl; (with_reducible repeat (first | refine q5g ?_ _ | refine q6g ?_ | refine q7g ?_ _)); refine qfg (cs := #[.int .i64 t342, .int .i64 t343, .int .i64 t324, .int .i64 t325, .int .i64 t326]) ?_ 2 _ rfl; (with_reducible repeat (first | refine q5g ?_ _ | refine q6g ?_ | refine q7g ?_ _)); refine qfg (cs := #[.int .i64 t342, .int .i64 t323, .int .i64 t324, .int .i64 t325, .int .i64 t326]) ?_ 1 _ rfl; (with_reducible repeat (first | refine q5g ?_ _ | refine q6g ?_ | refine q7g ?_ _)); refine qfg (cs := #[.int .i64 t322, .int .i64 t323, .int .i64 t324, .int .i64 t325, .int .i64 t326]) ?_ 0 _ rfl; (with_reducible repeat (first | refine q5g ?_ _ | refine q6g ?_ | refine q7g ?_ _)); exact BK329.out⟩
    have n4_ : Aside0 (((((((w43.drewN nd).setCell ⟨gb329, 0, none⟩ (.int .i64 t342)).setCell ⟨gb329, 1, none⟩ (.int .i64 t343)).setCell ⟨gb329, 2, none⟩ (.int .i64 t344)).setCell ⟨gb329, 3, none⟩ (.int .i64 t317)).setCell ⟨gb329, 4, none⟩ (.int .i64 t318)).heap[gb336]? = some (.cells #[.int .i64 t333, .int .i64 t334] 26 (0, 0))) := ⟨by (with_reducible repeat (first | refine q5g ?_ _ | refine q6g ?_ | refine q7g ?_ _)); refine qeg ?_ NB336_329.out _; (with_reducible repeat (first | refine q5g ?_ _ | refine q6g ?_ | refine q7g ?_ _)); refine qeg ?_ NB336_329.out _; (with_reducible repeat (first | refine q5g ?_ _ | refine q6g ?_ | refine q7g ?_ _)); refine qeg ?_ NB336_329.out _; (with_reducible repeat (first | refine q5g ?_ _ | refine q6g ?_ | refine q7g ?_ _)); refine qeg ?_ NB336_329.out _; (with_reducible repeat (first | refine q5g ?_ _ | refine q6g ?_ | refine q7g ?_ _)); refine qeg ?_ NB336_329.out _; (with_reducible repeat (first | refine q5g ?_ _ | refine q6g ?_ | refine q7g ?_ _)); exact BK336.out⟩
    have n5_ : Aside0 (Below w.heap.size w ((((((w43.drewN nd).setCell ⟨gb329, 0, none⟩ (.int .i64 t342)).setCell ⟨gb329, 1, none⟩ (.int .i64 t343)).setCell ⟨gb329, 2, none⟩ (.int .i64 t344)).setCell ⟨gb329, 3, none⟩ (.int .i64 t317)).setCell ⟨gb329, 4, none⟩ (.int .i64 t318))) := ⟨by repeat (first | (with_reducible first | exact HB.out | apply q1g | apply q2g | apply q3g | refine q4g ?_ GE308.out | refine q4g ?_ GE309.out | refine q4g ?_ GE321.out | refine q4g ?_ GE329.out | refine q4g ?_ GE336.out) | exact HB.out)⟩
    (try clear BK308)
    (try clear BK309)
    (try clear BK321)
    (try clear BK329)
    (try clear BK336)
    (try clear HB)
    generalize ((((((w43.drewN nd).setCell ⟨gb329, 0, none⟩ (.int .i64 t342)).setCell ⟨gb329, 1, none⟩ (.int .i64 t343)).setCell ⟨gb329, 2, none⟩ (.int .i64 t344)).setCell ⟨gb329, 3, none⟩ (.int .i64 t317)).setCell ⟨gb329, 4, none⟩ (.int .i64 t318)) = w49 at n0_ n1_ n2_ n3_ n4_ n5_ ⊢
    have BK308 := n0_
    have BK309 := n1_
    have BK321 := n2_
    have BK329 := n3_
    have BK336 := n4_
    have HB := n5_
    clear n0_ n1_ n2_ n3_ n4_ n5_
    (try (rw [drewN_self w49]; generalize hq_ : World.drewN w49 _ = w49; have n0_ : Aside0 (w49.heap[gb308]? = some (.cells #[.int .i64 0, .int .i64 0, .int .i64 0, .int .i64 0, .int .i64 0] 28 (0, 0))) := ⟨by rw [← hq_]; exact (by (with_reducible repeat (first | refine q5g ?_ _ | refine q6g ?_ | refine q7g ?_ _)); exact BK308.out)⟩; have n1_ : Aside0 (w49.heap[gb309]? = some (.cells #[.int .i64 0, .int .i64 0, .int .i64 0, .int .i64 0, .int .i64 0] 28 (0, 0))) := ⟨by rw [← hq_]; exact (by (with_reducible repeat (first | refine q5g ?_ _ | refine q6g ?_ | refine q7g ?_ _)); exact BK309.out)⟩; have n2_ : Aside0 (w49.heap[gb321]? = some (.cells #[.int .i64 t314, .int .i64 t315, .int .i64 t316, .int .i64 t317, .int .i64 t318] 28 (0, 0))) := ⟨by rw [← hq_]; exact (by (with_reducible repeat (first | refine q5g ?_ _ | refine q6g ?_ | refine q7g ?_ _)); exact BK321.out)⟩; have n3_ : Aside0 (w49.heap[gb329]? = some (.cells #[.int .i64 t342, .int .i64 t343, .int .i64 t344, .int .i64 t317, .int .i64 t318] 28 (0, 0))) := ⟨by rw [← hq_]; exact (by (with_reducible repeat (first | refine q5g ?_ _ | refine q6g ?_ | refine q7g ?_ _)); exact BK329.out)⟩; have n4_ : Aside0 (w49.heap[gb336]? = some (.cells #[.int .i64 t333, .int .i64 t334] 26 (0, 0))) := ⟨by rw [← hq_]; exact (by (with_reducible repeat (first | refine q5g ?_ _ | refine q6g ?_ | refine q7g ?_ _)); exact BK336.out)⟩; have n5_ : Aside0 (Below w.heap.size w w49) := ⟨by rw [← hq_]; exact (by repeat (first | (with_reducible first | exact HB.out | apply q1g | apply q2g | apply q3g | refine q4g ?_ GE308.out | refine q4g ?_ GE309.out | refine q4g ?_ GE321.out | refine q4g ?_ GE329.out | refine q4g ?_ GE336.out) | exact HB.out))⟩; clear BK308 BK309 BK321 BK329 BK336 HB hq_; have BK308 := n0_; have BK309 := n1_; have BK321 := n2_; have BK329 := n3_; have BK336 := n4_; have HB := n5_; clear n0_ n1_ n2_ n3_ n4_ n5_))
    have n0_ := qgg (q6g BK308.out)
    have n1_ := qgg (q6g BK309.out)
    have n2_ := qgg (q6g BK321.out)
    have n3_ := qgg (q6g BK329.out)
    have n4_ := qgg (q6g BK336.out)
    have n5_ := qgg (q3g HB.out)
    clear BK308
    clear BK309
    clear BK321
    clear BK329
    clear BK336
    clear HB
    have BK308 := n0_
    have BK309 := n1_
    have BK321 := n2_
    have BK329 := n3_
    have BK336 := n4_
    have HB := n5_
    clear n0_ n1_ n2_ n3_ n4_ n5_
    refine start_ (n := 4) (S := fun w' => w'.cell? ⟨gb321, 0, none⟩ = some (.int .i64 t314) ∧ w'.cell? ⟨gb321, 1, none⟩ = some (.int .i64 t315) ∧ w'.cell? ⟨gb321, 2, none⟩ = some (.int .i64 t316) ∧ w'.cell? ⟨gb321, 3, none⟩ = some (.int .i64 t317) ∧ w'.cell? ⟨gb321, 4, none⟩ = some (.int .i64 t318) ∧ w'.cell? ⟨gb329, 0, none⟩ = some (.int .i64 t342) ∧ w'.cell? ⟨gb329, 1, none⟩ = some (.int .i64 t343) ∧ w'.cell? ⟨gb329, 2, none⟩ = some (.int .i64 t344) ∧ w'.cell? ⟨gb329, 3, none⟩ = some (.int .i64 t317) ∧ w'.cell? ⟨gb329, 4, none⟩ = some (.int .i64 t318)) (ds := []) #[false, false, false, false] (by kernel_rfl) rfl rfl ⟨(qcg BK321.out 0).trans rfl, (qcg BK321.out 1).trans rfl, (qcg BK321.out 2).trans rfl, (qcg BK321.out 3).trans rfl, (qcg BK321.out 4).trans rfl, (qcg BK329.out 0).trans rfl, (qcg BK329.out 1).trans rfl, (qcg BK329.out 2).trans rfl, (qcg BK329.out 3).trans rfl, (qcg BK329.out 4).trans rfl⟩ (fun hHeld => ?_)
    generalize w49.drew = w50 at BK308 BK309 BK321 BK329 BK336 HB hHeld ⊢
    refine take_ (i := 0) (N := some 51) (v := ?_) (a' := ?_) #[true, false, false, false] rfl rfl (by kernel_rfl) (fun _ _ _ h => h) (Or.inl ⟨by rfl, ?_⟩) hHeld ?_ ?_
    rotate_left
    ·rintro w' ⟨s0, s1, s2, s3, s4, s5, s6, s7, s8, s9⟩
     go_simp
     with_reducible rfl
    rotate_left
    ·simp only [Act.put, p1g, p2g, p3g, i64_w, i32_w]
     rfl
    refine take_ (i := 1) (N := some 52) (v := ?_) (a' := ?_) #[true, true, false, false] rfl rfl (by kernel_rfl) (fun _ _ _ h => h) (Or.inl ⟨by rfl, ?_⟩) hHeld ?_ ?_
    rotate_left
    ·rintro w' ⟨s0, s1, s2, s3, s4, s5, s6, s7, s8, s9⟩
     go_simp
     with_reducible rfl
    rotate_left
    ·simp only [Act.put, p1g, p2g, p3g, i64_w, i32_w]
     rfl
    refine one_ (i := 2) (N := none) #[true, true, true, false] rfl rfl (by kernel_rfl) (by decide) (fun K hK => ?_)
    have hs51 : w50.cell? ⟨gb308, 0, none⟩ = some (.int .i64 0) := (qcg BK308.out 0).trans rfl
    have hfs51 := qbg BK308.out 0
    have hns51_1 := NB309_308.out
    have hns51_2 := NB321_308.out
    have hns51_3 := NB329_308.out
    have hns51_4 := NB336_308.out
    have hms51_1 := NB308_309.out
    have hms51_2 := NB308_321.out
    have hms51_3 := NB308_329.out
    have hms51_4 := NB308_336.out
    have hs52 : w50.cell? ⟨gb308, 1, none⟩ = some (.int .i64 0) := (qcg BK308.out 1).trans rfl
    have hfs52 := qbg BK308.out 1
    have hns52_1 := NB309_308.out
    have hns52_2 := NB321_308.out
    have hns52_3 := NB329_308.out
    have hns52_4 := NB336_308.out
    have hms52_1 := NB308_309.out
    have hms52_2 := NB308_321.out
    have hms52_3 := NB308_329.out
    have hms52_4 := NB308_336.out
    have hs53 : w50.cell? ⟨gb308, 2, none⟩ = some (.int .i64 0) := (qcg BK308.out 2).trans rfl
    have hfs53 := qbg BK308.out 2
    have hns53_1 := NB309_308.out
    have hns53_2 := NB321_308.out
    have hns53_3 := NB329_308.out
    have hns53_4 := NB336_308.out
    have hms53_1 := NB308_309.out
    have hms53_2 := NB308_321.out
    have hms53_3 := NB308_329.out
    have hms53_4 := NB308_336.out
    have hs54 : w50.cell? ⟨gb308, 3, none⟩ = some (.int .i64 0) := (qcg BK308.out 3).trans rfl
    have hfs54 := qbg BK308.out 3
    have hns54_1 := NB309_308.out
    have hns54_2 := NB321_308.out
    have hns54_3 := NB329_308.out
    have hns54_4 := NB336_308.out
    have hms54_1 := NB308_309.out
    have hms54_2 := NB308_321.out
    have hms54_3 := NB308_329.out
    have hms54_4 := NB308_336.out
    have hs55 : w50.cell? ⟨gb308, 4, none⟩ = some (.int .i64 0) := (qcg BK308.out 4).trans rfl
    have hfs55 := qbg BK308.out 4
    have hns55_1 := NB309_308.out
    have hns55_2 := NB321_308.out
    have hns55_3 := NB329_308.out
    have hns55_4 := NB336_308.out
    have hms55_1 := NB308_309.out
    have hms55_2 := NB308_321.out
    have hms55_3 := NB308_329.out
    have hms55_4 := NB308_336.out
    refine skip_ (w1 := ?_) (by rfl) rfl ?_ ?_
    rotate_left
    ·go_simp
     rfl
    refine hK.out _ _ ⟨((qig (p := ⟨gb308, _, none⟩) NB321_308.out _).trans (((qig (p := ⟨gb308, _, none⟩) NB321_308.out _).trans (((qig (p := ⟨gb308, _, none⟩) NB321_308.out _).trans (((qig (p := ⟨gb308, _, none⟩) NB321_308.out _).trans (((qig (p := ⟨gb308, _, none⟩) NB321_308.out _).trans (hHeld.1)))))))))), ((qig (p := ⟨gb308, _, none⟩) NB321_308.out _).trans (((qig (p := ⟨gb308, _, none⟩) NB321_308.out _).trans (((qig (p := ⟨gb308, _, none⟩) NB321_308.out _).trans (((qig (p := ⟨gb308, _, none⟩) NB321_308.out _).trans (((qig (p := ⟨gb308, _, none⟩) NB321_308.out _).trans (hHeld.2.1)))))))))), ((qig (p := ⟨gb308, _, none⟩) NB321_308.out _).trans (((qig (p := ⟨gb308, _, none⟩) NB321_308.out _).trans (((qig (p := ⟨gb308, _, none⟩) NB321_308.out _).trans (((qig (p := ⟨gb308, _, none⟩) NB321_308.out _).trans (((qig (p := ⟨gb308, _, none⟩) NB321_308.out _).trans (hHeld.2.2.1)))))))))), ((qig (p := ⟨gb308, _, none⟩) NB321_308.out _).trans (((qig (p := ⟨gb308, _, none⟩) NB321_308.out _).trans (((qig (p := ⟨gb308, _, none⟩) NB321_308.out _).trans (((qig (p := ⟨gb308, _, none⟩) NB321_308.out _).trans (((qig (p := ⟨gb308, _, none⟩) NB321_308.out _).trans (hHeld.2.2.2.1)))))))))), ((qig (p := ⟨gb308, _, none⟩) NB321_308.out _).trans (((qig (p := ⟨gb308, _, none⟩) NB321_308.out _).trans (((qig (p := ⟨gb308, _, none⟩) NB321_308.out _).trans (((qig (p := ⟨gb308, _, none⟩) NB321_308.out _).trans (((qig (p := ⟨gb308, _, none⟩) NB321_308.out _).trans (hHeld.2.2.2.2.1)))))))))), ((qig (p := ⟨gb308, _, none⟩) NB329_308.out _).trans (((qig (p := ⟨gb308, _, none⟩) NB329_308.out _).trans (((qig (p := ⟨gb308, _, none⟩) NB329_308.out _).trans (((qig (p := ⟨gb308, _, none⟩) NB329_308.out _).trans (((qig (p := ⟨gb308, _, none⟩) NB329_308.out _).trans (hHeld.2.2.2.2.2.1)))))))))), ((qig (p := ⟨gb308, _, none⟩) NB329_308.out _).trans (((qig (p := ⟨gb308, _, none⟩) NB329_308.out _).trans (((qig (p := ⟨gb308, _, none⟩) NB329_308.out _).trans (((qig (p := ⟨gb308, _, none⟩) NB329_308.out _).trans (((qig (p := ⟨gb308, _, none⟩) NB329_308.out _).trans (hHeld.2.2.2.2.2.2.1)))))))))), ((qig (p := ⟨gb308, _, none⟩) NB329_308.out _).trans (((qig (p := ⟨gb308, _, none⟩) NB329_308.out _).trans (((qig (p := ⟨gb308, _, none⟩) NB329_308.out _).trans (((qig (p := ⟨gb308, _, none⟩) NB329_308.out _).trans (((qig (p := ⟨gb308, _, none⟩) NB329_308.out _).trans (hHeld.2.2.2.2.2.2.2.1)))))))))), ((qig (p := ⟨gb308, _, none⟩) NB329_308.out _).trans (((qig (p := ⟨gb308, _, none⟩) NB329_308.out _).trans (((qig (p := ⟨gb308, _, none⟩) NB329_308.out _).trans (((qig (p := ⟨gb308, _, none⟩) NB329_308.out _).trans (((qig (p := ⟨gb308, _, none⟩) NB329_308.out _).trans (hHeld.2.2.2.2.2.2.2.2.1)))))))))), ((qig (p := ⟨gb308, _, none⟩) NB329_308.out _).trans (((qig (p := ⟨gb308, _, none⟩) NB329_308.out _).trans (((qig (p := ⟨gb308, _, none⟩) NB329_308.out _).trans (((qig (p := ⟨gb308, _, none⟩) NB329_308.out _).trans (((qig (p := ⟨gb308, _, none⟩) NB329_308.out _).trans (hHeld.2.2.2.2.2.2.2.2.2))))))))))⟩ (fun hHeld => ?_)
    clear hK K
    refine one_ (i := 3) (N := none) #[true, true, true, true] rfl rfl (by kernel_rfl) (by decide) (fun K hK => ?_)
    have hs56 : w50.cell? ⟨gb309, 0, none⟩ = some (.int .i64 0) := (qcg BK309.out 0).trans rfl
    have hfs56 := qbg BK309.out 0
    have hns56_0 := NB308_309.out
    have hns56_2 := NB321_309.out
    have hns56_3 := NB329_309.out
    have hns56_4 := NB336_309.out
    have hms56_0 := NB309_308.out
    have hms56_2 := NB309_321.out
    have hms56_3 := NB309_329.out
    have hms56_4 := NB309_336.out
    have hs57 : w50.cell? ⟨gb309, 1, none⟩ = some (.int .i64 0) := (qcg BK309.out 1).trans rfl
    have hfs57 := qbg BK309.out 1
    have hns57_0 := NB308_309.out
    have hns57_2 := NB321_309.out
    have hns57_3 := NB329_309.out
    have hns57_4 := NB336_309.out
    have hms57_0 := NB309_308.out
    have hms57_2 := NB309_321.out
    have hms57_3 := NB309_329.out
    have hms57_4 := NB309_336.out
    have hs58 : w50.cell? ⟨gb309, 2, none⟩ = some (.int .i64 0) := (qcg BK309.out 2).trans rfl
    have hfs58 := qbg BK309.out 2
    have hns58_0 := NB308_309.out
    have hns58_2 := NB321_309.out
    have hns58_3 := NB329_309.out
    have hns58_4 := NB336_309.out
    have hms58_0 := NB309_308.out
    have hms58_2 := NB309_321.out
    have hms58_3 := NB309_329.out
    have hms58_4 := NB309_336.out
    have hs59 : w50.cell? ⟨gb309, 3, none⟩ = some (.int .i64 0) := (qcg BK309.out 3).trans rfl
    have hfs59 := qbg BK309.out 3
    have hns59_0 := NB308_309.out
    have hns59_2 := NB321_309.out
    have hns59_3 := NB329_309.out
    have hns59_4 := NB336_309.out
    have hms59_0 := NB309_308.out
    have hms59_2 := NB309_321.out
    have hms59_3 := NB309_329.out
    have hms59_4 := NB309_336.out
    have hs60 : w50.cell? ⟨gb309, 4, none⟩ = some (.int .i64 0) := (qcg BK309.out 4).trans rfl
    have hfs60 := qbg BK309.out 4
    have hns60_0 := NB308_309.out
    have hns60_2 := NB321_309.out
    have hns60_3 := NB329_309.out
    have hns60_4 := NB336_309.out
    have hms60_0 := NB309_308.out
    have hms60_2 := NB309_321.out
    have hms60_3 := NB309_329.out
    have hms60_4 := NB309_336.out
    refine skip_ (w1 := ?_) (by rfl) rfl ?_ ?_
    rotate_left
    ·go_simp
     rfl
    refine hK.out _ _ ⟨((qig (p := ⟨gb309, _, none⟩) NB321_309.out _).trans (((qig (p := ⟨gb309, _, none⟩) NB321_309.out _).trans (((qig (p := ⟨gb309, _, none⟩) NB321_309.out _).trans (((qig (p := ⟨gb309, _, none⟩) NB321_309.out _).trans (((qig (p := ⟨gb309, _, none⟩) NB321_309.out _).trans (hHeld.1)))))))))), ((qig (p := ⟨gb309, _, none⟩) NB321_309.out _).trans (((qig (p := ⟨gb309, _, none⟩) NB321_309.out _).trans (((qig (p := ⟨gb309, _, none⟩) NB321_309.out _).trans (((qig (p := ⟨gb309, _, none⟩) NB321_309.out _).trans (((qig (p := ⟨gb309, _, none⟩) NB321_309.out _).trans (hHeld.2.1)))))))))), ((qig (p := ⟨gb309, _, none⟩) NB321_309.out _).trans (((qig (p := ⟨gb309, _, none⟩) NB321_309.out _).trans (((qig (p := ⟨gb309, _, none⟩) NB321_309.out _).trans (((qig (p := ⟨gb309, _, none⟩) NB321_309.out _).trans (((qig (p := ⟨gb309, _, none⟩) NB321_309.out _).trans (hHeld.2.2.1)))))))))), ((qig (p := ⟨gb309, _, none⟩) NB321_309.out _).trans (((qig (p := ⟨gb309, _, none⟩) NB321_309.out _).trans (((qig (p := ⟨gb309, _, none⟩) NB321_309.out _).trans (((qig (p := ⟨gb309, _, none⟩) NB321_309.out _).trans (((qig (p := ⟨gb309, _, none⟩) NB321_309.out _).trans (hHeld.2.2.2.1)))))))))), ((qig (p := ⟨gb309, _, none⟩) NB321_309.out _).trans (((qig (p := ⟨gb309, _, none⟩) NB321_309.out _).trans (((qig (p := ⟨gb309, _, none⟩) NB321_309.out _).trans (((qig (p := ⟨gb309, _, none⟩) NB321_309.out _).trans (((qig (p := ⟨gb309, _, none⟩) NB321_309.out _).trans (hHeld.2.2.2.2.1)))))))))), ((qig (p := ⟨gb309, _, none⟩) NB329_309.out _).trans (((qig (p := ⟨gb309, _, none⟩) NB329_309.out _).trans (((qig (p := ⟨gb309, _, none⟩) NB329_309.out _).trans (((qig (p := ⟨gb309, _, none⟩) NB329_309.out _).trans (((qig (p := ⟨gb309, _, none⟩) NB329_309.out _).trans (hHeld.2.2.2.2.2.1)))))))))), ((qig (p := ⟨gb309, _, none⟩) NB329_309.out _).trans (((qig (p := ⟨gb309, _, none⟩) NB329_309.out _).trans (((qig (p := ⟨gb309, _, none⟩) NB329_309.out _).trans (((qig (p := ⟨gb309, _, none⟩) NB329_309.out _).trans (((qig (p := ⟨gb309, _, none⟩) NB329_309.out _).trans (hHeld.2.2.2.2.2.2.1)))))))))), ((qig (p := ⟨gb309, _, none⟩) NB329_309.out _).trans (((qig (p := ⟨gb309, _, none⟩) NB329_309.out _).trans (((qig (p := ⟨gb309, _, none⟩) NB329_309.out _).trans (((qig (p := ⟨gb309, _, none⟩) NB329_309.out _).trans (((qig (p := ⟨gb309, _, none⟩) NB329_309.out _).trans (hHeld.2.2.2.2.2.2.2.1)))))))))), ((qig (p := ⟨gb309, _, none⟩) NB329_309.out _).trans (((qig (p := ⟨gb309, _, none⟩) NB329_309.out _).trans (((qig (p := ⟨gb309, _, none⟩) NB329_309.out _).trans (((qig (p := ⟨gb309, _, none⟩) NB329_309.out _).trans (((qig (p := ⟨gb309, _, none⟩) NB329_309.out _).trans (hHeld.2.2.2.2.2.2.2.2.1)))))))))), ((qig (p := ⟨gb309, _, none⟩) NB329_309.out _).trans (((qig (p := ⟨gb309, _, none⟩) NB329_309.out _).trans (((qig (p := ⟨gb309, _, none⟩) NB329_309.out _).trans (((qig (p := ⟨gb309, _, none⟩) NB329_309.out _).trans (((qig (p := ⟨gb309, _, none⟩) NB329_309.out _).trans (hHeld.2.2.2.2.2.2.2.2.2))))))))))⟩ (fun hHeld => ?_)
    clear hK K
    refine done_ (by kernel_rfl) ?_
    try go_wp2
    refine bodyPost_ret (results_cc rfl _ _ gb308 gb309 28 28 #[.int .i64 t314, .int .i64 t315, .int .i64 t316, .int .i64 t317, .int .i64 t318] #[.int .i64 t342, .int .i64 t343, .int .i64 t344, .int .i64 t317, .int .i64 t318] (0, 0) (0, 0) _ _ rfl (by (with_reducible repeat (first | refine q5g ?_ _ | refine q6g ?_ | refine q7g ?_ _)); refine qeg ?_ NB308_309.out _; (with_reducible repeat (first | refine q5g ?_ _ | refine q6g ?_ | refine q7g ?_ _)); refine qeg ?_ NB308_309.out _; (with_reducible repeat (first | refine q5g ?_ _ | refine q6g ?_ | refine q7g ?_ _)); refine qeg ?_ NB308_309.out _; (with_reducible repeat (first | refine q5g ?_ _ | refine q6g ?_ | refine q7g ?_ _)); refine qeg ?_ NB308_309.out _; (with_reducible repeat (first | refine q5g ?_ _ | refine q6g ?_ | refine q7g ?_ _)); refine qeg ?_ NB308_309.out _; (with_reducible repeat (first | refine q5g ?_ _ | refine q6g ?_ | refine q7g ?_ _)); refine qfg (cs := #[.int .i64 t314, .int .i64 t315, .int .i64 t316, .int .i64 t317, .int .i64 0]) ?_ 4 _ rfl; (with_reducible repeat (first | refine q5g ?_ _ | refine q6g ?_ | refine q7g ?_ _)); refine qfg (cs := #[.int .i64 t314, .int .i64 t315, .int .i64 t316, .int .i64 0, .int .i64 0]) ?_ 3 _ rfl; (with_reducible repeat (first | refine q5g ?_ _ | refine q6g ?_ | refine q7g ?_ _)); refine qfg (cs := #[.int .i64 t314, .int .i64 t315, .int .i64 0, .int .i64 0, .int .i64 0]) ?_ 2 _ rfl; (with_reducible repeat (first | refine q5g ?_ _ | refine q6g ?_ | refine q7g ?_ _)); refine qfg (cs := #[.int .i64 t314, .int .i64 0, .int .i64 0, .int .i64 0, .int .i64 0]) ?_ 1 _ rfl; (with_reducible repeat (first | refine q5g ?_ _ | refine q6g ?_ | refine q7g ?_ _)); refine qfg (cs := #[.int .i64 0, .int .i64 0, .int .i64 0, .int .i64 0, .int .i64 0]) ?_ 0 _ rfl; (with_reducible repeat (first | refine q5g ?_ _ | refine q6g ?_ | refine q7g ?_ _)); exact BK308.out) Try.underlying28 rfl (by kernel_rfl) rfl (by (with_reducible repeat (first | refine q5g ?_ _ | refine q6g ?_ | refine q7g ?_ _)); refine qfg (cs := #[.int .i64 t342, .int .i64 t343, .int .i64 t344, .int .i64 t317, .int .i64 0]) ?_ 4 _ rfl; (with_reducible repeat (first | refine q5g ?_ _ | refine q6g ?_ | refine q7g ?_ _)); refine qfg (cs := #[.int .i64 t342, .int .i64 t343, .int .i64 t344, .int .i64 0, .int .i64 0]) ?_ 3 _ rfl; (with_reducible repeat (first | refine q5g ?_ _ | refine q6g ?_ | refine q7g ?_ _)); refine qfg (cs := #[.int .i64 t342, .int .i64 t343, .int .i64 0, .int .i64 0, .int .i64 0]) ?_ 2 _ rfl; (with_reducible repeat (first | refine q5g ?_ _ | refine q6g ?_ | refine q7g ?_ _)); refine qfg (cs := #[.int .i64 t342, .int .i64 0, .int .i64 0, .int .i64 0, .int .i64 0]) ?_ 1 _ rfl; (with_reducible repeat (first | refine q5g ?_ _ | refine q6g ?_ | refine q7g ?_ _)); refine qfg (cs := #[.int .i64 0, .int .i64 0, .int .i64 0, .int .i64 0, .int .i64 0]) ?_ 0 _ rfl; (with_reducible repeat (first | refine q5g ?_ _ | refine q6g ?_ | refine q7g ?_ _)); refine qeg ?_ NB309_308.out _; (with_reducible repeat (first | refine q5g ?_ _ | refine q6g ?_ | refine q7g ?_ _)); refine qeg ?_ NB309_308.out _; (with_reducible repeat (first | refine q5g ?_ _ | refine q6g ?_ | refine q7g ?_ _)); refine qeg ?_ NB309_308.out _; (with_reducible repeat (first | refine q5g ?_ _ | refine q6g ?_ | refine q7g ?_ _)); refine qeg ?_ NB309_308.out _; (with_reducible repeat (first | refine q5g ?_ _ | refine q6g ?_ | refine q7g ?_ _)); refine qeg ?_ NB309_308.out _; (with_reducible repeat (first | refine q5g ?_ _ | refine q6g ?_ | refine q7g ?_ _)); exact BK309.out) Try.underlying28 rfl (by kernel_rfl)) rfl ?_
    exact ⟨by first | rfl | (simp [errW_none, errW_some] <;> rfl) | (simp [*, errW_none, errW_some] <;> rfl), by repeat (first | (with_reducible first | exact HB.out | apply q1g | apply q2g | apply q3g | refine q4g ?_ GE308.out | refine q4g ?_ GE309.out | refine q4g ?_ GE321.out | refine q4g ?_ GE329.out | refine q4g ?_ GE336.out) | exact HB.out)⟩
   ·replace c37 := Bool.eq_false_iff.mpr c37
    subst c37
    have H1 : (some (t314, t315, t316, t317, t318, t322, t323, t324, t325, t326)) = some (r1, r2, r3, r4, r5, r6, r7, r8, r9, r10) := by rw [if_neg (show ¬ (false = true) by decide)] at H; exact H
    clear H
    have H := H1
    clear H1
    simp only [Option.some.injEq, Prod.mk.injEq] at H
    obtain ⟨rfl, rfl, rfl, rfl, rfl, rfl, rfl, rfl, rfl, rfl⟩ := H
    try go_wp2
    have n0_ := qgg (q6g BK308.out)
    have n1_ := qgg (q6g BK309.out)
    have n2_ := qgg (q6g BK321.out)
    have n3_ := qgg (q6g BK329.out)
    have n4_ := qgg (q6g BK336.out)
    have n5_ := qgg (q3g HB.out)
    clear BK308
    clear BK309
    clear BK321
    clear BK329
    clear BK336
    clear HB
    have BK308 := n0_
    have BK309 := n1_
    have BK321 := n2_
    have BK329 := n3_
    have BK336 := n4_
    have HB := n5_
    clear n0_ n1_ n2_ n3_ n4_ n5_
    refine start_ (n := 4) (S := fun w' => w'.cell? ⟨gb321, 0, none⟩ = some (.int .i64 t314) ∧ w'.cell? ⟨gb321, 1, none⟩ = some (.int .i64 t315) ∧ w'.cell? ⟨gb321, 2, none⟩ = some (.int .i64 t316) ∧ w'.cell? ⟨gb321, 3, none⟩ = some (.int .i64 t317) ∧ w'.cell? ⟨gb321, 4, none⟩ = some (.int .i64 t318) ∧ w'.cell? ⟨gb329, 0, none⟩ = some (.int .i64 t322) ∧ w'.cell? ⟨gb329, 1, none⟩ = some (.int .i64 t323) ∧ w'.cell? ⟨gb329, 2, none⟩ = some (.int .i64 t324) ∧ w'.cell? ⟨gb329, 3, none⟩ = some (.int .i64 t325) ∧ w'.cell? ⟨gb329, 4, none⟩ = some (.int .i64 t326)) (ds := []) #[false, false, false, false] (by kernel_rfl) rfl rfl ⟨(qcg BK321.out 0).trans rfl, (qcg BK321.out 1).trans rfl, (qcg BK321.out 2).trans rfl, (qcg BK321.out 3).trans rfl, (qcg BK321.out 4).trans rfl, (qcg BK329.out 0).trans rfl, (qcg BK329.out 1).trans rfl, (qcg BK329.out 2).trans rfl, (qcg BK329.out 3).trans rfl, (qcg BK329.out 4).trans rfl⟩ (fun hHeld => ?_)
    generalize wc.drew = w61 at BK308 BK309 BK321 BK329 BK336 HB hHeld ⊢
    refine take_ (i := 0) (N := some 51) (v := ?_) (a' := ?_) #[true, false, false, false] rfl rfl (by kernel_rfl) (fun _ _ _ h => h) (Or.inl ⟨by rfl, ?_⟩) hHeld ?_ ?_
    rotate_left
    ·rintro w' ⟨s0, s1, s2, s3, s4, s5, s6, s7, s8, s9⟩
     go_simp
     with_reducible rfl
    rotate_left
    ·simp only [Act.put, p1g, p2g, p3g, i64_w, i32_w]
     rfl
    refine take_ (i := 1) (N := some 52) (v := ?_) (a' := ?_) #[true, true, false, false] rfl rfl (by kernel_rfl) (fun _ _ _ h => h) (Or.inl ⟨by rfl, ?_⟩) hHeld ?_ ?_
    rotate_left
    ·rintro w' ⟨s0, s1, s2, s3, s4, s5, s6, s7, s8, s9⟩
     go_simp
     with_reducible rfl
    rotate_left
    ·simp only [Act.put, p1g, p2g, p3g, i64_w, i32_w]
     rfl
    refine one_ (i := 2) (N := none) #[true, true, true, false] rfl rfl (by kernel_rfl) (by decide) (fun K hK => ?_)
    have hs62 : w61.cell? ⟨gb308, 0, none⟩ = some (.int .i64 0) := (qcg BK308.out 0).trans rfl
    have hfs62 := qbg BK308.out 0
    have hns62_1 := NB309_308.out
    have hns62_2 := NB321_308.out
    have hns62_3 := NB329_308.out
    have hns62_4 := NB336_308.out
    have hms62_1 := NB308_309.out
    have hms62_2 := NB308_321.out
    have hms62_3 := NB308_329.out
    have hms62_4 := NB308_336.out
    have hs63 : w61.cell? ⟨gb308, 1, none⟩ = some (.int .i64 0) := (qcg BK308.out 1).trans rfl
    have hfs63 := qbg BK308.out 1
    have hns63_1 := NB309_308.out
    have hns63_2 := NB321_308.out
    have hns63_3 := NB329_308.out
    have hns63_4 := NB336_308.out
    have hms63_1 := NB308_309.out
    have hms63_2 := NB308_321.out
    have hms63_3 := NB308_329.out
    have hms63_4 := NB308_336.out
    have hs64 : w61.cell? ⟨gb308, 2, none⟩ = some (.int .i64 0) := (qcg BK308.out 2).trans rfl
    have hfs64 := qbg BK308.out 2
    have hns64_1 := NB309_308.out
    have hns64_2 := NB321_308.out
    have hns64_3 := NB329_308.out
    have hns64_4 := NB336_308.out
    have hms64_1 := NB308_309.out
    have hms64_2 := NB308_321.out
    have hms64_3 := NB308_329.out
    have hms64_4 := NB308_336.out
    have hs65 : w61.cell? ⟨gb308, 3, none⟩ = some (.int .i64 0) := (qcg BK308.out 3).trans rfl
    have hfs65 := qbg BK308.out 3
    have hns65_1 := NB309_308.out
    have hns65_2 := NB321_308.out
    have hns65_3 := NB329_308.out
    have hns65_4 := NB336_308.out
    have hms65_1 := NB308_309.out
    have hms65_2 := NB308_321.out
    have hms65_3 := NB308_329.out
    have hms65_4 := NB308_336.out
    have hs66 : w61.cell? ⟨gb308, 4, none⟩ = some (.int .i64 0) := (qcg BK308.out 4).trans rfl
    have hfs66 := qbg BK308.out 4
    have hns66_1 := NB309_308.out
    have hns66_2 := NB321_308.out
    have hns66_3 := NB329_308.out
    have hns66_4 := NB336_308.out
    have hms66_1 := NB308_309.out
    have hms66_2 := NB308_321.out
    have hms66_3 := NB308_329.out
    have hms66_4 := NB308_336.out
    refine skip_ (w1 := ?_) (by rfl) rfl ?_ ?_
    rotate_left
    ·go_simp
     rfl
    refine hK.out _ _ ⟨((qig (p := ⟨gb308, _, none⟩) NB321_308.out _).trans (((qig (p := ⟨gb308, _, none⟩) NB321_308.out _).trans (((qig (p := ⟨gb308, _, none⟩) NB321_308.out _).trans (((qig (p := ⟨gb308, _, none⟩) NB321_308.out _).trans (((qig (p := ⟨gb308, _, none⟩) NB321_308.out _).trans (hHeld.1)))))))))), ((qig (p := ⟨gb308, _, none⟩) NB321_308.out _).trans (((qig (p := ⟨gb308, _, none⟩) NB321_308.out _).trans (((qig (p := ⟨gb308, _, none⟩) NB321_308.out _).trans (((qig (p := ⟨gb308, _, none⟩) NB321_308.out _).trans (((qig (p := ⟨gb308, _, none⟩) NB321_308.out _).trans (hHeld.2.1)))))))))), ((qig (p := ⟨gb308, _, none⟩) NB321_308.out _).trans (((qig (p := ⟨gb308, _, none⟩) NB321_308.out _).trans (((qig (p := ⟨gb308, _, none⟩) NB321_308.out _).trans (((qig (p := ⟨gb308, _, none⟩) NB321_308.out _).trans (((qig (p := ⟨gb308, _, none⟩) NB321_308.out _).trans (hHeld.2.2.1)))))))))), ((qig (p := ⟨gb308, _, none⟩) NB321_308.out _).trans (((qig (p := ⟨gb308, _, none⟩) NB321_308.out _).trans (((qig (p := ⟨gb308, _, none⟩) NB321_308.out _).trans (((qig (p := ⟨gb308, _, none⟩) NB321_308.out _).trans (((qig (p := ⟨gb308, _, none⟩) NB321_308.out _).trans (hHeld.2.2.2.1)))))))))), ((qig (p := ⟨gb308, _, none⟩) NB321_308.out _).trans (((qig (p := ⟨gb308, _, none⟩) NB321_308.out _).trans (((qig (p := ⟨gb308, _, none⟩) NB321_308.out _).trans (((qig (p := ⟨gb308, _, none⟩) NB321_308.out _).trans (((qig (p := ⟨gb308, _, none⟩) NB321_308.out _).trans (hHeld.2.2.2.2.1)))))))))), ((qig (p := ⟨gb308, _, none⟩) NB329_308.out _).trans (((qig (p := ⟨gb308, _, none⟩) NB329_308.out _).trans (((qig (p := ⟨gb308, _, none⟩) NB329_308.out _).trans (((qig (p := ⟨gb308, _, none⟩) NB329_308.out _).trans (((qig (p := ⟨gb308, _, none⟩) NB329_308.out _).trans (hHeld.2.2.2.2.2.1)))))))))), ((qig (p := ⟨gb308, _, none⟩) NB329_308.out _).trans (((qig (p := ⟨gb308, _, none⟩) NB329_308.out _).trans (((qig (p := ⟨gb308, _, none⟩) NB329_308.out _).trans (((qig (p := ⟨gb308, _, none⟩) NB329_308.out _).trans (((qig (p := ⟨gb308, _, none⟩) NB329_308.out _).trans (hHeld.2.2.2.2.2.2.1)))))))))), ((qig (p := ⟨gb308, _, none⟩) NB329_308.out _).trans (((qig (p := ⟨gb308, _, none⟩) NB329_308.out _).trans (((qig (p := ⟨gb308, _, none⟩) NB329_308.out _).trans (((qig (p := ⟨gb308, _, none⟩) NB329_308.out _).trans (((qig (p := ⟨gb308, _, none⟩) NB329_308.out _).trans (hHeld.2.2.2.2.2.2.2.1)))))))))), ((qig (p := ⟨gb308, _, none⟩) NB329_308.out _).trans (((qig (p := ⟨gb308, _, none⟩) NB329_308.out _).trans (((qig (p := ⟨gb308, _, none⟩) NB329_308.out _).trans (((qig (p := ⟨gb308, _, none⟩) NB329_308.out _).trans (((qig (p := ⟨gb308, _, none⟩) NB329_308.out _).trans (hHeld.2.2.2.2.2.2.2.2.1)))))))))), ((qig (p := ⟨gb308, _, none⟩) NB329_308.out _).trans (((qig (p := ⟨gb308, _, none⟩) NB329_308.out _).trans (((qig (p := ⟨gb308, _, none⟩) NB329_308.out _).trans (((qig (p := ⟨gb308, _, none⟩) NB329_308.out _).trans (((qig (p := ⟨gb308, _, none⟩) NB329_308.out _).trans (hHeld.2.2.2.2.2.2.2.2.2))))))))))⟩ (fun hHeld => ?_)
    clear hK K
    refine one_ (i := 3) (N := none) #[true, true, true, true] rfl rfl (by kernel_rfl) (by decide) (fun K hK => ?_)
    have hs67 : w61.cell? ⟨gb309, 0, none⟩ = some (.int .i64 0) := (qcg BK309.out 0).trans rfl
    have hfs67 := qbg BK309.out 0
    have hns67_0 := NB308_309.out
    have hns67_2 := NB321_309.out
    have hns67_3 := NB329_309.out
    have hns67_4 := NB336_309.out
    have hms67_0 := NB309_308.out
    have hms67_2 := NB309_321.out
    have hms67_3 := NB309_329.out
    have hms67_4 := NB309_336.out
    have hs68 : w61.cell? ⟨gb309, 1, none⟩ = some (.int .i64 0) := (qcg BK309.out 1).trans rfl
    have hfs68 := qbg BK309.out 1
    have hns68_0 := NB308_309.out
    have hns68_2 := NB321_309.out
    have hns68_3 := NB329_309.out
    have hns68_4 := NB336_309.out
    have hms68_0 := NB309_308.out
    have hms68_2 := NB309_321.out
    have hms68_3 := NB309_329.out
    have hms68_4 := NB309_336.out
    have hs69 : w61.cell? ⟨gb309, 2, none⟩ = some (.int .i64 0) := (qcg BK309.out 2).trans rfl
    have hfs69 := qbg BK309.out 2
    have hns69_0 := NB308_309.out
    have hns69_2 := NB321_309.out
    have hns69_3 := NB329_309.out
    have hns69_4 := NB336_309.out
    have hms69_0 := NB309_308.out
    have hms69_2 := NB309_321.out
    have hms69_3 := NB309_329.out
    have hms69_4 := NB309_336.out
    have hs70 : w61.cell? ⟨gb309, 3, none⟩ = some (.int .i64 0) := (qcg BK309.out 3).trans rfl
    have hfs70 := qbg BK309.out 3
    have hns70_0 := NB308_309.out
    have hns70_2 := NB321_309.out
    have hns70_3 := NB329_309.out
    have hns70_4 := NB336_309.out
    have hms70_0 := NB309_308.out
    have hms70_2 := NB309_321.out
    have hms70_3 := NB309_329.out
    have hms70_4 := NB309_336.out
    have hs71 : w61.cell? ⟨gb309, 4, none⟩ = some (.int .i64 0) := (qcg BK309.out 4).trans rfl
    have hfs71 := qbg BK309.out 4
    have hns71_0 := NB308_309.out
    have hns71_2 := NB321_309.out
    have hns71_3 := NB329_309.out
    have hns71_4 := NB336_309.out
    have hms71_0 := NB309_308.out
    have hms71_2 := NB309_321.out
    have hms71_3 := NB309_329.out
    have hms71_4 := NB309_336.out
    refine skip_ (w1 := ?_) (by rfl) rfl ?_ ?_
    rotate_left
    ·go_simp
     rfl
    refine hK.out _ _ ⟨((qig (p := ⟨gb309, _, none⟩) NB321_309.out _).trans (((qig (p := ⟨gb309, _, none⟩) NB321_309.out _).trans (((qig (p := ⟨gb309, _, none⟩) NB321_309.out _).trans (((qig (p := ⟨gb309, _, none⟩) NB321_309.out _).trans (((qig (p := ⟨gb309, _, none⟩) NB321_309.out _).trans (hHeld.1)))))))))), ((qig (p := ⟨gb309, _, none⟩) NB321_309.out _).trans (((qig (p := ⟨gb309, _, none⟩) NB321_309.out _).trans (((qig (p := ⟨gb309, _, none⟩) NB321_309.out _).trans (((qig (p := ⟨gb309, _, none⟩) NB321_309.out _).trans (((qig (p := ⟨gb309, _, none⟩) NB321_309.out _).trans (hHeld.2.1)))))))))), ((qig (p := ⟨gb309, _, none⟩) NB321_309.out _).trans (((qig (p := ⟨gb309, _, none⟩) NB321_309.out _).trans (((qig (p := ⟨gb309, _, none⟩) NB321_309.out _).trans (((qig (p := ⟨gb309, _, none⟩) NB321_309.out _).trans (((qig (p := ⟨gb309, _, none⟩) NB321_309.out _).trans (hHeld.2.2.1)))))))))), ((qig (p := ⟨gb309, _, none⟩) NB321_309.out _).trans (((qig (p := ⟨gb309, _, none⟩) NB321_309.out _).trans (((qig (p := ⟨gb309, _, none⟩) NB321_309.out _).trans (((qig (p := ⟨gb309, _, none⟩) NB321_309.out _).trans (((qig (p := ⟨gb309, _, none⟩) NB321_309.out _).trans (hHeld.2.2.2.1)))))))))), ((qig (p := ⟨gb309, _, none⟩) NB321_309.out _).trans (((qig (p := ⟨gb309, _, none⟩) NB321_309.out _).trans (((qig (p := ⟨gb309, _, none⟩) NB321_309.out _).trans (((qig (p := ⟨gb309, _, none⟩) NB321_309.out _).trans (((qig (p := ⟨gb309, _, none⟩) NB321_309.out _).trans (hHeld.2.2.2.2.1)))))))))), ((qig (p := ⟨gb309, _, none⟩) NB329_309.out _).trans (((qig (p := ⟨gb309, _, none⟩) NB329_309.out _).trans (((qig (p := ⟨gb309, _, none⟩) NB329_309.out _).trans (((qig (p := ⟨gb309, _, none⟩) NB329_309.out _).trans (((qig (p := ⟨gb309, _, none⟩) NB329_309.out _).trans (hHeld.2.2.2.2.2.1)))))))))), ((qig (p := ⟨gb309, _, none⟩) NB329_309.out _).trans (((qig (p := ⟨gb309, _, none⟩) NB329_309.out _).trans (((qig (p := ⟨gb309, _, none⟩) NB329_309.out _).trans (((qig (p := ⟨gb309, _, none⟩) NB329_309.out _).trans (((qig (p := ⟨gb309, _, none⟩) NB329_309.out _).trans (hHeld.2.2.2.2.2.2.1)))))))))), ((qig (p := ⟨gb309, _, none⟩) NB329_309.out _).trans (((qig (p := ⟨gb309, _, none⟩) NB329_309.out _).trans (((qig (p := ⟨gb309, _, none⟩) NB329_309.out _).trans (((qig (p := ⟨gb309, _, none⟩) NB329_309.out _).trans (((qig (p := ⟨gb309, _, none⟩) NB329_309.out _).trans (hHeld.2.2.2.2.2.2.2.1)))))))))), ((qig (p := ⟨gb309, _, none⟩) NB329_309.out _).trans (((qig (p := ⟨gb309, _, none⟩) NB329_309.out _).trans (((qig (p := ⟨gb309, _, none⟩) NB329_309.out _).trans (((qig (p := ⟨gb309, _, none⟩) NB329_309.out _).trans (((qig (p := ⟨gb309, _, none⟩) NB329_309.out _).trans (hHeld.2.2.2.2.2.2.2.2.1)))))))))), ((qig (p := ⟨gb309, _, none⟩) NB329_309.out _).trans (((qig (p := ⟨gb309, _, none⟩) NB329_309.out _).trans (((qig (p := ⟨gb309, _, none⟩) NB329_309.out _).trans (((qig (p := ⟨gb309, _, none⟩) NB329_309.out _).trans (((qig (p := ⟨gb309, _, none⟩) NB329_309.out _).trans (hHeld.2.2.2.2.2.2.2.2.2))))))))))⟩ (fun hHeld => ?_)
    clear hK K
    refine done_ (by kernel_rfl) ?_
    try go_wp2
    refine bodyPost_ret (results_cc rfl _ _ gb308 gb309 28 28 #[.int .i64 t314, .int .i64 t315, .int .i64 t316, .int .i64 t317, .int .i64 t318] #[.int .i64 t322, .int .i64 t323, .int .i64 t324, .int .i64 t325, .int .i64 t326] (0, 0) (0, 0) _ _ rfl (by (with_reducible repeat (first | refine q5g ?_ _ | refine q6g ?_ | refine q7g ?_ _)); refine qeg ?_ NB308_309.out _; (with_reducible repeat (first | refine q5g ?_ _ | refine q6g ?_ | refine q7g ?_ _)); refine qeg ?_ NB308_309.out _; (with_reducible repeat (first | refine q5g ?_ _ | refine q6g ?_ | refine q7g ?_ _)); refine qeg ?_ NB308_309.out _; (with_reducible repeat (first | refine q5g ?_ _ | refine q6g ?_ | refine q7g ?_ _)); refine qeg ?_ NB308_309.out _; (with_reducible repeat (first | refine q5g ?_ _ | refine q6g ?_ | refine q7g ?_ _)); refine qeg ?_ NB308_309.out _; (with_reducible repeat (first | refine q5g ?_ _ | refine q6g ?_ | refine q7g ?_ _)); refine qfg (cs := #[.int .i64 t314, .int .i64 t315, .int .i64 t316, .int .i64 t317, .int .i64 0]) ?_ 4 _ rfl; (with_reducible repeat (first | refine q5g ?_ _ | refine q6g ?_ | refine q7g ?_ _)); refine qfg (cs := #[.int .i64 t314, .int .i64 t315, .int .i64 t316, .int .i64 0, .int .i64 0]) ?_ 3 _ rfl; (with_reducible repeat (first | refine q5g ?_ _ | refine q6g ?_ | refine q7g ?_ _)); refine qfg (cs := #[.int .i64 t314, .int .i64 t315, .int .i64 0, .int .i64 0, .int .i64 0]) ?_ 2 _ rfl; (with_reducible repeat (first | refine q5g ?_ _ | refine q6g ?_ | refine q7g ?_ _)); refine qfg (cs := #[.int .i64 t314, .int .i64 0, .int .i64 0, .int .i64 0, .int .i64 0]) ?_ 1 _ rfl; (with_reducible repeat (first | refine q5g ?_ _ | refine q6g ?_ | refine q7g ?_ _)); refine qfg (cs := #[.int .i64 0, .int .i64 0, .int .i64 0, .int .i64 0, .int .i64 0]) ?_ 0 _ rfl; (with_reducible repeat (first | refine q5g ?_ _ | refine q6g ?_ | refine q7g ?_ _)); exact BK308.out) Try.underlying28 rfl (by kernel_rfl) rfl (by (with_reducible repeat (first | refine q5g ?_ _ | refine q6g ?_ | refine q7g ?_ _)); refine qfg (cs := #[.int .i64 t322, .int .i64 t323, .int .i64 t324, .int .i64 t325, .int .i64 0]) ?_ 4 _ rfl; (with_reducible repeat (first | refine q5g ?_ _ | refine q6g ?_ | refine q7g ?_ _)); refine qfg (cs := #[.int .i64 t322, .int .i64 t323, .int .i64 t324, .int .i64 0, .int .i64 0]) ?_ 3 _ rfl; (with_reducible repeat (first | refine q5g ?_ _ | refine q6g ?_ | refine q7g ?_ _)); refine qfg (cs := #[.int .i64 t322, .int .i64 t323, .int .i64 0, .int .i64 0, .int .i64 0]) ?_ 2 _ rfl; (with_reducible repeat (first | refine q5g ?_ _ | refine q6g ?_ | refine q7g ?_ _)); refine qfg (cs := #[.int .i64 t322, .int .i64 0, .int .i64 0, .int .i64 0, .int .i64 0]) ?_ 1 _ rfl; (with_reducible repeat (first | refine q5g ?_ _ | refine q6g ?_ | refine q7g ?_ _)); refine qfg (cs := #[.int .i64 0, .int .i64 0, .int .i64 0, .int .i64 0, .int .i64 0]) ?_ 0 _ rfl; (with_reducible repeat (first | refine q5g ?_ _ | refine q6g ?_ | refine q7g ?_ _)); refine qeg ?_ NB309_308.out _; (with_reducible repeat (first | refine q5g ?_ _ | refine q6g ?_ | refine q7g ?_ _)); refine qeg ?_ NB309_308.out _; (with_reducible repeat (first | refine q5g ?_ _ | refine q6g ?_ | refine q7g ?_ _)); refine qeg ?_ NB309_308.out _; (with_reducible repeat (first | refine q5g ?_ _ | refine q6g ?_ | refine q7g ?_ _)); refine qeg ?_ NB309_308.out _; (with_reducible repeat (first | refine q5g ?_ _ | refine q6g ?_ | refine q7g ?_ _)); refine qeg ?_ NB309_308.out _; (with_reducible repeat (first | refine q5g ?_ _ | refine q6g ?_ | refine q7g ?_ _)); exact BK309.out) Try.underlying28 rfl (by kernel_rfl)) rfl ?_
    exact ⟨by first | rfl | (simp [errW_none, errW_some] <;> rfl) | (simp [*, errW_none, errW_some] <;> rfl), by repeat (first | (with_reducible first | exact HB.out | apply q1g | apply q2g | apply q3g | refine q4g ?_ GE308.out | refine q4g ?_ GE309.out | refine q4g ?_ GE321.out | refine q4g ?_ GE329.out | refine q4g ?_ GE336.out) | exact HB.out)⟩
end Go.Proofs.Ytlmgokicanlcpaa.PFnMeet
