/- The walk of the law FnMeet at the answer true: where its plain function answers true, the Go function returns true and leaves what was there. No condition beside. By program out of the print. -/
import Derived.Test.YtlmgokicanlcpaaPFnMeetx
namespace Go.Proofs.Ytlmgokicanlcpaa.PFnMeet
open Go.RowKit Go.Proofs.YtlmgokicanlcpaaW.PrintWords Go.Proofs.YtlmgokicanlcpaaW.PrintLast Go.Proofs.YtlmgokicanlcpaaW.PrintMore
attribute [local go_sem] max2_int min2_int max_two min_two max_three min_three max_four min_four   -- for this text's walks alone
set_option linter.unusedVariables false
set_option linter.unusedSimpArgs false
attribute [local go_sem high] eqA26

def laws_FnMeet.l0 : Nat → List Int → Int → Int → Int → Int → Int → Int → Int → Int → Int → Int → Int → Option (Bool)
  | 0, _, _, _, _, _, _, _, _, _, _, _, _ => none
  | k + 1, x5, x6, x359000, x359001, x359002, x359003, x359004, x360000, x360001, x360002, x360003, x360004 => if x6 < (x5.length : Int) then (if 0 ≤ x6 then ((impl_PlaceAt.f k x359000 x359001 x359002 x359003 x359004 (rd x5 x6)).bind fun bt368 => ((impl_PlaceAt.f k x360000 x360001 x360002 x360003 x360004 (rd x5 x6)).bind fun bt373 => (if bt368.2.2 = true then (if bt373.2.2 = true then (if (!(bt368.1 == bt373.1) || (!(bt368.2.1 == bt373.2.1))) = true then (some false) else ((impl_HeightAt.f x359000 x359001 x359002 x359003 x359004 (rd x5 x6)).bind fun t378 => ((impl_HeightAt.f x360000 x360001 x360002 x360003 x360004 (rd x5 x6)).bind fun t380 => (if t378 = t380 then (if x6 > 0 then (if 0 ≤ (wrap64 (x6 - 1)) then (if (wrap64 (x6 - 1)) < (x5.length : Int) then (if (rd x5 (wrap64 (x6 - 1))) ≥ (rd x5 x6) then (some false) else (laws_FnMeet.l0 k x5 (wrap64 (x6 + 1)) x359000 x359001 x359002 x359003 x359004 x360000 x360001 x360002 x360003 x360004)) else (none)) else (none)) else (laws_FnMeet.l0 k x5 (wrap64 (x6 + 1)) x359000 x359001 x359002 x359003 x359004 x360000 x360001 x360002 x360003 x360004)) else (some false))))) else (some false)) else (some false)))) else (none)) else ((impl_IsJet.f x359000 x359001 x359002 x359003 x359004).bind fun t383 => ((spec_IsJet.f x359000 x359001 x359002 x359003 x359004).bind fun t384 => (if (t383 != t384) = true then (some false) else ((impl_IsJet.f x359000 x359001 x359002 x359003 x359004).bind fun t385 => (if t385 = true then ((impl_MeetingsOf.f k x359000 x359001 x359002 x359003 x359004 x359000 x359001 x359002 x359003 x359004).bind fun t386 => ((impl_FlightOf.f x359000 x359001 x359002 x359003 x359004).bind fun t389 => (some ((t386.length : Int) == (wrap64 (t389 + 1)))))) else (some true))))))
def laws_FnMeet.f (k : Nat) (l0 : List Int) : Option (Bool) := (laws_big.f l0).bind fun t347 => (if t347 = true then (some true) else ((spec_DrawMeetingsOf.f k l0).bind fun bt348 => ((impl_MeetingsOf.f k bt348.1 bt348.2.1 bt348.2.2.1 bt348.2.2.2.1 bt348.2.2.2.2.1 bt348.2.2.2.2.2.1 bt348.2.2.2.2.2.2.1 bt348.2.2.2.2.2.2.2.1 bt348.2.2.2.2.2.2.2.2.1 bt348.2.2.2.2.2.2.2.2.2).bind fun t360 => ((impl_MeetingsOf.f k bt348.2.2.2.2.2.1 bt348.2.2.2.2.2.2.1 bt348.2.2.2.2.2.2.2.1 bt348.2.2.2.2.2.2.2.2.1 bt348.2.2.2.2.2.2.2.2.2 bt348.1 bt348.2.1 bt348.2.2.1 bt348.2.2.2.1 bt348.2.2.2.2.1).bind fun t363 => ((laws_ints.f k t360 t363).bind fun t366 => (if t366 = true then (laws_FnMeet.l0 k t360 0 bt348.1 bt348.2.1 bt348.2.2.1 bt348.2.2.2.1 bt348.2.2.2.2.1 bt348.2.2.2.2.2.1 bt348.2.2.2.2.2.2.1 bt348.2.2.2.2.2.2.2.1 bt348.2.2.2.2.2.2.2.2.1 bt348.2.2.2.2.2.2.2.2.2) else (some false)))))))
theorem laws_FnMeet.mono_l : ∀ k, (∀ y0 y1 y2 y3 y4 y5 y6 y7 y8 y9 y10 y11, LeO (laws_FnMeet.l0 k y0 y1 y2 y3 y4 y5 y6 y7 y8 y9 y10 y11) (laws_FnMeet.l0 (k + 1) y0 y1 y2 y3 y4 y5 y6 y7 y8 y9 y10 y11))
  | 0 => fun _ _ _ _ _ _ _ _ _ _ _ _ r h => by simp [laws_FnMeet.l0] at h
  | k + 1 => by
    have ih0 := laws_FnMeet.mono_l k
    · intro y0 y1 y2 y3 y4 y5 y6 y7 y8 y9 y10 y11
      unfold laws_FnMeet.l0
      repeat' first
      | (with_reducible exact ih0 _ _ _ _ _ _ _ _ _ _ _ _)
      | (with_reducible exact impl_MeetingsOf.mono _ _ _ _ _ _ _ _ _ _ _)
      | (with_reducible exact impl_PlaceAt.mono _ _ _ _ _ _ _)
      | (with_reducible exact laws_ints.mono _ _ _)
      | (with_reducible exact spec_DrawMeetingsOf.mono _ _)
      | (with_reducible exact LeO.refl _)
      | (with_reducible exact LeO.none _)
      | (with_reducible refine LeO.ite ?_ ?_)
      | (with_reducible refine LeO.bind ?_ (fun _ => ?_))
      | exact ih0 _ _ _ _ _ _ _ _ _ _ _ _
      | exact impl_MeetingsOf.mono _ _ _ _ _ _ _ _ _ _ _
      | exact impl_PlaceAt.mono _ _ _ _ _ _ _
      | exact laws_ints.mono _ _ _
      | exact spec_DrawMeetingsOf.mono _ _
      | exact LeO.none _
      | refine LeO.ite ?_ ?_
      | refine LeO.bind ?_ (fun _ => ?_)
theorem laws_FnMeet.mono : ∀ a0 k, LeO (laws_FnMeet.f k a0) (laws_FnMeet.f (k + 1) a0) := by
  intro a0 k
  have ih0 := laws_FnMeet.mono_l k
  unfold laws_FnMeet.f
  repeat' first
      | (with_reducible exact ih0 _ _ _ _ _ _ _ _ _ _ _ _)
      | (with_reducible exact impl_MeetingsOf.mono _ _ _ _ _ _ _ _ _ _ _)
      | (with_reducible exact impl_PlaceAt.mono _ _ _ _ _ _ _)
      | (with_reducible exact laws_ints.mono _ _ _)
      | (with_reducible exact spec_DrawMeetingsOf.mono _ _)
      | (with_reducible exact LeO.refl _)
      | (with_reducible exact LeO.none _)
      | (with_reducible refine LeO.ite ?_ ?_)
      | (with_reducible refine LeO.bind ?_ (fun _ => ?_))
      | exact ih0 _ _ _ _ _ _ _ _ _ _ _ _
      | exact impl_MeetingsOf.mono _ _ _ _ _ _ _ _ _ _ _
      | exact impl_PlaceAt.mono _ _ _ _ _ _ _
      | exact laws_ints.mono _ _ _
      | exact spec_DrawMeetingsOf.mono _ _
      | exact LeO.none _
      | refine LeO.ite ?_ ?_
      | refine LeO.bind ?_ (fun _ => ?_)
def laws_FnMeet.T10 : Bool × List (List Nat × List Nat) := (true, [([], []), ([], []), ([], []), ([1, 2], [1, 2]), ([3], [3]), ([0, 4], [0, 4]), ([5], [5]), ([6], [6]), ([6], [6]), ([], []), ([9, 7, 5, 0, 1, 2, 3, 4, 5, 6, 7, 9], [7, 9]), ([8, 10, 0, 1, 2, 3, 4, 5, 6, 7, 8, 9, 10], [8])])
def laws_FnMeet.B10 : List Nat := [0, 0, 0, 6, 14, 31, 63, 127, 127, 0, 767, 2047]
theorem laws_FnMeet.tab10 : rtab .any (opsOf Try.f13 10) = laws_FnMeet.T10 := by kernel_rfl
theorem laws_FnMeet.bits10 : waitsOk laws_FnMeet.T10.2 laws_FnMeet.B10 = true := by kernel_rfl
def laws_FnMeet.T11 : Bool × List (List Nat × List Nat) := (true, [([], []), ([], []), ([], []), ([1, 2], [1, 2]), ([3], [3]), ([0, 4], [0, 4]), ([5], [5]), ([6], [6]), ([6], [6]), ([], []), ([9, 7, 5, 0, 1, 2, 3, 4, 5, 6, 7, 9], [7, 9]), ([8, 10, 0, 1, 2, 3, 4, 5, 6, 7, 8, 9, 10], [8])])
def laws_FnMeet.B11 : List Nat := [0, 0, 0, 6, 14, 31, 63, 127, 127, 0, 767, 2047]
theorem laws_FnMeet.tab11 : rtab .any (opsOf Try.f13 11) = laws_FnMeet.T11 := by kernel_rfl
theorem laws_FnMeet.bits11 : waitsOk laws_FnMeet.T11.2 laws_FnMeet.B11 = true := by kernel_rfl
def laws_FnMeet.T12 : Bool × List (List Nat × List Nat) := (true, [([], []), ([0], [0]), ([1], [1]), ([2], [2]), ([3, 2], [2, 3]), ([2, 4], [2, 4]), ([5, 2], [5]), ([6], [6]), ([6], [6]), ([7, 8, 6], [6, 7, 8]), ([6, 9], [6, 9]), ([10, 6], [10]), ([11], [11]), ([11], [11]), ([11], [11]), ([13, 14, 11], [11, 13, 14]), ([15, 11], [11, 15]), ([12, 16, 11, 11], [11, 12, 16]), ([11], [11]), ([11], [11]), ([11], [11]), ([19, 20, 11], [11, 19, 20]), ([21, 11], [11, 21]), ([18, 22, 17, 11], [11, 18, 22]), ([17, 23, 11], [11, 17, 23]), ([11, 24], [11, 24]), ([25, 23], [25]), ([26], [26]), ([27, 26], [26, 27]), ([28, 26, 26], [26, 28]), ([29], [29]), ([29], [29]), ([31, 29], [29, 31]), ([30, 32, 29], [29, 30, 32]), ([33, 29], [29, 33]), ([29], [29]), ([29], [29]), ([35, 36, 29], [29, 35, 36]), ([37, 29], [29, 37]), ([34, 38, 29], [29, 34, 38]), ([29, 39, 26], [26, 29, 39]), ([26, 40], [26, 40])])
def laws_FnMeet.B12 : List Nat := [0, 1, 3, 7, 15, 31, 63, 127, 127, 511, 1023, 2047, 4095, 4095, 4095, 28671, 61439, 131071, 4095, 4095, 4095, 1576959, 3674111, 8388607, 16777215, 33554431, 67108863, 134217727, 268435455, 536870911, 1073741823, 1073741823, 3221225471, 8589934591, 17179869183, 1073741823, 1073741823, 104152956927, 241591910399, 549755813887, 1099511627775, 2199023255551]
theorem laws_FnMeet.tab12 : rtab .any (opsOf Try.f13 12) = laws_FnMeet.T12 := by kernel_rfl
theorem laws_FnMeet.bits12 : waitsOk laws_FnMeet.T12.2 laws_FnMeet.B12 = true := by kernel_rfl
def laws_FnMeet.T16 : Bool × List (List Nat × List Nat) := (true, [([], []), ([0], [0]), ([1], [1]), ([2, 1], [2]), ([3], [3]), ([3], [3]), ([4, 5, 3, 3], [3, 4, 5]), ([6, 3], [3, 6]), ([3], [3]), ([8, 6, 3], [3, 8]), ([9, 3], [3, 9]), ([7, 10, 3], [3, 7, 10]), ([3, 11], [3, 11]), ([12, 9, 0, 1, 2, 3, 4, 5, 6, 7, 8, 9, 10, 11, 12], [12])])
def laws_FnMeet.B16 : List Nat := [0, 1, 3, 7, 15, 15, 63, 127, 15, 383, 895, 2047, 4095, 8191]
theorem laws_FnMeet.tab16 : rtab .any (opsOf Try.f13 16) = laws_FnMeet.T16 := by kernel_rfl
theorem laws_FnMeet.bits16 : waitsOk laws_FnMeet.T16.2 laws_FnMeet.B16 = true := by kernel_rfl
theorem p1 : type_of% @List.setIfInBounds_toArray := @List.setIfInBounds_toArray
theorem p2 : type_of% @List.set_cons_zero := @List.set_cons_zero
theorem p3 : type_of% @List.set_cons_succ := @List.set_cons_succ
theorem q1 : type_of% @below_alloc := @below_alloc
theorem q2 : type_of% @pw_below_drewN := @pw_below_drewN
theorem q3 : type_of% @below_drew1 := @below_drew1
theorem q4 : type_of% @below_set := @below_set
theorem q5 : type_of% @blk_drewN := @blk_drewN
theorem q6 : type_of% @blk_drew := @blk_drew
theorem q7 : type_of% @blk_alloc := @blk_alloc
theorem q8 : type_of% @blk_below := @blk_below
theorem q9 : type_of% @below_step := @below_step
theorem qa : type_of% @below_size := @below_size
theorem qb : type_of% @blk_frozen := @blk_frozen
theorem qc : type_of% @blk_cell := @blk_cell
theorem qd : type_of% @blk_lt := @blk_lt
theorem qe : type_of% @blk_far := @blk_far
theorem qf : type_of% @blk_put := @blk_put
theorem qg : type_of% @Aside0.mk := @Aside0.mk
theorem qh : type_of% @box_event := @box_event
theorem qi : type_of% @cell_far := @cell_far
theorem qj : type_of% @Kd.R_below := @Kd.R_below
theorem qk : type_of% @Kd.R_alloc := @Kd.R_alloc
theorem ql : type_of% @Kd.R_drewN := @Kd.R_drewN
theorem qm : type_of% @Kd.R_drew := @Kd.R_drew
theorem qo : type_of% @Kd.C_alloc := @Kd.C_alloc
theorem qr : type_of% @Kd.C_drewN := @Kd.C_drewN
theorem qs : type_of% @Kd.C_drew := @Kd.C_drew
theorem qt : type_of% @gate_callee := @gate_callee
theorem qu : type_of% @gate_dst := @gate_dst
theorem qv : type_of% @Nat.ne_of_lt := @Nat.ne_of_lt
theorem qw : type_of% @Nat.ne_of_gt := @Nat.ne_of_gt
set_option maxHeartbeats 8000000 in
set_option maxRecDepth 100000 in
theorem laws_FnMeet.calls (k : Nat) (A0 : Option Addr) (c0 : Nat) (l0 : List Int) (r : Bool) (w : World) (hr0 : Kd.C (Kd.int .u8) w A0 l0.length l0) (hc0 : l0.length ≤ c0) (h : laws_FnMeet.f k l0 = some r) (hr : r = true) :
 Calls Try.prog 13 #[.slice A0 l0.length c0] w fun e w' => e = .returned (.bool r) ∧ Below w.heap.size w w' := by
 have HR := qg hr
 clear hr
 have hu28 := Try.underlying28
 have hu26 := Try.underlying26
 have HR0 := qg hr0
 have HC0 := qg hc0
 clear hr0 hc0
 have HB := qg (Below.refl w.heap.size w)
 have H : ((laws_big.f l0).bind fun t347 => (if t347 = true then (some true) else ((spec_DrawMeetingsOf.f k l0).bind fun bt348 => ((impl_MeetingsOf.f k bt348.1 bt348.2.1 bt348.2.2.1 bt348.2.2.2.1 bt348.2.2.2.2.1 bt348.2.2.2.2.2.1 bt348.2.2.2.2.2.2.1 bt348.2.2.2.2.2.2.2.1 bt348.2.2.2.2.2.2.2.2.1 bt348.2.2.2.2.2.2.2.2.2).bind fun t360 => ((impl_MeetingsOf.f k bt348.2.2.2.2.2.1 bt348.2.2.2.2.2.2.1 bt348.2.2.2.2.2.2.2.1 bt348.2.2.2.2.2.2.2.2.1 bt348.2.2.2.2.2.2.2.2.2 bt348.1 bt348.2.1 bt348.2.2.1 bt348.2.2.2.1 bt348.2.2.2.2.1).bind fun t363 => ((laws_ints.f k t360 t363).bind fun t366 => (if t366 = true then (laws_FnMeet.l0 k t360 0 bt348.1 bt348.2.1 bt348.2.2.1 bt348.2.2.2.1 bt348.2.2.2.2.1 bt348.2.2.2.2.2.1 bt348.2.2.2.2.2.2.1 bt348.2.2.2.2.2.2.2.1 bt348.2.2.2.2.2.2.2.2.1 bt348.2.2.2.2.2.2.2.2.2) else (some false)))))))) = some r := h
 clear h
 replace H := Option.bind_eq_some_iff.mp H
 obtain ⟨t347, A20, H⟩ := H
 replace H : (if t347 = true then (some true) else ((spec_DrawMeetingsOf.f k l0).bind fun bt348 => ((impl_MeetingsOf.f k bt348.1 bt348.2.1 bt348.2.2.1 bt348.2.2.2.1 bt348.2.2.2.2.1 bt348.2.2.2.2.2.1 bt348.2.2.2.2.2.2.1 bt348.2.2.2.2.2.2.2.1 bt348.2.2.2.2.2.2.2.2.1 bt348.2.2.2.2.2.2.2.2.2).bind fun t360 => ((impl_MeetingsOf.f k bt348.2.2.2.2.2.1 bt348.2.2.2.2.2.2.1 bt348.2.2.2.2.2.2.2.1 bt348.2.2.2.2.2.2.2.2.1 bt348.2.2.2.2.2.2.2.2.2 bt348.1 bt348.2.1 bt348.2.2.1 bt348.2.2.2.1 bt348.2.2.2.2.1).bind fun t363 => ((laws_ints.f k t360 t363).bind fun t366 => (if t366 = true then (laws_FnMeet.l0 k t360 0 bt348.1 bt348.2.1 bt348.2.2.1 bt348.2.2.2.1 bt348.2.2.2.2.1 bt348.2.2.2.2.2.1 bt348.2.2.2.2.2.2.1 bt348.2.2.2.2.2.2.2.1 bt348.2.2.2.2.2.2.2.2.1 bt348.2.2.2.2.2.2.2.2.2) else (some false))))))) = some r := H
 have A2 := qg A20
 clear A20
 by_cases c3 : t347 = true
 ·subst c3
  have H1 : (some true) = some r := by rw [if_pos rfl] at H; exact H
  clear H
  have H := H1
  clear H1
  obtain rfl := Option.some.inj H
  go_enter Try.func13, Try.ntmps13
  go_wp2_with (first | ((with_reducible refine qt (f := 50) rfl ?_); refine goesL_ (some 12) rfl rfl Try.func50 (by kernel_rfl) rfl #[.slice A0 l0.length c0] rfl (by (try simp only [List.map_toArray, List.map_cons, List.map_nil]); first | done | rfl | (simp only [List.length_drop, List.length_take]; rfl)) ?_; (with_reducible refine (laws_big.calls _ _ l0 true _ ?side1 ?side2 A2.out).mono ?_); (case side1 => repeat (first | exact HR0.out | (with_reducible refine qo ?_ _) | (with_reducible refine qr ?_ _) | (with_reducible refine qs ?_))); (case side2 => exact HC0.out); rintro e w' ⟨rfl, ⟨nd, rfl⟩⟩; refine ⟨_, rfl, ?_⟩))
  go_ret
  exact ⟨by first | rfl | (simp [errW_none, errW_some] <;> rfl) | (simp [*, errW_none, errW_some] <;> rfl), by repeat (first | (with_reducible first | exact HB.out | apply q1 | apply q2 | apply q3) | exact HB.out)⟩
 ·replace c3 := Bool.eq_false_iff.mpr c3
  subst c3
  have H1 : ((spec_DrawMeetingsOf.f k l0).bind fun bt348 => ((impl_MeetingsOf.f k bt348.1 bt348.2.1 bt348.2.2.1 bt348.2.2.2.1 bt348.2.2.2.2.1 bt348.2.2.2.2.2.1 bt348.2.2.2.2.2.2.1 bt348.2.2.2.2.2.2.2.1 bt348.2.2.2.2.2.2.2.2.1 bt348.2.2.2.2.2.2.2.2.2).bind fun t360 => ((impl_MeetingsOf.f k bt348.2.2.2.2.2.1 bt348.2.2.2.2.2.2.1 bt348.2.2.2.2.2.2.2.1 bt348.2.2.2.2.2.2.2.2.1 bt348.2.2.2.2.2.2.2.2.2 bt348.1 bt348.2.1 bt348.2.2.1 bt348.2.2.2.1 bt348.2.2.2.2.1).bind fun t363 => ((laws_ints.f k t360 t363).bind fun t366 => (if t366 = true then (laws_FnMeet.l0 k t360 0 bt348.1 bt348.2.1 bt348.2.2.1 bt348.2.2.2.1 bt348.2.2.2.2.1 bt348.2.2.2.2.2.1 bt348.2.2.2.2.2.2.1 bt348.2.2.2.2.2.2.2.1 bt348.2.2.2.2.2.2.2.2.1 bt348.2.2.2.2.2.2.2.2.2) else (some false)))))) = some r := by rw [if_neg (show ¬ (false = true) by decide)] at H; exact H
  clear H
  have H := H1
  clear H1
  replace H := Option.bind_eq_some_iff.mp H
  obtain ⟨⟨t348, t349, t350, t351, t352, t353, t354, t355, t356, t357⟩, A40, H⟩ := H
  replace H : ((impl_MeetingsOf.f k t348 t349 t350 t351 t352 t353 t354 t355 t356 t357).bind fun t360 => ((impl_MeetingsOf.f k t353 t354 t355 t356 t357 t348 t349 t350 t351 t352).bind fun t363 => ((laws_ints.f k t360 t363).bind fun t366 => (if t366 = true then (laws_FnMeet.l0 k t360 0 t348 t349 t350 t351 t352 t353 t354 t355 t356 t357) else (some false))))) = some r := H
  have A4 := qg A40
  clear A40
  replace H := Option.bind_eq_some_iff.mp H
  obtain ⟨t360, A50, H⟩ := H
  replace H : ((impl_MeetingsOf.f k t353 t354 t355 t356 t357 t348 t349 t350 t351 t352).bind fun t363 => ((laws_ints.f k t360 t363).bind fun t366 => (if t366 = true then (laws_FnMeet.l0 k t360 0 t348 t349 t350 t351 t352 t353 t354 t355 t356 t357) else (some false)))) = some r := H
  have A5 := qg A50
  clear A50
  replace H := Option.bind_eq_some_iff.mp H
  obtain ⟨t363, A60, H⟩ := H
  replace H : ((laws_ints.f k t360 t363).bind fun t366 => (if t366 = true then (laws_FnMeet.l0 k t360 0 t348 t349 t350 t351 t352 t353 t354 t355 t356 t357) else (some false))) = some r := H
  have A6 := qg A60
  clear A60
  replace H := Option.bind_eq_some_iff.mp H
  obtain ⟨t366, A70, H⟩ := H
  replace H : (if t366 = true then (laws_FnMeet.l0 k t360 0 t348 t349 t350 t351 t352 t353 t354 t355 t356 t357) else (some false)) = some r := H
  have A7 := qg A70
  clear A70
  by_cases c8 : t366 = true
  ·subst c8
   have H1 : (laws_FnMeet.l0 k t360 0 t348 t349 t350 t351 t352 t353 t354 t355 t356 t357) = some r := by rw [if_pos rfl] at H; exact H
   clear H
   have H := H1
   clear H1
   have H' := qg H
   clear H
   go_enter Try.func13, Try.ntmps13
   go_wp2_with (first | ((with_reducible refine qt (f := 50) rfl ?_); refine goesL_ (some 12) rfl rfl Try.func50 (by kernel_rfl) rfl #[.slice A0 l0.length c0] rfl (by (try simp only [List.map_toArray, List.map_cons, List.map_nil]); first | done | rfl | (simp only [List.length_drop, List.length_take]; rfl)) ?_; (with_reducible refine (laws_big.calls _ _ l0 false _ ?side1 ?side2 A2.out).mono ?_); (case side1 => repeat (first | exact HR0.out | (with_reducible refine qo ?_ _) | (with_reducible refine qr ?_ _) | (with_reducible refine qs ?_))); (case side2 => exact HC0.out); rintro e w' ⟨rfl, ⟨nd, rfl⟩⟩; refine ⟨_, rfl, ?_⟩) | ((with_reducible refine qt (f := 51) rfl ?_); refine goesL_ (some 15) rfl rfl Try.func51 (by kernel_rfl) rfl #[.slice A0 l0.length c0] rfl (by (try simp only [List.map_toArray, List.map_cons, List.map_nil]); first | done | rfl | (simp only [List.length_drop, List.length_take]; rfl)) ?_; (with_reducible refine (spec_DrawMeetingsOf.calls k _ _ l0 t348 t349 t350 t351 t352 t353 t354 t355 t356 t357 _ ?side1 ?side2 A4.out).mono ?_); (case side1 => repeat (first | exact HR0.out | (with_reducible refine qo ?_ _) | (with_reducible refine qr ?_ _) | (with_reducible refine qs ?_))); (case side2 => exact HC0.out); rintro e w9 ⟨rfl, hb⟩; refine ⟨_, rfl, ?_⟩; have n0_ := qg (q9 (by repeat (first | (with_reducible first | exact HB.out | apply q1 | apply q2 | apply q3) | exact HB.out)) hb); clear HB; have HB := n0_; clear n0_; (try clear hb); (try clear hb2); (try clear hk); (try clear hi)) | ((with_reducible refine qu (N := 3) rfl ?_); (try (refine gate_guard (by rfl) ?_; dsimp only)); refine qh ?hg (N := 3) ?hd (cs := #[.int .i64 0, .int .i64 0, .int .i64 0, .int .i64 0, .int .i64 0]) (t := 28) ?hr ?_; (case hd => rfl); (case hg => rfl); (case hr => first | (go_simp; done) | (go_simp; rfl)); intro gb358 hg w10 hbox hb; have n0_ := qg (q9 (by repeat (first | (with_reducible first | exact HB.out | apply q1 | apply q2 | apply q3) | exact HB.out)) hb); have n1_ := qg (hbox); have n2_ := qg ((by rw [hg]; exact (qa (by repeat (first | (with_reducible first | exact HB.out | apply q1 | apply q2 | apply q3) | exact HB.out))) : w.heap.size ≤ gb358)); have n3_ := qg ((by rw [hg]; exact (qa (by repeat (first | (with_reducible first | exact HB.out | apply q1 | apply q2 | apply q3) | exact HB.out))) : w.heap.size ≤ gb358)); clear HB; have HB := n0_; have BK358 := n1_; have GW358 := n2_; have GE358 := n3_; clear n0_ n1_ n2_ n3_; clear hb hbox hg) | ((with_reducible refine qu (N := 4) rfl ?_); (try (refine gate_guard (by rfl) ?_; dsimp only)); refine qh ?hg (N := 4) ?hd (cs := #[.int .i64 0, .int .i64 0, .int .i64 0, .int .i64 0, .int .i64 0]) (t := 28) ?hr ?_; (case hd => rfl); (case hg => rfl); (case hr => first | (go_simp; done) | (go_simp; rfl)); intro gb359 hg w11 hbox hb; have n0_ := qg (q8 (g := gb358) (o := .cells #[.int .i64 0, .int .i64 0, .int .i64 0, .int .i64 0, .int .i64 0] 28 (0, 0)) (by (with_reducible repeat (first | refine q5 ?_ _ | refine q6 ?_ | refine q7 ?_ _)); exact BK358.out) hb); have n1_ := qg (q9 (by repeat (first | (with_reducible first | exact HB.out | apply q1 | apply q2 | apply q3 | refine q4 ?_ GE358.out) | exact HB.out)) hb); have n2_ := qg (hbox); have n3_ := qg ((by rw [hg]; exact (qa (by repeat (first | (with_reducible first | exact HB.out | apply q1 | apply q2 | apply q3 | refine q4 ?_ GE358.out) | exact HB.out))) : w.heap.size ≤ gb359)); have n4_ := qg ((by rw [hg]; exact (qa (by repeat (first | (with_reducible first | exact HB.out | apply q1 | apply q2 | apply q3 | refine q4 ?_ GE358.out) | exact HB.out))) : w.heap.size ≤ gb359)); have n5_ := qg ((by rw [hg]; exact qv (qd (g := gb358) (o := .cells #[.int .i64 0, .int .i64 0, .int .i64 0, .int .i64 0, .int .i64 0] 28 (0, 0)) (by (with_reducible repeat (first | refine q5 ?_ _ | refine q6 ?_ | refine q7 ?_ _)); exact BK358.out)) : gb358 ≠ gb359)); have n6_ := qg ((by rw [hg]; exact qw (qd (g := gb358) (o := .cells #[.int .i64 0, .int .i64 0, .int .i64 0, .int .i64 0, .int .i64 0] 28 (0, 0)) (by (with_reducible repeat (first | refine q5 ?_ _ | refine q6 ?_ | refine q7 ?_ _)); exact BK358.out)) : gb359 ≠ gb358)); clear BK358; clear HB; have BK358 := n0_; have HB := n1_; have BK359 := n2_; have GW359 := n3_; have GE359 := n4_; have NB358_359 := n5_; have NB359_358 := n6_; clear n0_ n1_ n2_ n3_ n4_ n5_ n6_; clear hb hbox hg; have hnb12 := NB358_359.out; have hnc12 := NB359_358.out; have hcz13_0 : w11.cell? ⟨gb358, 0, none⟩ = some (.int .i64 0) := (qc BK358.out 0).trans rfl; have hcz13_1 : w11.cell? ⟨gb358, 1, none⟩ = some (.int .i64 0) := (qc BK358.out 1).trans rfl; have hcz13_2 : w11.cell? ⟨gb358, 2, none⟩ = some (.int .i64 0) := (qc BK358.out 2).trans rfl; have hcz13_3 : w11.cell? ⟨gb358, 3, none⟩ = some (.int .i64 0) := (qc BK358.out 3).trans rfl; have hcz13_4 : w11.cell? ⟨gb358, 4, none⟩ = some (.int .i64 0) := (qc BK358.out 4).trans rfl; have hfz13_0 := qb BK358.out 0; have hfz13_1 := qb BK358.out 1; have hfz13_2 := qb BK358.out 2; have hfz13_3 := qb BK358.out 3; have hfz13_4 := qb BK358.out 4; have hcz14_0 : w11.cell? ⟨gb359, 0, none⟩ = some (.int .i64 0) := (qc BK359.out 0).trans rfl; have hcz14_1 : w11.cell? ⟨gb359, 1, none⟩ = some (.int .i64 0) := (qc BK359.out 1).trans rfl; have hcz14_2 : w11.cell? ⟨gb359, 2, none⟩ = some (.int .i64 0) := (qc BK359.out 2).trans rfl; have hcz14_3 : w11.cell? ⟨gb359, 3, none⟩ = some (.int .i64 0) := (qc BK359.out 3).trans rfl; have hcz14_4 : w11.cell? ⟨gb359, 4, none⟩ = some (.int .i64 0) := (qc BK359.out 4).trans rfl; have hfz14_0 := qb BK359.out 0; have hfz14_1 := qb BK359.out 1; have hfz14_2 := qb BK359.out 2; have hfz14_3 := qb BK359.out 3; have hfz14_4 := qb BK359.out 4) | ((with_reducible refine qt (f := 44) rfl ?_); refine goesL_ (some 20) rfl rfl Try.func44 (by kernel_rfl) rfl #[.agg #[.int .i64 t348, .int .i64 t349, .int .i64 t350, .int .i64 t351, .int .i64 t352], .agg #[.int .i64 t353, .int .i64 t354, .int .i64 t355, .int .i64 t356, .int .i64 t357]] rfl (by (try simp only [List.map_toArray, List.map_cons, List.map_nil]); first | done | rfl | (simp only [List.length_drop, List.length_take]; rfl)) ?_; (with_reducible refine (impl_MeetingsOf.calls k t348 t349 t350 t351 t352 t353 t354 t355 t356 t357 t360 _ A5.out).mono ?_); rintro e w15 ⟨v361, rfl, ho0, hb⟩; refine ⟨_, rfl, ?_⟩; have n0_ := qg (Kd.R_lower ho0 (qa (by repeat (first | (with_reducible first | exact HB.out | apply q1 | apply q2 | apply q3 | refine q4 ?_ GE358.out | refine q4 ?_ GE359.out) | exact HB.out)))); have n1_ := qg (q8 (g := gb358) (o := .cells #[.int .i64 t348, .int .i64 t349, .int .i64 t350, .int .i64 t351, .int .i64 t352] 28 (0, 0)) (by (with_reducible repeat (first | refine q5 ?_ _ | refine q6 ?_ | refine q7 ?_ _)); refine qe ?_ NB358_359.out _; (with_reducible repeat (first | refine q5 ?_ _ | refine q6 ?_ | refine q7 ?_ _)); refine qe ?_ NB358_359.out _; (with_reducible repeat (first | refine q5 ?_ _ | refine q6 ?_ | refine q7 ?_ _)); refine qe ?_ NB358_359.out _; (with_reducible repeat (first | refine q5 ?_ _ | refine q6 ?_ | refine q7 ?_ _)); refine qe ?_ NB358_359.out _; (with_reducible repeat (first | refine q5 ?_ _ | refine q6 ?_ | refine q7 ?_ _)); refine qe ?_ NB358_359.out _; (with_reducible repeat (first | refine q5 ?_ _ | refine q6 ?_ | refine q7 ?_ _)); refine qf (cs := #[.int .i64 t348, .int .i64 t349, .int .i64 t350, .int .i64 t351, .int .i64 0]) ?_ 4 _ rfl; (with_reducible repeat (first | refine q5 ?_ _ | refine q6 ?_ | refine q7 ?_ _)); refine qf (cs := #[.int .i64 t348, .int .i64 t349, .int .i64 t350, .int .i64 0, .int .i64 0]) ?_ 3 _ rfl; (with_reducible repeat (first | refine q5 ?_ _ | refine q6 ?_ | refine q7 ?_ _)); refine qf (cs := #[.int .i64 t348, .int .i64 t349, .int .i64 0, .int .i64 0, .int .i64 0]) ?_ 2 _ rfl; (with_reducible repeat (first | refine q5 ?_ _ | refine q6 ?_ | refine q7 ?_ _)); refine qf (cs := #[.int .i64 t348, .int .i64 0, .int .i64 0, .int .i64 0, .int .i64 0]) ?_ 1 _ rfl; (with_reducible repeat (first | refine q5 ?_ _ | refine q6 ?_ | refine q7 ?_ _)); refine qf (cs := #[.int .i64 0, .int .i64 0, .int .i64 0, .int .i64 0, .int .i64 0]) ?_ 0 _ rfl; (with_reducible repeat (first | refine q5 ?_ _ | refine q6 ?_ | refine q7 ?_ _)); exact BK358.out) hb); have n2_ := qg (q8 (g := gb359) (o := .cells #[.int .i64 t353, .int .i64 t354, .int .i64 t355, .int .i64 t356, .int .i64 t357] 28 (0, 0)) (by (with_reducible repeat (first | refine q5 ?_ _ | refine q6 ?_ | refine q7 ?_ _)); refine qf (cs := #[.int .i64 t353, .int .i64 t354, .int .i64 t355, .int .i64 t356, .int .i64 0]) ?_ 4 _ rfl; (with_reducible repeat (first | refine q5 ?_ _ | refine q6 ?_ | refine q7 ?_ _)); refine qf (cs := #[.int .i64 t353, .int .i64 t354, .int .i64 t355, .int .i64 0, .int .i64 0]) ?_ 3 _ rfl; (with_reducible repeat (first | refine q5 ?_ _ | refine q6 ?_ | refine q7 ?_ _)); refine qf (cs := #[.int .i64 t353, .int .i64 t354, .int .i64 0, .int .i64 0, .int .i64 0]) ?_ 2 _ rfl; (with_reducible repeat (first | refine q5 ?_ _ | refine q6 ?_ | refine q7 ?_ _)); refine qf (cs := #[.int .i64 t353, .int .i64 0, .int .i64 0, .int .i64 0, .int .i64 0]) ?_ 1 _ rfl; (with_reducible repeat (first | refine q5 ?_ _ | refine q6 ?_ | refine q7 ?_ _)); refine qf (cs := #[.int .i64 0, .int .i64 0, .int .i64 0, .int .i64 0, .int .i64 0]) ?_ 0 _ rfl; (with_reducible repeat (first | refine q5 ?_ _ | refine q6 ?_ | refine q7 ?_ _)); refine qe ?_ NB359_358.out _; (with_reducible repeat (first | refine q5 ?_ _ | refine q6 ?_ | refine q7 ?_ _)); refine qe ?_ NB359_358.out _; (with_reducible repeat (first | refine q5 ?_ _ | refine q6 ?_ | refine q7 ?_ _)); refine qe ?_ NB359_358.out _; (with_reducible repeat (first | refine q5 ?_ _ | refine q6 ?_ | refine q7 ?_ _)); refine qe ?_ NB359_358.out _; (with_reducible repeat (first | refine q5 ?_ _ | refine q6 ?_ | refine q7 ?_ _)); refine qe ?_ NB359_358.out _; (with_reducible repeat (first | refine q5 ?_ _ | refine q6 ?_ | refine q7 ?_ _)); exact BK359.out) hb); have n3_ := qg (q9 (by repeat (first | (with_reducible first | exact HB.out | apply q1 | apply q2 | apply q3 | refine q4 ?_ GE358.out | refine q4 ?_ GE359.out) | exact HB.out)) hb); clear BK358; clear BK359; clear HB; have HO362 := n0_; have BK358 := n1_; have BK359 := n2_; have HB := n3_; clear n0_ n1_ n2_ n3_; (try clear hb); (try clear hb2); (try clear hk); (try clear hi); (try clear ho0); have hcz16_0 : w15.cell? ⟨gb359, 0, none⟩ = some (.int .i64 t353) := (qc BK359.out 0).trans rfl; have hcz16_1 : w15.cell? ⟨gb359, 1, none⟩ = some (.int .i64 t354) := (qc BK359.out 1).trans rfl; have hcz16_2 : w15.cell? ⟨gb359, 2, none⟩ = some (.int .i64 t355) := (qc BK359.out 2).trans rfl; have hcz16_3 : w15.cell? ⟨gb359, 3, none⟩ = some (.int .i64 t356) := (qc BK359.out 3).trans rfl; have hcz16_4 : w15.cell? ⟨gb359, 4, none⟩ = some (.int .i64 t357) := (qc BK359.out 4).trans rfl; have hfz16_0 := qb BK359.out 0; have hfz16_1 := qb BK359.out 1; have hfz16_2 := qb BK359.out 2; have hfz16_3 := qb BK359.out 3; have hfz16_4 := qb BK359.out 4; have hcz17_0 : w15.cell? ⟨gb358, 0, none⟩ = some (.int .i64 t348) := (qc BK358.out 0).trans rfl; have hcz17_1 : w15.cell? ⟨gb358, 1, none⟩ = some (.int .i64 t349) := (qc BK358.out 1).trans rfl; have hcz17_2 : w15.cell? ⟨gb358, 2, none⟩ = some (.int .i64 t350) := (qc BK358.out 2).trans rfl; have hcz17_3 : w15.cell? ⟨gb358, 3, none⟩ = some (.int .i64 t351) := (qc BK358.out 3).trans rfl; have hcz17_4 : w15.cell? ⟨gb358, 4, none⟩ = some (.int .i64 t352) := (qc BK358.out 4).trans rfl; have hfz17_0 := qb BK358.out 0; have hfz17_1 := qb BK358.out 1; have hfz17_2 := qb BK358.out 2; have hfz17_3 := qb BK358.out 3; have hfz17_4 := qb BK358.out 4) | ((with_reducible refine qt (f := 44) rfl ?_); refine goesL_ (some 24) rfl rfl Try.func44 (by kernel_rfl) rfl #[.agg #[.int .i64 t353, .int .i64 t354, .int .i64 t355, .int .i64 t356, .int .i64 t357], .agg #[.int .i64 t348, .int .i64 t349, .int .i64 t350, .int .i64 t351, .int .i64 t352]] rfl (by (try simp only [List.map_toArray, List.map_cons, List.map_nil]); first | done | rfl | (simp only [List.length_drop, List.length_take]; rfl)) ?_; (with_reducible refine (impl_MeetingsOf.calls k t353 t354 t355 t356 t357 t348 t349 t350 t351 t352 t363 _ A6.out).mono ?_); rintro e w18 ⟨v364, rfl, ho0, hb⟩; refine ⟨_, rfl, ?_⟩; have n0_ := qg (Kd.R_elder' (by (with_reducible repeat (first | apply qk | apply ql | apply qm)); exact HO362.out) (Kd.R_base ho0) hb); have n1_ := qg (Kd.R_lower (Kd.R_new' ho0 (Kd.R_lt (by (with_reducible repeat (first | apply qk | apply ql | apply qm)); exact HO362.out))) (qa (by repeat (first | (with_reducible first | exact HB.out | apply q1 | apply q2 | apply q3 | refine q4 ?_ GE358.out | refine q4 ?_ GE359.out) | exact HB.out)))); have n2_ := qg (q8 (g := gb358) (o := .cells #[.int .i64 t348, .int .i64 t349, .int .i64 t350, .int .i64 t351, .int .i64 t352] 28 (0, 0)) (by (with_reducible repeat (first | refine q5 ?_ _ | refine q6 ?_ | refine q7 ?_ _)); exact BK358.out) hb); have n3_ := qg (q8 (g := gb359) (o := .cells #[.int .i64 t353, .int .i64 t354, .int .i64 t355, .int .i64 t356, .int .i64 t357] 28 (0, 0)) (by (with_reducible repeat (first | refine q5 ?_ _ | refine q6 ?_ | refine q7 ?_ _)); exact BK359.out) hb); have n4_ := qg (q9 (by repeat (first | (with_reducible first | exact HB.out | apply q1 | apply q2 | apply q3 | refine q4 ?_ GE358.out | refine q4 ?_ GE359.out) | exact HB.out)) hb); clear HO362; clear BK358; clear BK359; clear HB; have HO362 := n0_; have HO365 := n1_; have BK358 := n2_; have BK359 := n3_; have HB := n4_; clear n0_ n1_ n2_ n3_ n4_; (try clear hb); (try clear hb2); (try clear hk); (try clear hi); (try clear ho0); obtain ⟨Ao19, co19, eo19⟩ := Kd.R_slice HO362.out; subst eo19; obtain ⟨Ao20, co20, eo20⟩ := Kd.R_slice HO365.out; subst eo20) | ((with_reducible refine qt (f := 52) rfl ?_); refine goesL_ (some 25) rfl rfl Try.func52 (by kernel_rfl) rfl #[.slice Ao19 t360.length co19, .slice Ao20 t363.length co20] rfl (by (try simp only [List.map_toArray, List.map_cons, List.map_nil]); first | done | rfl | (simp only [List.length_drop, List.length_take]; rfl)) ?_; (with_reducible refine (laws_ints.calls k _ _ t360 _ _ t363 true _ ?side1 ?side2 ?side3 ?side4 A7.out).mono ?_); (case side1 => repeat (first | exact (Kd.R_reads' HO362.out).2.2 | (with_reducible refine qo ?_ _) | (with_reducible refine qr ?_ _) | (with_reducible refine qs ?_))); (case side2 => exact (Kd.R_reads' HO362.out).2.1); (case side3 => repeat (first | exact (Kd.R_reads' HO365.out).2.2 | (with_reducible refine qo ?_ _) | (with_reducible refine qr ?_ _) | (with_reducible refine qs ?_))); (case side4 => exact (Kd.R_reads' HO365.out).2.1); rintro e w' ⟨rfl, ⟨nd, rfl⟩⟩; refine ⟨_, rfl, ?_⟩))
   go_loopg [6] k (fun kq v6 w' => ∃ (x6_1 : Int), v6 = .int .i64 x6_1 ∧ Aside0 (laws_FnMeet.l0 kq t360 x6_1 t348 t349 t350 t351 t352 t353 t354 t355 t356 t357 = some r) ∧ Aside0 (kq ≤ k) ∧ Aside0 (Kd.R (Kd.int .i64) 3 w' w.heap.size (fun _ => True) (.slice Ao19 t360.length co19) t360) ∧ Aside0 (w'.heap[gb358]? = some (.cells #[.int .i64 t348, .int .i64 t349, .int .i64 t350, .int .i64 t351, .int .i64 t352] 28 (0, 0))) ∧ Aside0 (w'.heap[gb359]? = some (.cells #[.int .i64 t353, .int .i64 t354, .int .i64 t355, .int .i64 t356, .int .i64 t357] 28 (0, 0))) ∧ Aside0 (Below w.heap.size w w'))
   case atStart => exact ⟨(0), (by first | rfl | (simp; done) | (simp [*]; done)), H', ⟨Nat.le_refl _⟩, ⟨by (with_reducible repeat (first | apply qk | apply ql | apply qm)); exact Kd.R_mono HO362.out (fun _ hk => trivial)⟩, ⟨by (with_reducible repeat (first | refine q5 ?_ _ | refine q6 ?_ | refine q7 ?_ _)); exact BK358.out⟩, ⟨by (with_reducible repeat (first | refine q5 ?_ _ | refine q6 ?_ | refine q7 ?_ _)); exact BK359.out⟩, ⟨by repeat (first | (with_reducible first | exact HB.out | apply q1 | apply q2 | apply q3 | refine q4 ?_ GE358.out | refine q4 ?_ GE359.out) | exact HB.out)⟩⟩
   case round =>
    clear H'
    try clear c1
    try clear p2
    try clear c3
    try clear c4
    try clear c5
    try clear c8
    try clear c12
    try clear c13
    try clear hcz13_0
    try clear hcz13_1
    try clear hcz13_2
    try clear hcz13_3
    try clear hcz13_4
    try clear hcz14_0
    try clear hcz14_1
    try clear hcz14_2
    try clear hcz14_3
    try clear hcz14_4
    try clear hcz16_0
    try clear hcz16_1
    try clear hcz16_2
    try clear hcz16_3
    try clear hcz16_4
    try clear hcz17_0
    try clear hcz17_1
    try clear hcz17_2
    try clear hcz17_3
    try clear hcz17_4
    try clear hfz13_0
    try clear hfz13_1
    try clear hfz13_2
    try clear hfz13_3
    try clear hfz13_4
    try clear hfz14_0
    try clear hfz14_1
    try clear hfz14_2
    try clear hfz14_3
    try clear hfz14_4
    try clear hfz16_0
    try clear hfz16_1
    try clear hfz16_2
    try clear hfz16_3
    try clear hfz16_4
    try clear hfz17_0
    try clear hfz17_1
    try clear hfz17_2
    try clear hfz17_3
    try clear hfz17_4
    obtain ⟨x6_1, rfl, HA, HK1, HO_5, BK358, BK359, HB⟩ := hrel
    cases gk with
    | zero => exact absurd HA.out (by simp [laws_FnMeet.l0])
    | succ k1 =>
     have H := HA.out
     clear HA
     simp only [laws_FnMeet.l0] at H
     by_cases c21 : x6_1 < (t360.length : Int)
     ·rw [if_pos c21] at H
      have c21b0 : decide (x6_1 < (t360.length : Int)) = true := decide_eq_true c21
      clear c21
      by_cases c22 : 0 ≤ x6_1
      ·rw [if_pos c22] at H
       have c22b0 : decide (0 ≤ x6_1) = true := decide_eq_true c22
       clear c22
       replace H := Option.bind_eq_some_iff.mp H
       obtain ⟨⟨t368, t369, t370⟩, A230, H⟩ := H
       replace H : ((impl_PlaceAt.f k1 t353 t354 t355 t356 t357 (rd t360 x6_1)).bind fun bt373 => (if t370 = true then (if bt373.2.2 = true then (if (!(t368 == bt373.1) || (!(t369 == bt373.2.1))) = true then (some false) else ((impl_HeightAt.f t348 t349 t350 t351 t352 (rd t360 x6_1)).bind fun t378 => ((impl_HeightAt.f t353 t354 t355 t356 t357 (rd t360 x6_1)).bind fun t380 => (if t378 = t380 then (if x6_1 > 0 then (if 0 ≤ (wrap64 (x6_1 - 1)) then (if (wrap64 (x6_1 - 1)) < (t360.length : Int) then (if (rd t360 (wrap64 (x6_1 - 1))) ≥ (rd t360 x6_1) then (some false) else (laws_FnMeet.l0 k1 t360 (wrap64 (x6_1 + 1)) t348 t349 t350 t351 t352 t353 t354 t355 t356 t357)) else (none)) else (none)) else (laws_FnMeet.l0 k1 t360 (wrap64 (x6_1 + 1)) t348 t349 t350 t351 t352 t353 t354 t355 t356 t357)) else (some false))))) else (some false)) else (some false))) = some r := H
       have A23 := qg A230
       clear A230
       replace H := Option.bind_eq_some_iff.mp H
       obtain ⟨⟨t373, t374, t375⟩, A240, H⟩ := H
       replace H : (if t370 = true then (if t375 = true then (if (!(t368 == t373) || (!(t369 == t374))) = true then (some false) else ((impl_HeightAt.f t348 t349 t350 t351 t352 (rd t360 x6_1)).bind fun t378 => ((impl_HeightAt.f t353 t354 t355 t356 t357 (rd t360 x6_1)).bind fun t380 => (if t378 = t380 then (if x6_1 > 0 then (if 0 ≤ (wrap64 (x6_1 - 1)) then (if (wrap64 (x6_1 - 1)) < (t360.length : Int) then (if (rd t360 (wrap64 (x6_1 - 1))) ≥ (rd t360 x6_1) then (some false) else (laws_FnMeet.l0 k1 t360 (wrap64 (x6_1 + 1)) t348 t349 t350 t351 t352 t353 t354 t355 t356 t357)) else (none)) else (none)) else (laws_FnMeet.l0 k1 t360 (wrap64 (x6_1 + 1)) t348 t349 t350 t351 t352 t353 t354 t355 t356 t357)) else (some false))))) else (some false)) else (some false)) = some r := H
       have A24 := qg A240
       clear A240
       by_cases c25 : t370 = true
       ·subst c25
        have H1 : (if t375 = true then (if (!(t368 == t373) || (!(t369 == t374))) = true then (some false) else ((impl_HeightAt.f t348 t349 t350 t351 t352 (rd t360 x6_1)).bind fun t378 => ((impl_HeightAt.f t353 t354 t355 t356 t357 (rd t360 x6_1)).bind fun t380 => (if t378 = t380 then (if x6_1 > 0 then (if 0 ≤ (wrap64 (x6_1 - 1)) then (if (wrap64 (x6_1 - 1)) < (t360.length : Int) then (if (rd t360 (wrap64 (x6_1 - 1))) ≥ (rd t360 x6_1) then (some false) else (laws_FnMeet.l0 k1 t360 (wrap64 (x6_1 + 1)) t348 t349 t350 t351 t352 t353 t354 t355 t356 t357)) else (none)) else (none)) else (laws_FnMeet.l0 k1 t360 (wrap64 (x6_1 + 1)) t348 t349 t350 t351 t352 t353 t354 t355 t356 t357)) else (some false))))) else (some false)) = some r := by rw [if_pos rfl] at H; exact H
        clear H
        have H := H1
        clear H1
        by_cases c26 : t375 = true
        ·subst c26
         have H1 : (if (!(t368 == t373) || (!(t369 == t374))) = true then (some false) else ((impl_HeightAt.f t348 t349 t350 t351 t352 (rd t360 x6_1)).bind fun t378 => ((impl_HeightAt.f t353 t354 t355 t356 t357 (rd t360 x6_1)).bind fun t380 => (if t378 = t380 then (if x6_1 > 0 then (if 0 ≤ (wrap64 (x6_1 - 1)) then (if (wrap64 (x6_1 - 1)) < (t360.length : Int) then (if (rd t360 (wrap64 (x6_1 - 1))) ≥ (rd t360 x6_1) then (some false) else (laws_FnMeet.l0 k1 t360 (wrap64 (x6_1 + 1)) t348 t349 t350 t351 t352 t353 t354 t355 t356 t357)) else (none)) else (none)) else (laws_FnMeet.l0 k1 t360 (wrap64 (x6_1 + 1)) t348 t349 t350 t351 t352 t353 t354 t355 t356 t357)) else (some false))))) = some r := by rw [if_pos rfl] at H; exact H
         clear H
         have H := H1
         clear H1
         by_cases c27 : (!(t368 == t373) || (!(t369 == t374))) = true
         ·rw [if_pos c27] at H
          have c27b0 : (!(t368 == t373) || (!(t369 == t374))) = true := c27
          clear c27
          obtain rfl := Option.some.inj H
          exact absurd HR.out (by decide)
         ·rw [if_neg c27] at H
          have c27b0 : (!(t368 == t373) || (!(t369 == t374))) = false := by simpa using c27
          clear c27
          replace H := Option.bind_eq_some_iff.mp H
          obtain ⟨t378, A430, H⟩ := H
          replace H : ((impl_HeightAt.f t353 t354 t355 t356 t357 (rd t360 x6_1)).bind fun t380 => (if t378 = t380 then (if x6_1 > 0 then (if 0 ≤ (wrap64 (x6_1 - 1)) then (if (wrap64 (x6_1 - 1)) < (t360.length : Int) then (if (rd t360 (wrap64 (x6_1 - 1))) ≥ (rd t360 x6_1) then (some false) else (laws_FnMeet.l0 k1 t360 (wrap64 (x6_1 + 1)) t348 t349 t350 t351 t352 t353 t354 t355 t356 t357)) else (none)) else (none)) else (laws_FnMeet.l0 k1 t360 (wrap64 (x6_1 + 1)) t348 t349 t350 t351 t352 t353 t354 t355 t356 t357)) else (some false))) = some r := H
          have A43 := qg A430
          clear A430
          replace H := Option.bind_eq_some_iff.mp H
          obtain ⟨t380, A440, H⟩ := H
          replace H : (if t378 = t380 then (if x6_1 > 0 then (if 0 ≤ (wrap64 (x6_1 - 1)) then (if (wrap64 (x6_1 - 1)) < (t360.length : Int) then (if (rd t360 (wrap64 (x6_1 - 1))) ≥ (rd t360 x6_1) then (some false) else (laws_FnMeet.l0 k1 t360 (wrap64 (x6_1 + 1)) t348 t349 t350 t351 t352 t353 t354 t355 t356 t357)) else (none)) else (none)) else (laws_FnMeet.l0 k1 t360 (wrap64 (x6_1 + 1)) t348 t349 t350 t351 t352 t353 t354 t355 t356 t357)) else (some false)) = some r := H
          have A44 := qg A440
          clear A440
          by_cases c45 : t378 = t380
          ·rw [if_pos c45] at H
           have c45b0 : (t378 == t380) = true := beq_iff_eq.mpr c45
           have c45b1 : (t378 != t380) = false := bne_eq_false_iff_eq.mpr c45
           clear c45
           by_cases c46 : x6_1 > 0
           ·rw [if_pos c46] at H
            have c46b0 : decide (0 < x6_1) = true := decide_eq_true c46
            clear c46
            obtain ⟨ji47, hji47⟩ : ∃ j_ : Int, (wrap64 (x6_1 - 1)) = j_ := ⟨_, rfl⟩
            replace H : (if 0 ≤ (ji47) then (if (ji47) < (t360.length : Int) then (if (rd t360 (ji47)) ≥ (rd t360 x6_1) then (some false) else (laws_FnMeet.l0 k1 t360 (wrap64 (x6_1 + 1)) t348 t349 t350 t351 t352 t353 t354 t355 t356 t357)) else (none)) else (none)) = some r := by first | (rw [hji47] at H; exact H) | (simp only [hji47] at H ⊢; exact H)
            (try rw [hji47] at A23)
            (try rw [hji47] at A24)
            (try rw [hji47] at A43)
            (try rw [hji47] at A44)
            have hji47w : (IntKind.i64.wrap (x6_1 - 1)) = ji47 := (i64_w _).trans hji47
            by_cases c48 : 0 ≤ (ji47)
            ·rw [if_pos c48] at H
             have c48b0 : decide (0 ≤ (ji47)) = true := decide_eq_true c48
             clear c48
             by_cases c49 : (ji47) < (t360.length : Int)
             ·rw [if_pos c49] at H
              have c49b0 : decide ((ji47) < (t360.length : Int)) = true := decide_eq_true c49
              clear c49
              by_cases c50 : (rd t360 (ji47)) ≥ (rd t360 x6_1)
              ·rw [if_pos c50] at H
               have c50b0 : decide ((rd t360 x6_1) ≤ (rd t360 (ji47))) = true := decide_eq_true c50
               clear c50
               obtain rfl := Option.some.inj H
               exact absurd HR.out (by decide)
              ·rw [if_neg c50] at H
               have c50b0 : decide ((rd t360 x6_1) ≤ (rd t360 (ji47))) = false := decide_eq_false c50
               clear c50
               have H' := qg H
               clear H
               try go_wp2
               have n0_ := qg (qm HO_5.out)
               have n1_ := qg (q6 BK358.out)
               have n2_ := qg (q6 BK359.out)
               have n3_ := qg (q3 HB.out)
               clear HO_5
               clear BK358
               clear BK359
               clear HB
               have HO_5 := n0_
               have BK358 := n1_
               have BK359 := n2_
               have HB := n3_
               clear n0_ n1_ n2_ n3_
               have p367 : 0 ≤ (x6_1 : Int) := of_decide_eq_true (by first | (with_reducible assumption) | assumption)
               have q367 : x6_1 < (t360.length : Int) := of_decide_eq_true (by first | (with_reducible assumption) | assumption)
               obtain ⟨ad367, e367, hx367_0⟩ := Kd.at_int (Kd.R_reads' HO_5.out).2.2 x6_1 p367 q367
               cases e367
               replace p367 := eq_true p367
               replace q367 := eq_true q367
               refine start_ (n := 12) (S := fun w' => w'.cell? ⟨gb358, 0, none⟩ = some (.int .i64 t348) ∧ w'.cell? ⟨gb358, 1, none⟩ = some (.int .i64 t349) ∧ w'.cell? ⟨gb358, 2, none⟩ = some (.int .i64 t350) ∧ w'.cell? ⟨gb358, 3, none⟩ = some (.int .i64 t351) ∧ w'.cell? ⟨gb358, 4, none⟩ = some (.int .i64 t352) ∧ w'.cell? (ad367.add (x6_1).toNat) = some (.int .i64 (rd t360 x6_1))) (ds := []) #[false, false, false, false, false, false, false, false, false, false, false, false] (by kernel_rfl) rfl rfl ⟨(qc BK358.out 0).trans rfl, (qc BK358.out 1).trans rfl, (qc BK358.out 2).trans rfl, (qc BK358.out 3).trans rfl, (qc BK358.out 4).trans rfl, hx367_0⟩ (fun hHeld => ?_); refine with_tabW laws_FnMeet.tab10 laws_FnMeet.bits10 (fun HT_ HW_ => ?_)
               generalize wr.drew = w68 at HO_5 BK358 BK359 HB hx367_0 hHeld ⊢
               refine pure_ (i := 1) (N := some 35) (v := ?_) (a' := ?_) #[false, true, false, false, false, false, false, false, false, false, false, false] rfl rfl (any_of HT_.out (by kernel_rfl)) (fun _ _ _ h => h) (Or.inl ⟨by rfl, ?_⟩) ?_ ?_
               rotate_left
               ·intro w'
                go_simp
                with_reducible rfl
               rotate_left
               ·simp only [Act.put, p1, p2, p3, i64_w, i32_w]
                rfl
               refine pure_ (i := 2) (N := some 36) (v := ?_) (a' := ?_) #[false, true, true, false, false, false, false, false, false, false, false, false] rfl rfl (any_of HT_.out (by kernel_rfl)) (fun _ _ _ h => h) (Or.inl ⟨by rfl, ?_⟩) ?_ ?_
               rotate_left
               ·intro w'
                go_simp
                with_reducible rfl
               rotate_left
               ·simp only [Act.put, p1, p2, p3, i64_w, i32_w]
                rfl
               refine pure_ (i := 3) (N := some 37) (v := ?_) (a' := ?_) #[false, true, true, true, false, false, false, false, false, false, false, false] rfl rfl (any_of HT_.out (by kernel_rfl)) (fun _ _ _ h => h) (Or.inl ⟨by rfl, ?_⟩) ?_ ?_
               rotate_left
               ·intro w'
                go_simp
                with_reducible rfl
               rotate_left
               ·simp only [Act.put, p1, p2, p3, i64_w, i32_w]
                rfl
               refine take_ (i := 0) (N := some 34) (v := ?_) (a' := ?_) #[true, true, true, true, false, false, false, false, false, false, false, false] rfl rfl (take_ofW HT_.out HW_.out (by kernel_rfl)) (fun _ _ _ h => h) (Or.inl ⟨by rfl, ?_⟩) hHeld ?_ ?_
               rotate_left
               ·rintro w' ⟨s0, s1, s2, s3, s4, s5⟩
                go_simp
                with_reducible rfl
               rotate_left
               ·simp only [Act.put, p1, p2, p3, i64_w, i32_w]
                rfl
               refine take_ (i := 4) (N := some 38) (v := ?_) (a' := ?_) #[true, true, true, true, true, false, false, false, false, false, false, false] rfl rfl (take_ofW HT_.out HW_.out (by kernel_rfl)) (fun _ _ _ h => h) (Or.inl ⟨by rfl, ?_⟩) hHeld ?_ ?_
               rotate_left
               ·rintro w' ⟨s0, s1, s2, s3, s4, s5⟩
                go_simp
                with_reducible rfl
               rotate_left
               ·simp only [Act.put, p1, p2, p3, i64_w, i32_w]
                rfl
               refine join_ (σ := Nat) 2 #[true, true, true, true, true, true, true, true, true, true, false, false] (fun s_ => [(39, .tuple #[.agg #[.int .i64 t368, .int .i64 t369], .bool true]), (7, .pointer (some ⟨s_, 0, none⟩)), (33, .tuple #[.agg #[.int .i64 t368, .int .i64 t369], .bool true]), (40, .agg #[.int .i64 t368, .int .i64 t369]), (41, .bool true)]) (fun s_ w' => (w'.cell? ⟨gb358, 0, none⟩ = some (.int .i64 t348) ∧ w'.cell? ⟨gb358, 1, none⟩ = some (.int .i64 t349) ∧ w'.cell? ⟨gb358, 2, none⟩ = some (.int .i64 t350) ∧ w'.cell? ⟨gb358, 3, none⟩ = some (.int .i64 t351) ∧ w'.cell? ⟨gb358, 4, none⟩ = some (.int .i64 t352) ∧ w'.cell? (ad367.add (x6_1).toNat) = some (.int .i64 (rd t360 x6_1))) ∧ (Kd.R (Kd.int .i64) 3 w' w.heap.size (fun _ => True) (.slice (some ad367) t360.length co19) t360) ∧ (w'.heap[gb358]? = some (.cells #[.int .i64 t348, .int .i64 t349, .int .i64 t350, .int .i64 t351, .int .i64 t352] 28 (0, 0))) ∧ (w'.heap[gb359]? = some (.cells #[.int .i64 t353, .int .i64 t354, .int .i64 t355, .int .i64 t356, .int .i64 t357] 28 (0, 0))) ∧ (w'.heap[s_]? = some (.cells #[.int .i64 0, .int .i64 0] 26 (0, 0))) ∧ (w.heap.size ≤ s_) ∧ (w.heap.size ≤ s_) ∧ (gb358 ≠ s_) ∧ (s_ ≠ gb358) ∧ (gb359 ≠ s_) ∧ (s_ ≠ gb359) ∧ (Below w.heap.size w w')) ?_ ?_
               rotate_left
               ·intro hCont
                refine two_ (i := 5) (j := 9) (Ni := some 39) (Nj := some 7) #[true, true, true, true, true, true, false, false, false, false, false, false] #[true, true, true, true, true, false, false, false, false, true, false, false] rfl rfl rfl rfl (two_of HT_.out (by kernel_rfl)) (by decide) (by decide) (fun K hK => ?_) (fun K hK => ?_)
                ·skip
                 refine goes_ Try.func26 (by kernel_rfl) rfl #[.agg #[.int .i64 t348, .int .i64 t349, .int .i64 t350, .int .i64 t351, .int .i64 t352], .int .i64 (rd t360 x6_1)] (by rfl) rfl rfl (by (try simp only [List.map_toArray, List.map_cons, List.map_nil]); first | done | rfl | (simp only [List.length_drop, List.length_take]; rfl)) ?_
                 with_reducible refine (impl_PlaceAt.calls k1 t348 t349 t350 t351 t352 (rd t360 x6_1) t368 t369 true _ A23.out).mono ?_
                 rintro e w69 ⟨rfl, hb⟩
                 have HS5_ := (hb.cell (World.block_lt_of_cell? _ _ (hHeld.2.2.2.2.2))).trans (hHeld.2.2.2.2.2)
                 refine ⟨_, rfl, ?_⟩
                 have n0_ := qg (qj (by (with_reducible repeat (first | apply qk | apply ql | apply qm)); exact HO_5.out) hb)
                 have n1_ := qg (q8 (g := gb358) (o := .cells #[.int .i64 t348, .int .i64 t349, .int .i64 t350, .int .i64 t351, .int .i64 t352] 28 (0, 0)) (by (with_reducible repeat (first | refine q5 ?_ _ | refine q6 ?_ | refine q7 ?_ _)); exact BK358.out) hb)
                 have n2_ := qg (q8 (g := gb359) (o := .cells #[.int .i64 t353, .int .i64 t354, .int .i64 t355, .int .i64 t356, .int .i64 t357] 28 (0, 0)) (by (with_reducible repeat (first | refine q5 ?_ _ | refine q6 ?_ | refine q7 ?_ _)); exact BK359.out) hb)
                 have n3_ := qg (q9 (by repeat (first | (with_reducible first | exact HB.out | apply q1 | apply q2 | apply q3 | refine q4 ?_ GE358.out | refine q4 ?_ GE359.out) | exact HB.out)) hb)
                 clear HO_5
                 clear BK358
                 clear BK359
                 clear HB
                 have HO_5 := n0_
                 have BK358 := n1_
                 have BK359 := n2_
                 have HB := n3_
                 clear n0_ n1_ n2_ n3_
                 (try clear hb)
                 (try clear hb2)
                 (try clear hk)
                 (try clear hi)
                 refine hK.out _ _ ⟨(qc BK358.out 0).trans rfl, (qc BK358.out 1).trans rfl, (qc BK358.out 2).trans rfl, (qc BK358.out 3).trans rfl, (qc BK358.out 4).trans rfl, HS5_⟩ (fun hHeld => ?_)
                 clear hK K
                 refine norm_ (a' := ?_) ?_ ?_
                 rotate_left
                 ·show Act.put _ (some 39) _ = _
                  simp only [Act.put, p1, p2, p3, i64_w, i32_w]
                  rfl
                 refine pure_ (i := 6) (N := some 33) (v := ?_) (a' := ?_) #[true, true, true, true, true, true, true, false, false, false, false, false] rfl rfl (any_of HT_.out (by kernel_rfl)) (fun _ _ _ h => h) (Or.inl ⟨by rfl, ?_⟩) ?_ ?_
                 rotate_left
                 ·intro w'
                  go_simp
                  with_reducible rfl
                 rotate_left
                 ·simp only [Act.put, p1, p2, p3, i64_w, i32_w]
                  rfl
                 refine pure_ (i := 7) (N := some 40) (v := ?_) (a' := ?_) #[true, true, true, true, true, true, true, true, false, false, false, false] rfl rfl (any_of HT_.out (by kernel_rfl)) (fun _ _ _ h => h) (Or.inl ⟨by rfl, ?_⟩) ?_ ?_
                 rotate_left
                 ·intro w'
                  go_simp
                  with_reducible rfl
                 rotate_left
                 ·simp only [Act.put, p1, p2, p3, i64_w, i32_w]
                  rfl
                 refine pure_ (i := 8) (N := some 41) (v := ?_) (a' := ?_) #[true, true, true, true, true, true, true, true, true, false, false, false] rfl rfl (any_of HT_.out (by kernel_rfl)) (fun _ _ _ h => h) (Or.inl ⟨by rfl, ?_⟩) ?_ ?_
                 rotate_left
                 ·intro w'
                  go_simp
                  with_reducible rfl
                 rotate_left
                 ·simp only [Act.put, p1, p2, p3, i64_w, i32_w]
                  rfl
                 refine one_ (i := 9) (N := some 7) #[true, true, true, true, true, true, true, true, true, true, false, false] rfl rfl (one_of HT_.out (by kernel_rfl)) (by decide) (fun K hK => ?_)
                 refine box_step ?hg (N := 7) ?hd (cs := #[.int .i64 0, .int .i64 0]) (t := 26) ?hr ?_; (case hd => rfl); (case hg => rfl); (case hr => first | (go_simp; done) | (go_simp; rfl))
                 intro gb371 hg w70 hbox hb
                 have HS5_ := (hb.cell (World.block_lt_of_cell? _ _ (hHeld.2.2.2.2.2))).trans (hHeld.2.2.2.2.2)
                 have n0_ := qg (qj (by (with_reducible repeat (first | apply qk | apply ql | apply qm)); exact HO_5.out) hb)
                 have n1_ := qg (q8 (g := gb358) (o := .cells #[.int .i64 t348, .int .i64 t349, .int .i64 t350, .int .i64 t351, .int .i64 t352] 28 (0, 0)) (by (with_reducible repeat (first | refine q5 ?_ _ | refine q6 ?_ | refine q7 ?_ _)); exact BK358.out) hb)
                 have n2_ := qg (q8 (g := gb359) (o := .cells #[.int .i64 t353, .int .i64 t354, .int .i64 t355, .int .i64 t356, .int .i64 t357] 28 (0, 0)) (by (with_reducible repeat (first | refine q5 ?_ _ | refine q6 ?_ | refine q7 ?_ _)); exact BK359.out) hb)
                 have n3_ := qg (q9 (by repeat (first | (with_reducible first | exact HB.out | apply q1 | apply q2 | apply q3 | refine q4 ?_ GE358.out | refine q4 ?_ GE359.out) | exact HB.out)) hb)
                 have n4_ := qg (hbox)
                 have n5_ := qg ((by rw [hg]; exact (qa (by repeat (first | (with_reducible first | exact HB.out | apply q1 | apply q2 | apply q3 | refine q4 ?_ GE358.out | refine q4 ?_ GE359.out) | exact HB.out))) : w.heap.size ≤ gb371))
                 have n6_ := qg ((by rw [hg]; exact (qa (by repeat (first | (with_reducible first | exact HB.out | apply q1 | apply q2 | apply q3 | refine q4 ?_ GE358.out | refine q4 ?_ GE359.out) | exact HB.out))) : w.heap.size ≤ gb371))
                 have n7_ := qg ((by rw [hg]; exact qv (qd (g := gb358) (o := .cells #[.int .i64 t348, .int .i64 t349, .int .i64 t350, .int .i64 t351, .int .i64 t352] 28 (0, 0)) (by (with_reducible repeat (first | refine q5 ?_ _ | refine q6 ?_ | refine q7 ?_ _)); exact BK358.out)) : gb358 ≠ gb371))
                 have n8_ := qg ((by rw [hg]; exact qw (qd (g := gb358) (o := .cells #[.int .i64 t348, .int .i64 t349, .int .i64 t350, .int .i64 t351, .int .i64 t352] 28 (0, 0)) (by (with_reducible repeat (first | refine q5 ?_ _ | refine q6 ?_ | refine q7 ?_ _)); exact BK358.out)) : gb371 ≠ gb358))
                 have n9_ := qg ((by rw [hg]; exact qv (qd (g := gb359) (o := .cells #[.int .i64 t353, .int .i64 t354, .int .i64 t355, .int .i64 t356, .int .i64 t357] 28 (0, 0)) (by (with_reducible repeat (first | refine q5 ?_ _ | refine q6 ?_ | refine q7 ?_ _)); exact BK359.out)) : gb359 ≠ gb371))
                 have n10_ := qg ((by rw [hg]; exact qw (qd (g := gb359) (o := .cells #[.int .i64 t353, .int .i64 t354, .int .i64 t355, .int .i64 t356, .int .i64 t357] 28 (0, 0)) (by (with_reducible repeat (first | refine q5 ?_ _ | refine q6 ?_ | refine q7 ?_ _)); exact BK359.out)) : gb371 ≠ gb359))
                 clear HO_5
                 clear BK358
                 clear BK359
                 clear HB
                 have HO_5 := n0_
                 have BK358 := n1_
                 have BK359 := n2_
                 have HB := n3_
                 have BK371 := n4_
                 have GW371 := n5_
                 have GE371 := n6_
                 have NB358_371 := n7_
                 have NB371_358 := n8_
                 have NB359_371 := n9_
                 have NB371_359 := n10_
                 clear n0_ n1_ n2_ n3_ n4_ n5_ n6_ n7_ n8_ n9_ n10_
                 clear hb hbox hg
                 refine hK.out _ _ ⟨(qc BK358.out 0).trans rfl, (qc BK358.out 1).trans rfl, (qc BK358.out 2).trans rfl, (qc BK358.out 3).trans rfl, (qc BK358.out 4).trans rfl, HS5_⟩ (fun hHeld => ?_)
                 clear hK K
                 refine norm_ (a' := ?_) ?_ ?_
                 rotate_left
                 ·show Act.put _ (some 7) _ = _
                  simp only [Act.put, p1, p2, p3, i64_w, i32_w]
                  rfl
                 exact norm_ (by simp only [putAll, Act.put, p1, p2, p3]) (hCont (gb371) _ ⟨hHeld, (by (with_reducible repeat (first | apply qk | apply ql | apply qm)); exact HO_5.out), (by (with_reducible repeat (first | refine q5 ?_ _ | refine q6 ?_ | refine q7 ?_ _)); exact BK358.out), (by (with_reducible repeat (first | refine q5 ?_ _ | refine q6 ?_ | refine q7 ?_ _)); exact BK359.out), (by (with_reducible repeat (first | refine q5 ?_ _ | refine q6 ?_ | refine q7 ?_ _)); exact BK371.out), GW371.out, GE371.out, NB358_371.out, NB371_358.out, NB359_371.out, NB371_359.out, (by repeat (first | (with_reducible first | exact HB.out | apply q1 | apply q2 | apply q3 | refine q4 ?_ GE358.out | refine q4 ?_ GE359.out | refine q4 ?_ GE371.out) | exact HB.out))⟩)
                ·skip
                 refine box_step ?hg (N := 7) ?hd (cs := #[.int .i64 0, .int .i64 0]) (t := 26) ?hr ?_; (case hd => rfl); (case hg => rfl); (case hr => first | (go_simp; done) | (go_simp; rfl))
                 intro gb371 hg w69 hbox hb
                 have HS5_ := (hb.cell (World.block_lt_of_cell? _ _ (hHeld.2.2.2.2.2))).trans (hHeld.2.2.2.2.2)
                 have n0_ := qg (qj (by (with_reducible repeat (first | apply qk | apply ql | apply qm)); exact HO_5.out) hb)
                 have n1_ := qg (q8 (g := gb358) (o := .cells #[.int .i64 t348, .int .i64 t349, .int .i64 t350, .int .i64 t351, .int .i64 t352] 28 (0, 0)) (by (with_reducible repeat (first | refine q5 ?_ _ | refine q6 ?_ | refine q7 ?_ _)); exact BK358.out) hb)
                 have n2_ := qg (q8 (g := gb359) (o := .cells #[.int .i64 t353, .int .i64 t354, .int .i64 t355, .int .i64 t356, .int .i64 t357] 28 (0, 0)) (by (with_reducible repeat (first | refine q5 ?_ _ | refine q6 ?_ | refine q7 ?_ _)); exact BK359.out) hb)
                 have n3_ := qg (q9 (by repeat (first | (with_reducible first | exact HB.out | apply q1 | apply q2 | apply q3 | refine q4 ?_ GE358.out | refine q4 ?_ GE359.out) | exact HB.out)) hb)
                 have n4_ := qg (hbox)
                 have n5_ := qg ((by rw [hg]; exact (qa (by repeat (first | (with_reducible first | exact HB.out | apply q1 | apply q2 | apply q3 | refine q4 ?_ GE358.out | refine q4 ?_ GE359.out) | exact HB.out))) : w.heap.size ≤ gb371))
                 have n6_ := qg ((by rw [hg]; exact (qa (by repeat (first | (with_reducible first | exact HB.out | apply q1 | apply q2 | apply q3 | refine q4 ?_ GE358.out | refine q4 ?_ GE359.out) | exact HB.out))) : w.heap.size ≤ gb371))
                 have n7_ := qg ((by rw [hg]; exact qv (qd (g := gb358) (o := .cells #[.int .i64 t348, .int .i64 t349, .int .i64 t350, .int .i64 t351, .int .i64 t352] 28 (0, 0)) (by (with_reducible repeat (first | refine q5 ?_ _ | refine q6 ?_ | refine q7 ?_ _)); exact BK358.out)) : gb358 ≠ gb371))
                 have n8_ := qg ((by rw [hg]; exact qw (qd (g := gb358) (o := .cells #[.int .i64 t348, .int .i64 t349, .int .i64 t350, .int .i64 t351, .int .i64 t352] 28 (0, 0)) (by (with_reducible repeat (first | refine q5 ?_ _ | refine q6 ?_ | refine q7 ?_ _)); exact BK358.out)) : gb371 ≠ gb358))
                 have n9_ := qg ((by rw [hg]; exact qv (qd (g := gb359) (o := .cells #[.int .i64 t353, .int .i64 t354, .int .i64 t355, .int .i64 t356, .int .i64 t357] 28 (0, 0)) (by (with_reducible repeat (first | refine q5 ?_ _ | refine q6 ?_ | refine q7 ?_ _)); exact BK359.out)) : gb359 ≠ gb371))
                 have n10_ := qg ((by rw [hg]; exact qw (qd (g := gb359) (o := .cells #[.int .i64 t353, .int .i64 t354, .int .i64 t355, .int .i64 t356, .int .i64 t357] 28 (0, 0)) (by (with_reducible repeat (first | refine q5 ?_ _ | refine q6 ?_ | refine q7 ?_ _)); exact BK359.out)) : gb371 ≠ gb359))
                 clear HO_5
                 clear BK358
                 clear BK359
                 clear HB
                 have HO_5 := n0_
                 have BK358 := n1_
                 have BK359 := n2_
                 have HB := n3_
                 have BK371 := n4_
                 have GW371 := n5_
                 have GE371 := n6_
                 have NB358_371 := n7_
                 have NB371_358 := n8_
                 have NB359_371 := n9_
                 have NB371_359 := n10_
                 clear n0_ n1_ n2_ n3_ n4_ n5_ n6_ n7_ n8_ n9_ n10_
                 clear hb hbox hg
                 refine hK.out _ _ ⟨(qc BK358.out 0).trans rfl, (qc BK358.out 1).trans rfl, (qc BK358.out 2).trans rfl, (qc BK358.out 3).trans rfl, (qc BK358.out 4).trans rfl, HS5_⟩ (fun hHeld => ?_)
                 clear hK K
                 refine norm_ (a' := ?_) ?_ ?_
                 rotate_left
                 ·show Act.put _ (some 7) _ = _
                  simp only [Act.put, p1, p2, p3, i64_w, i32_w]
                  rfl
                 refine one_ (i := 5) (N := some 39) #[true, true, true, true, true, true, false, false, false, true, false, false] rfl rfl (one_of HT_.out (by kernel_rfl)) (by decide) (fun K hK => ?_)
                 refine goes_ Try.func26 (by kernel_rfl) rfl #[.agg #[.int .i64 t348, .int .i64 t349, .int .i64 t350, .int .i64 t351, .int .i64 t352], .int .i64 (rd t360 x6_1)] (by rfl) rfl rfl (by (try simp only [List.map_toArray, List.map_cons, List.map_nil]); first | done | rfl | (simp only [List.length_drop, List.length_take]; rfl)) ?_
                 with_reducible refine (impl_PlaceAt.calls k1 t348 t349 t350 t351 t352 (rd t360 x6_1) t368 t369 true _ A23.out).mono ?_
                 rintro e w70 ⟨rfl, hb⟩
                 have HS5_ := (hb.cell (World.block_lt_of_cell? _ _ (hHeld.2.2.2.2.2))).trans (hHeld.2.2.2.2.2)
                 refine ⟨_, rfl, ?_⟩
                 have n0_ := qg (qj (by (with_reducible repeat (first | apply qk | apply ql | apply qm)); exact HO_5.out) hb)
                 have n1_ := qg (q8 (g := gb358) (o := .cells #[.int .i64 t348, .int .i64 t349, .int .i64 t350, .int .i64 t351, .int .i64 t352] 28 (0, 0)) (by (with_reducible repeat (first | refine q5 ?_ _ | refine q6 ?_ | refine q7 ?_ _)); exact BK358.out) hb)
                 have n2_ := qg (q8 (g := gb359) (o := .cells #[.int .i64 t353, .int .i64 t354, .int .i64 t355, .int .i64 t356, .int .i64 t357] 28 (0, 0)) (by (with_reducible repeat (first | refine q5 ?_ _ | refine q6 ?_ | refine q7 ?_ _)); exact BK359.out) hb)
                 have n3_ := qg (q8 (g := gb371) (o := .cells #[.int .i64 0, .int .i64 0] 26 (0, 0)) (by (with_reducible repeat (first | refine q5 ?_ _ | refine q6 ?_ | refine q7 ?_ _)); exact BK371.out) hb)
                 have n4_ := qg (q9 (by repeat (first | (with_reducible first | exact HB.out | apply q1 | apply q2 | apply q3 | refine q4 ?_ GE358.out | refine q4 ?_ GE359.out | refine q4 ?_ GE371.out) | exact HB.out)) hb)
                 clear HO_5
                 clear BK358
                 clear BK359
                 clear BK371
                 clear HB
                 have HO_5 := n0_
                 have BK358 := n1_
                 have BK359 := n2_
                 have BK371 := n3_
                 have HB := n4_
                 clear n0_ n1_ n2_ n3_ n4_
                 (try clear hb)
                 (try clear hb2)
                 (try clear hk)
                 (try clear hi)
                 refine hK.out _ _ ⟨(qc BK358.out 0).trans rfl, (qc BK358.out 1).trans rfl, (qc BK358.out 2).trans rfl, (qc BK358.out 3).trans rfl, (qc BK358.out 4).trans rfl, HS5_⟩ (fun hHeld => ?_)
                 clear hK K
                 refine norm_ (a' := ?_) ?_ ?_
                 rotate_left
                 ·show Act.put _ (some 39) _ = _
                  simp only [Act.put, p1, p2, p3, i64_w, i32_w]
                  rfl
                 refine pure_ (i := 6) (N := some 33) (v := ?_) (a' := ?_) #[true, true, true, true, true, true, true, false, false, true, false, false] rfl rfl (any_of HT_.out (by kernel_rfl)) (fun _ _ _ h => h) (Or.inl ⟨by rfl, ?_⟩) ?_ ?_
                 rotate_left
                 ·intro w'
                  go_simp
                  with_reducible rfl
                 rotate_left
                 ·simp only [Act.put, p1, p2, p3, i64_w, i32_w]
                  rfl
                 refine pure_ (i := 7) (N := some 40) (v := ?_) (a' := ?_) #[true, true, true, true, true, true, true, true, false, true, false, false] rfl rfl (any_of HT_.out (by kernel_rfl)) (fun _ _ _ h => h) (Or.inl ⟨by rfl, ?_⟩) ?_ ?_
                 rotate_left
                 ·intro w'
                  go_simp
                  with_reducible rfl
                 rotate_left
                 ·simp only [Act.put, p1, p2, p3, i64_w, i32_w]
                  rfl
                 refine pure_ (i := 8) (N := some 41) (v := ?_) (a' := ?_) #[true, true, true, true, true, true, true, true, true, true, false, false] rfl rfl (any_of HT_.out (by kernel_rfl)) (fun _ _ _ h => h) (Or.inl ⟨by rfl, ?_⟩) ?_ ?_
                 rotate_left
                 ·intro w'
                  go_simp
                  with_reducible rfl
                 rotate_left
                 ·simp only [Act.put, p1, p2, p3, i64_w, i32_w]
                  rfl
                 exact norm_ (by simp only [putAll, Act.put, p1, p2, p3]) (hCont (gb371) _ ⟨hHeld, (by (with_reducible repeat (first | apply qk | apply ql | apply qm)); exact HO_5.out), (by (with_reducible repeat (first | refine q5 ?_ _ | refine q6 ?_ | refine q7 ?_ _)); exact BK358.out), (by (with_reducible repeat (first | refine q5 ?_ _ | refine q6 ?_ | refine q7 ?_ _)); exact BK359.out), (by (with_reducible repeat (first | refine q5 ?_ _ | refine q6 ?_ | refine q7 ?_ _)); exact BK371.out), GW371.out, GE371.out, NB358_371.out, NB371_358.out, NB359_371.out, NB371_359.out, (by repeat (first | (with_reducible first | exact HB.out | apply q1 | apply q2 | apply q3 | refine q4 ?_ GE358.out | refine q4 ?_ GE359.out | refine q4 ?_ GE371.out) | exact HB.out))⟩)
               rintro gb371 w71 ⟨hS_, h0_, h1_, h2_, h3_, h4_, h5_, h6_, h7_, h8_, h9_, h10_⟩
               have n0_ : Aside0 (Kd.R (Kd.int .i64) 3 w71 w.heap.size (fun _ => True) (.slice (some ad367) t360.length co19) t360) := ⟨h0_⟩
               have n1_ : Aside0 (w71.heap[gb358]? = some (.cells #[.int .i64 t348, .int .i64 t349, .int .i64 t350, .int .i64 t351, .int .i64 t352] 28 (0, 0))) := ⟨h1_⟩
               have n2_ : Aside0 (w71.heap[gb359]? = some (.cells #[.int .i64 t353, .int .i64 t354, .int .i64 t355, .int .i64 t356, .int .i64 t357] 28 (0, 0))) := ⟨h2_⟩
               have n3_ : Aside0 (w71.heap[gb371]? = some (.cells #[.int .i64 0, .int .i64 0] 26 (0, 0))) := ⟨h3_⟩
               have n4_ : Aside0 (w.heap.size ≤ gb371) := ⟨h4_⟩
               have n5_ : Aside0 (w.heap.size ≤ gb371) := ⟨h5_⟩
               have n6_ : Aside0 (gb358 ≠ gb371) := ⟨h6_⟩
               have n7_ : Aside0 (gb371 ≠ gb358) := ⟨h7_⟩
               have n8_ : Aside0 (gb359 ≠ gb371) := ⟨h8_⟩
               have n9_ : Aside0 (gb371 ≠ gb359) := ⟨h9_⟩
               have n10_ : Aside0 (Below w.heap.size w w71) := ⟨h10_⟩
               clear HO_5
               clear BK358
               clear BK359
               clear HB
               clear h0_ h1_ h2_ h3_ h4_ h5_ h6_ h7_ h8_ h9_ h10_
               have HO_5 := n0_
               have BK358 := n1_
               have BK359 := n2_
               have BK371 := n3_
               have GW371 := n4_
               have GE371 := n5_
               have NB358_371 := n6_
               have NB371_358 := n7_
               have NB359_371 := n8_
               have NB371_359 := n9_
               have HB := n10_
               clear n0_ n1_ n2_ n3_ n4_ n5_ n6_ n7_ n8_ n9_ n10_
               have hHeld : w71.cell? ⟨gb358, 0, none⟩ = some (.int .i64 t348) ∧ w71.cell? ⟨gb358, 1, none⟩ = some (.int .i64 t349) ∧ w71.cell? ⟨gb358, 2, none⟩ = some (.int .i64 t350) ∧ w71.cell? ⟨gb358, 3, none⟩ = some (.int .i64 t351) ∧ w71.cell? ⟨gb358, 4, none⟩ = some (.int .i64 t352) ∧ w71.cell? (ad367.add (x6_1).toNat) = some (.int .i64 (rd t360 x6_1)) := hS_
               refine norm_ (a' := ?_) ?_ ?_
               rotate_left
               ·simp only [putAll, Act.put, p1, p2, p3]
                rfl
               refine one_ (i := 10) (N := none) #[true, true, true, true, true, true, true, true, true, true, true, false] rfl rfl (one_of HT_.out (by kernel_rfl)) (by decide) (fun K hK => ?_)
               have hs72 : w71.cell? ⟨gb371, 0, none⟩ = some (.int .i64 0) := (qc BK371.out 0).trans rfl
               have hfs72 := qb BK371.out 0
               have hns72_0 := NB358_371.out
               have hns72_1 := NB359_371.out
               have hms72_0 := NB371_358.out
               have hms72_1 := NB371_359.out
               have hs73 : w71.cell? ⟨gb371, 1, none⟩ = some (.int .i64 0) := (qc BK371.out 1).trans rfl
               have hfs73 := qb BK371.out 1
               have hns73_0 := NB358_371.out
               have hns73_1 := NB359_371.out
               have hms73_0 := NB371_358.out
               have hms73_1 := NB371_359.out
               refine skip_ (w1 := ?_) (by rfl) rfl ?_ ?_
               rotate_left
               ·go_simp
                rfl
               refine hK.out _ _ ⟨((qi (p := ⟨gb371, _, none⟩) NB358_371.out _).trans (((qi (p := ⟨gb371, _, none⟩) NB358_371.out _).trans (hHeld.1)))), ((qi (p := ⟨gb371, _, none⟩) NB358_371.out _).trans (((qi (p := ⟨gb371, _, none⟩) NB358_371.out _).trans (hHeld.2.1)))), ((qi (p := ⟨gb371, _, none⟩) NB358_371.out _).trans (((qi (p := ⟨gb371, _, none⟩) NB358_371.out _).trans (hHeld.2.2.1)))), ((qi (p := ⟨gb371, _, none⟩) NB358_371.out _).trans (((qi (p := ⟨gb371, _, none⟩) NB358_371.out _).trans (hHeld.2.2.2.1)))), ((qi (p := ⟨gb371, _, none⟩) NB358_371.out _).trans (((qi (p := ⟨gb371, _, none⟩) NB358_371.out _).trans (hHeld.2.2.2.2.1)))), ((qi (p := ⟨gb371, _, none⟩) (by first | exact Kd.own_blk (Kd.R_ne HO_5.out BK371.out (by decide)) | (rw [add_block]; exact Kd.own_blk (Kd.R_ne HO_5.out BK371.out (by decide))) | (show (Addr.add _ _).block ≠ _; rw [add_block]; exact Kd.own_blk (Kd.R_ne HO_5.out BK371.out (by decide))) | (dsimp only; exact Kd.own_blk (Kd.R_ne HO_5.out BK371.out (by decide)))) _).trans (((qi (p := ⟨gb371, _, none⟩) (by first | exact Kd.own_blk (Kd.R_ne HO_5.out BK371.out (by decide)) | (rw [add_block]; exact Kd.own_blk (Kd.R_ne HO_5.out BK371.out (by decide))) | (show (Addr.add _ _).block ≠ _; rw [add_block]; exact Kd.own_blk (Kd.R_ne HO_5.out BK371.out (by decide))) | (dsimp only; exact Kd.own_blk (Kd.R_ne HO_5.out BK371.out (by decide)))) _).trans (hHeld.2.2.2.2.2))))⟩ (fun hHeld => ?_)
               clear hK K
               refine pure_ (i := 11) (N := some 8) (v := ?_) (a' := ?_) #[true, true, true, true, true, true, true, true, true, true, true, true] rfl rfl (any_of HT_.out (by kernel_rfl)) (fun _ _ _ h => h) (Or.inl ⟨by rfl, ?_⟩) ?_ ?_
               rotate_left
               ·intro w'
                go_simp
                with_reducible rfl
               rotate_left
               ·simp only [Act.put, p1, p2, p3, i64_w, i32_w]
                rfl
               refine done_ (done_of HT_.out (by kernel_rfl)) ?_
               try go_wp2
               have n0_ : Aside0 (Kd.R (Kd.int .i64) 3 ((w71.setCell ⟨gb371, 0, none⟩ (.int .i64 t368)).setCell ⟨gb371, 1, none⟩ (.int .i64 t369)) w.heap.size (fun _ => True) (.slice (some ad367) t360.length co19) t360) := ⟨by (with_reducible repeat (first | apply qk | apply ql | apply qm)); exact Kd.R_mono (Kd.R_far (p := ⟨gb371, 1, none⟩) (Kd.R_far (p := ⟨gb371, 0, none⟩) (Kd.R_types HO_5.out BK371.out (by decide)) (fun _ hk => hk.2) (.int .i64 t368)) (fun _ hk => hk.2) (.int .i64 t369)) (fun _ hk => trivial)⟩
               have n1_ : Aside0 (((w71.setCell ⟨gb371, 0, none⟩ (.int .i64 t368)).setCell ⟨gb371, 1, none⟩ (.int .i64 t369)).heap[gb358]? = some (.cells #[.int .i64 t348, .int .i64 t349, .int .i64 t350, .int .i64 t351, .int .i64 t352] 28 (0, 0))) := ⟨by (with_reducible repeat (first | refine q5 ?_ _ | refine q6 ?_ | refine q7 ?_ _)); refine qe ?_ NB358_371.out _; (with_reducible repeat (first | refine q5 ?_ _ | refine q6 ?_ | refine q7 ?_ _)); refine qe ?_ NB358_371.out _; (with_reducible repeat (first | refine q5 ?_ _ | refine q6 ?_ | refine q7 ?_ _)); exact BK358.out⟩
               have n2_ : Aside0 (((w71.setCell ⟨gb371, 0, none⟩ (.int .i64 t368)).setCell ⟨gb371, 1, none⟩ (.int .i64 t369)).heap[gb359]? = some (.cells #[.int .i64 t353, .int .i64 t354, .int .i64 t355, .int .i64 t356, .int .i64 t357] 28 (0, 0))) := ⟨by (with_reducible repeat (first | refine q5 ?_ _ | refine q6 ?_ | refine q7 ?_ _)); refine qe ?_ NB359_371.out _; (with_reducible repeat (first | refine q5 ?_ _ | refine q6 ?_ | refine q7 ?_ _)); refine qe ?_ NB359_371.out _; (with_reducible repeat (first | refine q5 ?_ _ | refine q6 ?_ | refine q7 ?_ _)); exact BK359.out⟩
               have n3_ : Aside0 (((w71.setCell ⟨gb371, 0, none⟩ (.int .i64 t368)).setCell ⟨gb371, 1, none⟩ (.int .i64 t369)).heap[gb371]? = some (.cells #[.int .i64 t368, .int .i64 t369] 26 (0, 0))) := ⟨by (with_reducible repeat (first | refine q5 ?_ _ | refine q6 ?_ | refine q7 ?_ _)); refine qf (cs := #[.int .i64 t368, .int .i64 0]) ?_ 1 _ rfl; (with_reducible repeat (first | refine q5 ?_ _ | refine q6 ?_ | refine q7 ?_ _)); refine qf (cs := #[.int .i64 0, .int .i64 0]) ?_ 0 _ rfl; (with_reducible repeat (first | refine q5 ?_ _ | refine q6 ?_ | refine q7 ?_ _)); exact BK371.out⟩
               have n4_ : Aside0 (Below w.heap.size w ((w71.setCell ⟨gb371, 0, none⟩ (.int .i64 t368)).setCell ⟨gb371, 1, none⟩ (.int .i64 t369))) := ⟨by repeat (first | (with_reducible first | exact HB.out | apply q1 | apply q2 | apply q3 | refine q4 ?_ GE358.out | refine q4 ?_ GE359.out | refine q4 ?_ GE371.out) | exact HB.out)⟩
               (try clear HO_5)
               (try clear BK358)
               (try clear BK359)
               (try clear BK371)
               (try clear HB)
               generalize ((w71.setCell ⟨gb371, 0, none⟩ (.int .i64 t368)).setCell ⟨gb371, 1, none⟩ (.int .i64 t369)) = w74 at n0_ n1_ n2_ n3_ n4_ ⊢
               have HO_5 := n0_
               have BK358 := n1_
               have BK359 := n2_
               have BK371 := n3_
               have HB := n4_
               clear n0_ n1_ n2_ n3_ n4_
               have n0_ := qg (qm HO_5.out)
               have n1_ := qg (q6 BK358.out)
               have n2_ := qg (q6 BK359.out)
               have n3_ := qg (q6 BK371.out)
               have n4_ := qg (q3 HB.out)
               clear HO_5
               clear BK358
               clear BK359
               clear BK371
               clear HB
               have HO_5 := n0_
               have BK358 := n1_
               have BK359 := n2_
               have BK371 := n3_
               have HB := n4_
               clear n0_ n1_ n2_ n3_ n4_
               have p372 : 0 ≤ (x6_1 : Int) := of_decide_eq_true (by first | (with_reducible assumption) | assumption)
               have q372 : x6_1 < (t360.length : Int) := of_decide_eq_true (by first | (with_reducible assumption) | assumption)
               obtain ⟨ad372, e372, hx372_0⟩ := Kd.at_int (Kd.R_reads' HO_5.out).2.2 x6_1 p372 q372
               obtain rfl : ad367 = ad372 := (by injection e372)
               replace p372 := eq_true p372
               replace q372 := eq_true q372
               refine start_ (n := 12) (S := fun w' => w'.cell? ⟨gb359, 0, none⟩ = some (.int .i64 t353) ∧ w'.cell? ⟨gb359, 1, none⟩ = some (.int .i64 t354) ∧ w'.cell? ⟨gb359, 2, none⟩ = some (.int .i64 t355) ∧ w'.cell? ⟨gb359, 3, none⟩ = some (.int .i64 t356) ∧ w'.cell? ⟨gb359, 4, none⟩ = some (.int .i64 t357) ∧ w'.cell? (ad367.add (x6_1).toNat) = some (.int .i64 (rd t360 x6_1))) (ds := []) #[false, false, false, false, false, false, false, false, false, false, false, false] (by kernel_rfl) rfl rfl ⟨(qc BK359.out 0).trans rfl, (qc BK359.out 1).trans rfl, (qc BK359.out 2).trans rfl, (qc BK359.out 3).trans rfl, (qc BK359.out 4).trans rfl, hx372_0⟩ (fun hHeld => ?_); refine with_tabW laws_FnMeet.tab11 laws_FnMeet.bits11 (fun HT_ HW_ => ?_)
               generalize w74.drew = w75 at HO_5 BK358 BK359 BK371 HB hx372_0 hHeld ⊢
               refine pure_ (i := 1) (N := some 44) (v := ?_) (a' := ?_) #[false, true, false, false, false, false, false, false, false, false, false, false] rfl rfl (any_of HT_.out (by kernel_rfl)) (fun _ _ _ h => h) (Or.inl ⟨by rfl, ?_⟩) ?_ ?_
               rotate_left
               ·intro w'
                go_simp
                with_reducible rfl
               rotate_left
               ·simp only [Act.put, p1, p2, p3, i64_w, i32_w]
                rfl
               refine pure_ (i := 2) (N := some 45) (v := ?_) (a' := ?_) #[false, true, true, false, false, false, false, false, false, false, false, false] rfl rfl (any_of HT_.out (by kernel_rfl)) (fun _ _ _ h => h) (Or.inl ⟨by rfl, ?_⟩) ?_ ?_
               rotate_left
               ·intro w'
                go_simp
                with_reducible rfl
               rotate_left
               ·simp only [Act.put, p1, p2, p3, i64_w, i32_w]
                rfl
               refine pure_ (i := 3) (N := some 46) (v := ?_) (a' := ?_) #[false, true, true, true, false, false, false, false, false, false, false, false] rfl rfl (any_of HT_.out (by kernel_rfl)) (fun _ _ _ h => h) (Or.inl ⟨by rfl, ?_⟩) ?_ ?_
               rotate_left
               ·intro w'
                go_simp
                with_reducible rfl
               rotate_left
               ·simp only [Act.put, p1, p2, p3, i64_w, i32_w]
                rfl
               refine take_ (i := 0) (N := some 43) (v := ?_) (a' := ?_) #[true, true, true, true, false, false, false, false, false, false, false, false] rfl rfl (take_ofW HT_.out HW_.out (by kernel_rfl)) (fun _ _ _ h => h) (Or.inl ⟨by rfl, ?_⟩) hHeld ?_ ?_
               rotate_left
               ·rintro w' ⟨s0, s1, s2, s3, s4, s5⟩
                go_simp
                with_reducible rfl
               rotate_left
               ·simp only [Act.put, p1, p2, p3, i64_w, i32_w]
                rfl
               refine take_ (i := 4) (N := some 47) (v := ?_) (a' := ?_) #[true, true, true, true, true, false, false, false, false, false, false, false] rfl rfl (take_ofW HT_.out HW_.out (by kernel_rfl)) (fun _ _ _ h => h) (Or.inl ⟨by rfl, ?_⟩) hHeld ?_ ?_
               rotate_left
               ·rintro w' ⟨s0, s1, s2, s3, s4, s5⟩
                go_simp
                with_reducible rfl
               rotate_left
               ·simp only [Act.put, p1, p2, p3, i64_w, i32_w]
                rfl
               refine join_ (σ := Nat) 2 #[true, true, true, true, true, true, true, true, true, true, false, false] (fun s_ => [(48, .tuple #[.agg #[.int .i64 t373, .int .i64 t374], .bool true]), (9, .pointer (some ⟨s_, 0, none⟩)), (42, .tuple #[.agg #[.int .i64 t373, .int .i64 t374], .bool true]), (49, .agg #[.int .i64 t373, .int .i64 t374]), (50, .bool true)]) (fun s_ w' => (w'.cell? ⟨gb359, 0, none⟩ = some (.int .i64 t353) ∧ w'.cell? ⟨gb359, 1, none⟩ = some (.int .i64 t354) ∧ w'.cell? ⟨gb359, 2, none⟩ = some (.int .i64 t355) ∧ w'.cell? ⟨gb359, 3, none⟩ = some (.int .i64 t356) ∧ w'.cell? ⟨gb359, 4, none⟩ = some (.int .i64 t357) ∧ w'.cell? (ad367.add (x6_1).toNat) = some (.int .i64 (rd t360 x6_1))) ∧ (Kd.R (Kd.int .i64) 3 w' w.heap.size (fun _ => True) (.slice (some ad367) t360.length co19) t360) ∧ (w'.heap[gb358]? = some (.cells #[.int .i64 t348, .int .i64 t349, .int .i64 t350, .int .i64 t351, .int .i64 t352] 28 (0, 0))) ∧ (w'.heap[gb359]? = some (.cells #[.int .i64 t353, .int .i64 t354, .int .i64 t355, .int .i64 t356, .int .i64 t357] 28 (0, 0))) ∧ (w'.heap[gb371]? = some (.cells #[.int .i64 t368, .int .i64 t369] 26 (0, 0))) ∧ (w'.heap[s_]? = some (.cells #[.int .i64 0, .int .i64 0] 26 (0, 0))) ∧ (w.heap.size ≤ s_) ∧ (w.heap.size ≤ s_) ∧ (gb358 ≠ s_) ∧ (s_ ≠ gb358) ∧ (gb359 ≠ s_) ∧ (s_ ≠ gb359) ∧ (gb371 ≠ s_) ∧ (s_ ≠ gb371) ∧ (Below w.heap.size w w')) ?_ ?_
               rotate_left
               ·intro hCont
                refine two_ (i := 5) (j := 9) (Ni := some 48) (Nj := some 9) #[true, true, true, true, true, true, false, false, false, false, false, false] #[true, true, true, true, true, false, false, false, false, true, false, false] rfl rfl rfl rfl (two_of HT_.out (by kernel_rfl)) (by decide) (by decide) (fun K hK => ?_) (fun K hK => ?_)
                ·skip
                 refine goes_ Try.func26 (by kernel_rfl) rfl #[.agg #[.int .i64 t353, .int .i64 t354, .int .i64 t355, .int .i64 t356, .int .i64 t357], .int .i64 (rd t360 x6_1)] (by rfl) rfl rfl (by (try simp only [List.map_toArray, List.map_cons, List.map_nil]); first | done | rfl | (simp only [List.length_drop, List.length_take]; rfl)) ?_
                 with_reducible refine (impl_PlaceAt.calls k1 t353 t354 t355 t356 t357 (rd t360 x6_1) t373 t374 true _ A24.out).mono ?_
                 rintro e w76 ⟨rfl, hb⟩
                 have HS5_ := (hb.cell (World.block_lt_of_cell? _ _ (hHeld.2.2.2.2.2))).trans (hHeld.2.2.2.2.2)
                 refine ⟨_, rfl, ?_⟩
                 have n0_ := qg (qj (by (with_reducible repeat (first | apply qk | apply ql | apply qm)); exact HO_5.out) hb)
                 have n1_ := qg (q8 (g := gb358) (o := .cells #[.int .i64 t348, .int .i64 t349, .int .i64 t350, .int .i64 t351, .int .i64 t352] 28 (0, 0)) (by (with_reducible repeat (first | refine q5 ?_ _ | refine q6 ?_ | refine q7 ?_ _)); exact BK358.out) hb)
                 have n2_ := qg (q8 (g := gb359) (o := .cells #[.int .i64 t353, .int .i64 t354, .int .i64 t355, .int .i64 t356, .int .i64 t357] 28 (0, 0)) (by (with_reducible repeat (first | refine q5 ?_ _ | refine q6 ?_ | refine q7 ?_ _)); exact BK359.out) hb)
                 have n3_ := qg (q8 (g := gb371) (o := .cells #[.int .i64 t368, .int .i64 t369] 26 (0, 0)) (by (with_reducible repeat (first | refine q5 ?_ _ | refine q6 ?_ | refine q7 ?_ _)); exact BK371.out) hb)
                 have n4_ := qg (q9 (by repeat (first | (with_reducible first | exact HB.out | apply q1 | apply q2 | apply q3 | refine q4 ?_ GE358.out | refine q4 ?_ GE359.out | refine q4 ?_ GE371.out) | exact HB.out)) hb)
                 clear HO_5
                 clear BK358
                 clear BK359
                 clear BK371
                 clear HB
                 have HO_5 := n0_
                 have BK358 := n1_
                 have BK359 := n2_
                 have BK371 := n3_
                 have HB := n4_
                 clear n0_ n1_ n2_ n3_ n4_
                 (try clear hb)
                 (try clear hb2)
                 (try clear hk)
                 (try clear hi)
                 refine hK.out _ _ ⟨(qc BK359.out 0).trans rfl, (qc BK359.out 1).trans rfl, (qc BK359.out 2).trans rfl, (qc BK359.out 3).trans rfl, (qc BK359.out 4).trans rfl, HS5_⟩ (fun hHeld => ?_)
                 clear hK K
                 refine norm_ (a' := ?_) ?_ ?_
                 rotate_left
                 ·show Act.put _ (some 48) _ = _
                  simp only [Act.put, p1, p2, p3, i64_w, i32_w]
                  rfl
                 refine pure_ (i := 6) (N := some 42) (v := ?_) (a' := ?_) #[true, true, true, true, true, true, true, false, false, false, false, false] rfl rfl (any_of HT_.out (by kernel_rfl)) (fun _ _ _ h => h) (Or.inl ⟨by rfl, ?_⟩) ?_ ?_
                 rotate_left
                 ·intro w'
                  go_simp
                  with_reducible rfl
                 rotate_left
                 ·simp only [Act.put, p1, p2, p3, i64_w, i32_w]
                  rfl
                 refine pure_ (i := 7) (N := some 49) (v := ?_) (a' := ?_) #[true, true, true, true, true, true, true, true, false, false, false, false] rfl rfl (any_of HT_.out (by kernel_rfl)) (fun _ _ _ h => h) (Or.inl ⟨by rfl, ?_⟩) ?_ ?_
                 rotate_left
                 ·intro w'
                  go_simp
                  with_reducible rfl
                 rotate_left
                 ·simp only [Act.put, p1, p2, p3, i64_w, i32_w]
                  rfl
                 refine pure_ (i := 8) (N := some 50) (v := ?_) (a' := ?_) #[true, true, true, true, true, true, true, true, true, false, false, false] rfl rfl (any_of HT_.out (by kernel_rfl)) (fun _ _ _ h => h) (Or.inl ⟨by rfl, ?_⟩) ?_ ?_
                 rotate_left
                 ·intro w'
                  go_simp
                  with_reducible rfl
                 rotate_left
                 ·simp only [Act.put, p1, p2, p3, i64_w, i32_w]
                  rfl
                 refine one_ (i := 9) (N := some 9) #[true, true, true, true, true, true, true, true, true, true, false, false] rfl rfl (one_of HT_.out (by kernel_rfl)) (by decide) (fun K hK => ?_)
                 refine box_step ?hg (N := 9) ?hd (cs := #[.int .i64 0, .int .i64 0]) (t := 26) ?hr ?_; (case hd => rfl); (case hg => rfl); (case hr => first | (go_simp; done) | (go_simp; rfl))
                 intro gb376 hg w77 hbox hb
                 have HS5_ := (hb.cell (World.block_lt_of_cell? _ _ (hHeld.2.2.2.2.2))).trans (hHeld.2.2.2.2.2)
                 have n0_ := qg (qj (by (with_reducible repeat (first | apply qk | apply ql | apply qm)); exact HO_5.out) hb)
                 have n1_ := qg (q8 (g := gb358) (o := .cells #[.int .i64 t348, .int .i64 t349, .int .i64 t350, .int .i64 t351, .int .i64 t352] 28 (0, 0)) (by (with_reducible repeat (first | refine q5 ?_ _ | refine q6 ?_ | refine q7 ?_ _)); exact BK358.out) hb)
                 have n2_ := qg (q8 (g := gb359) (o := .cells #[.int .i64 t353, .int .i64 t354, .int .i64 t355, .int .i64 t356, .int .i64 t357] 28 (0, 0)) (by (with_reducible repeat (first | refine q5 ?_ _ | refine q6 ?_ | refine q7 ?_ _)); exact BK359.out) hb)
                 have n3_ := qg (q8 (g := gb371) (o := .cells #[.int .i64 t368, .int .i64 t369] 26 (0, 0)) (by (with_reducible repeat (first | refine q5 ?_ _ | refine q6 ?_ | refine q7 ?_ _)); exact BK371.out) hb)
                 have n4_ := qg (q9 (by repeat (first | (with_reducible first | exact HB.out | apply q1 | apply q2 | apply q3 | refine q4 ?_ GE358.out | refine q4 ?_ GE359.out | refine q4 ?_ GE371.out) | exact HB.out)) hb)
                 have n5_ := qg (hbox)
                 have n6_ := qg ((by rw [hg]; exact (qa (by repeat (first | (with_reducible first | exact HB.out | apply q1 | apply q2 | apply q3 | refine q4 ?_ GE358.out | refine q4 ?_ GE359.out | refine q4 ?_ GE371.out) | exact HB.out))) : w.heap.size ≤ gb376))
                 have n7_ := qg ((by rw [hg]; exact (qa (by repeat (first | (with_reducible first | exact HB.out | apply q1 | apply q2 | apply q3 | refine q4 ?_ GE358.out | refine q4 ?_ GE359.out | refine q4 ?_ GE371.out) | exact HB.out))) : w.heap.size ≤ gb376))
                 have n8_ := qg ((by rw [hg]; exact qv (qd (g := gb358) (o := .cells #[.int .i64 t348, .int .i64 t349, .int .i64 t350, .int .i64 t351, .int .i64 t352] 28 (0, 0)) (by (with_reducible repeat (first | refine q5 ?_ _ | refine q6 ?_ | refine q7 ?_ _)); exact BK358.out)) : gb358 ≠ gb376))
                 have n9_ := qg ((by rw [hg]; exact qw (qd (g := gb358) (o := .cells #[.int .i64 t348, .int .i64 t349, .int .i64 t350, .int .i64 t351, .int .i64 t352] 28 (0, 0)) (by (with_reducible repeat (first | refine q5 ?_ _ | refine q6 ?_ | refine q7 ?_ _)); exact BK358.out)) : gb376 ≠ gb358))
                 have n10_ := qg ((by rw [hg]; exact qv (qd (g := gb359) (o := .cells #[.int .i64 t353, .int .i64 t354, .int .i64 t355, .int .i64 t356, .int .i64 t357] 28 (0, 0)) (by (with_reducible repeat (first | refine q5 ?_ _ | refine q6 ?_ | refine q7 ?_ _)); exact BK359.out)) : gb359 ≠ gb376))
                 have n11_ := qg ((by rw [hg]; exact qw (qd (g := gb359) (o := .cells #[.int .i64 t353, .int .i64 t354, .int .i64 t355, .int .i64 t356, .int .i64 t357] 28 (0, 0)) (by (with_reducible repeat (first | refine q5 ?_ _ | refine q6 ?_ | refine q7 ?_ _)); exact BK359.out)) : gb376 ≠ gb359))
                 have n12_ := qg ((by rw [hg]; exact qv (qd (g := gb371) (o := .cells #[.int .i64 t368, .int .i64 t369] 26 (0, 0)) (by (with_reducible repeat (first | refine q5 ?_ _ | refine q6 ?_ | refine q7 ?_ _)); exact BK371.out)) : gb371 ≠ gb376))
                 have n13_ := qg ((by rw [hg]; exact qw (qd (g := gb371) (o := .cells #[.int .i64 t368, .int .i64 t369] 26 (0, 0)) (by (with_reducible repeat (first | refine q5 ?_ _ | refine q6 ?_ | refine q7 ?_ _)); exact BK371.out)) : gb376 ≠ gb371))
                 clear HO_5
                 clear BK358
                 clear BK359
                 clear BK371
                 clear HB
                 have HO_5 := n0_
                 have BK358 := n1_
                 have BK359 := n2_
                 have BK371 := n3_
                 have HB := n4_
                 have BK376 := n5_
                 have GW376 := n6_
                 have GE376 := n7_
                 have NB358_376 := n8_
                 have NB376_358 := n9_
                 have NB359_376 := n10_
                 have NB376_359 := n11_
                 have NB371_376 := n12_
                 have NB376_371 := n13_
                 clear n0_ n1_ n2_ n3_ n4_ n5_ n6_ n7_ n8_ n9_ n10_ n11_ n12_ n13_
                 clear hb hbox hg
                 refine hK.out _ _ ⟨(qc BK359.out 0).trans rfl, (qc BK359.out 1).trans rfl, (qc BK359.out 2).trans rfl, (qc BK359.out 3).trans rfl, (qc BK359.out 4).trans rfl, HS5_⟩ (fun hHeld => ?_)
                 clear hK K
                 refine norm_ (a' := ?_) ?_ ?_
                 rotate_left
                 ·show Act.put _ (some 9) _ = _
                  simp only [Act.put, p1, p2, p3, i64_w, i32_w]
                  rfl
                 exact norm_ (by simp only [putAll, Act.put, p1, p2, p3]) (hCont (gb376) _ ⟨hHeld, (by (with_reducible repeat (first | apply qk | apply ql | apply qm)); exact HO_5.out), (by (with_reducible repeat (first | refine q5 ?_ _ | refine q6 ?_ | refine q7 ?_ _)); exact BK358.out), (by (with_reducible repeat (first | refine q5 ?_ _ | refine q6 ?_ | refine q7 ?_ _)); exact BK359.out), (by (with_reducible repeat (first | refine q5 ?_ _ | refine q6 ?_ | refine q7 ?_ _)); exact BK371.out), (by (with_reducible repeat (first | refine q5 ?_ _ | refine q6 ?_ | refine q7 ?_ _)); exact BK376.out), GW376.out, GE376.out, NB358_376.out, NB376_358.out, NB359_376.out, NB376_359.out, NB371_376.out, NB376_371.out, (by repeat (first | (with_reducible first | exact HB.out | apply q1 | apply q2 | apply q3 | refine q4 ?_ GE358.out | refine q4 ?_ GE359.out | refine q4 ?_ GE371.out | refine q4 ?_ GE376.out) | exact HB.out))⟩)
                ·skip
                 refine box_step ?hg (N := 9) ?hd (cs := #[.int .i64 0, .int .i64 0]) (t := 26) ?hr ?_; (case hd => rfl); (case hg => rfl); (case hr => first | (go_simp; done) | (go_simp; rfl))
                 intro gb376 hg w76 hbox hb
                 have HS5_ := (hb.cell (World.block_lt_of_cell? _ _ (hHeld.2.2.2.2.2))).trans (hHeld.2.2.2.2.2)
                 have n0_ := qg (qj (by (with_reducible repeat (first | apply qk | apply ql | apply qm)); exact HO_5.out) hb)
                 have n1_ := qg (q8 (g := gb358) (o := .cells #[.int .i64 t348, .int .i64 t349, .int .i64 t350, .int .i64 t351, .int .i64 t352] 28 (0, 0)) (by (with_reducible repeat (first | refine q5 ?_ _ | refine q6 ?_ | refine q7 ?_ _)); exact BK358.out) hb)
                 have n2_ := qg (q8 (g := gb359) (o := .cells #[.int .i64 t353, .int .i64 t354, .int .i64 t355, .int .i64 t356, .int .i64 t357] 28 (0, 0)) (by (with_reducible repeat (first | refine q5 ?_ _ | refine q6 ?_ | refine q7 ?_ _)); exact BK359.out) hb)
                 have n3_ := qg (q8 (g := gb371) (o := .cells #[.int .i64 t368, .int .i64 t369] 26 (0, 0)) (by (with_reducible repeat (first | refine q5 ?_ _ | refine q6 ?_ | refine q7 ?_ _)); exact BK371.out) hb)
                 have n4_ := qg (q9 (by repeat (first | (with_reducible first | exact HB.out | apply q1 | apply q2 | apply q3 | refine q4 ?_ GE358.out | refine q4 ?_ GE359.out | refine q4 ?_ GE371.out) | exact HB.out)) hb)
                 have n5_ := qg (hbox)
                 have n6_ := qg ((by rw [hg]; exact (qa (by repeat (first | (with_reducible first | exact HB.out | apply q1 | apply q2 | apply q3 | refine q4 ?_ GE358.out | refine q4 ?_ GE359.out | refine q4 ?_ GE371.out) | exact HB.out))) : w.heap.size ≤ gb376))
                 have n7_ := qg ((by rw [hg]; exact (qa (by repeat (first | (with_reducible first | exact HB.out | apply q1 | apply q2 | apply q3 | refine q4 ?_ GE358.out | refine q4 ?_ GE359.out | refine q4 ?_ GE371.out) | exact HB.out))) : w.heap.size ≤ gb376))
                 have n8_ := qg ((by rw [hg]; exact qv (qd (g := gb358) (o := .cells #[.int .i64 t348, .int .i64 t349, .int .i64 t350, .int .i64 t351, .int .i64 t352] 28 (0, 0)) (by (with_reducible repeat (first | refine q5 ?_ _ | refine q6 ?_ | refine q7 ?_ _)); exact BK358.out)) : gb358 ≠ gb376))
                 have n9_ := qg ((by rw [hg]; exact qw (qd (g := gb358) (o := .cells #[.int .i64 t348, .int .i64 t349, .int .i64 t350, .int .i64 t351, .int .i64 t352] 28 (0, 0)) (by (with_reducible repeat (first | refine q5 ?_ _ | refine q6 ?_ | refine q7 ?_ _)); exact BK358.out)) : gb376 ≠ gb358))
                 have n10_ := qg ((by rw [hg]; exact qv (qd (g := gb359) (o := .cells #[.int .i64 t353, .int .i64 t354, .int .i64 t355, .int .i64 t356, .int .i64 t357] 28 (0, 0)) (by (with_reducible repeat (first | refine q5 ?_ _ | refine q6 ?_ | refine q7 ?_ _)); exact BK359.out)) : gb359 ≠ gb376))
                 have n11_ := qg ((by rw [hg]; exact qw (qd (g := gb359) (o := .cells #[.int .i64 t353, .int .i64 t354, .int .i64 t355, .int .i64 t356, .int .i64 t357] 28 (0, 0)) (by (with_reducible repeat (first | refine q5 ?_ _ | refine q6 ?_ | refine q7 ?_ _)); exact BK359.out)) : gb376 ≠ gb359))
                 have n12_ := qg ((by rw [hg]; exact qv (qd (g := gb371) (o := .cells #[.int .i64 t368, .int .i64 t369] 26 (0, 0)) (by (with_reducible repeat (first | refine q5 ?_ _ | refine q6 ?_ | refine q7 ?_ _)); exact BK371.out)) : gb371 ≠ gb376))
                 have n13_ := qg ((by rw [hg]; exact qw (qd (g := gb371) (o := .cells #[.int .i64 t368, .int .i64 t369] 26 (0, 0)) (by (with_reducible repeat (first | refine q5 ?_ _ | refine q6 ?_ | refine q7 ?_ _)); exact BK371.out)) : gb376 ≠ gb371))
                 clear HO_5
                 clear BK358
                 clear BK359
                 clear BK371
                 clear HB
                 have HO_5 := n0_
                 have BK358 := n1_
                 have BK359 := n2_
                 have BK371 := n3_
                 have HB := n4_
                 have BK376 := n5_
                 have GW376 := n6_
                 have GE376 := n7_
                 have NB358_376 := n8_
                 have NB376_358 := n9_
                 have NB359_376 := n10_
                 have NB376_359 := n11_
                 have NB371_376 := n12_
                 have NB376_371 := n13_
                 clear n0_ n1_ n2_ n3_ n4_ n5_ n6_ n7_ n8_ n9_ n10_ n11_ n12_ n13_
                 clear hb hbox hg
                 refine hK.out _ _ ⟨(qc BK359.out 0).trans rfl, (qc BK359.out 1).trans rfl, (qc BK359.out 2).trans rfl, (qc BK359.out 3).trans rfl, (qc BK359.out 4).trans rfl, HS5_⟩ (fun hHeld => ?_)
                 clear hK K
                 refine norm_ (a' := ?_) ?_ ?_
                 rotate_left
                 ·show Act.put _ (some 9) _ = _
                  simp only [Act.put, p1, p2, p3, i64_w, i32_w]
                  rfl
                 refine one_ (i := 5) (N := some 48) #[true, true, true, true, true, true, false, false, false, true, false, false] rfl rfl (one_of HT_.out (by kernel_rfl)) (by decide) (fun K hK => ?_)
                 refine goes_ Try.func26 (by kernel_rfl) rfl #[.agg #[.int .i64 t353, .int .i64 t354, .int .i64 t355, .int .i64 t356, .int .i64 t357], .int .i64 (rd t360 x6_1)] (by rfl) rfl rfl (by (try simp only [List.map_toArray, List.map_cons, List.map_nil]); first | done | rfl | (simp only [List.length_drop, List.length_take]; rfl)) ?_
                 with_reducible refine (impl_PlaceAt.calls k1 t353 t354 t355 t356 t357 (rd t360 x6_1) t373 t374 true _ A24.out).mono ?_
                 rintro e w77 ⟨rfl, hb⟩
                 have HS5_ := (hb.cell (World.block_lt_of_cell? _ _ (hHeld.2.2.2.2.2))).trans (hHeld.2.2.2.2.2)
                 refine ⟨_, rfl, ?_⟩
                 have n0_ := qg (qj (by (with_reducible repeat (first | apply qk | apply ql | apply qm)); exact HO_5.out) hb)
                 have n1_ := qg (q8 (g := gb358) (o := .cells #[.int .i64 t348, .int .i64 t349, .int .i64 t350, .int .i64 t351, .int .i64 t352] 28 (0, 0)) (by (with_reducible repeat (first | refine q5 ?_ _ | refine q6 ?_ | refine q7 ?_ _)); exact BK358.out) hb)
                 have n2_ := qg (q8 (g := gb359) (o := .cells #[.int .i64 t353, .int .i64 t354, .int .i64 t355, .int .i64 t356, .int .i64 t357] 28 (0, 0)) (by (with_reducible repeat (first | refine q5 ?_ _ | refine q6 ?_ | refine q7 ?_ _)); exact BK359.out) hb)
                 have n3_ := qg (q8 (g := gb371) (o := .cells #[.int .i64 t368, .int .i64 t369] 26 (0, 0)) (by (with_reducible repeat (first | refine q5 ?_ _ | refine q6 ?_ | refine q7 ?_ _)); exact BK371.out) hb)
                 have n4_ := qg (q8 (g := gb376) (o := .cells #[.int .i64 0, .int .i64 0] 26 (0, 0)) (by (with_reducible repeat (first | refine q5 ?_ _ | refine q6 ?_ | refine q7 ?_ _)); exact BK376.out) hb)
                 have n5_ := qg (q9 (by repeat (first | (with_reducible first | exact HB.out | apply q1 | apply q2 | apply q3 | refine q4 ?_ GE358.out | refine q4 ?_ GE359.out | refine q4 ?_ GE371.out | refine q4 ?_ GE376.out) | exact HB.out)) hb)
                 clear HO_5
                 clear BK358
                 clear BK359
                 clear BK371
                 clear BK376
                 clear HB
                 have HO_5 := n0_
                 have BK358 := n1_
                 have BK359 := n2_
                 have BK371 := n3_
                 have BK376 := n4_
                 have HB := n5_
                 clear n0_ n1_ n2_ n3_ n4_ n5_
                 (try clear hb)
                 (try clear hb2)
                 (try clear hk)
                 (try clear hi)
                 refine hK.out _ _ ⟨(qc BK359.out 0).trans rfl, (qc BK359.out 1).trans rfl, (qc BK359.out 2).trans rfl, (qc BK359.out 3).trans rfl, (qc BK359.out 4).trans rfl, HS5_⟩ (fun hHeld => ?_)
                 clear hK K
                 refine norm_ (a' := ?_) ?_ ?_
                 rotate_left
                 ·show Act.put _ (some 48) _ = _
                  simp only [Act.put, p1, p2, p3, i64_w, i32_w]
                  rfl
                 refine pure_ (i := 6) (N := some 42) (v := ?_) (a' := ?_) #[true, true, true, true, true, true, true, false, false, true, false, false] rfl rfl (any_of HT_.out (by kernel_rfl)) (fun _ _ _ h => h) (Or.inl ⟨by rfl, ?_⟩) ?_ ?_
                 rotate_left
                 ·intro w'
                  go_simp
                  with_reducible rfl
                 rotate_left
                 ·simp only [Act.put, p1, p2, p3, i64_w, i32_w]
                  rfl
                 refine pure_ (i := 7) (N := some 49) (v := ?_) (a' := ?_) #[true, true, true, true, true, true, true, true, false, true, false, false] rfl rfl (any_of HT_.out (by kernel_rfl)) (fun _ _ _ h => h) (Or.inl ⟨by rfl, ?_⟩) ?_ ?_
                 rotate_left
                 ·intro w'
                  go_simp
                  with_reducible rfl
                 rotate_left
                 ·simp only [Act.put, p1, p2, p3, i64_w, i32_w]
                  rfl
                 refine pure_ (i := 8) (N := some 50) (v := ?_) (a' := ?_) #[true, true, true, true, true, true, true, true, true, true, false, false] rfl rfl (any_of HT_.out (by kernel_rfl)) (fun _ _ _ h => h) (Or.inl ⟨by rfl, ?_⟩) ?_ ?_
                 rotate_left
                 ·intro w'
                  go_simp
                  with_reducible rfl
                 rotate_left
                 ·simp only [Act.put, p1, p2, p3, i64_w, i32_w]
                  rfl
                 exact norm_ (by simp only [putAll, Act.put, p1, p2, p3]) (hCont (gb376) _ ⟨hHeld, (by (with_reducible repeat (first | apply qk | apply ql | apply qm)); exact HO_5.out), (by (with_reducible repeat (first | refine q5 ?_ _ | refine q6 ?_ | refine q7 ?_ _)); exact BK358.out), (by (with_reducible repeat (first | refine q5 ?_ _ | refine q6 ?_ | refine q7 ?_ _)); exact BK359.out), (by (with_reducible repeat (first | refine q5 ?_ _ | refine q6 ?_ | refine q7 ?_ _)); exact BK371.out), (by (with_reducible repeat (first | refine q5 ?_ _ | refine q6 ?_ | refine q7 ?_ _)); exact BK376.out), GW376.out, GE376.out, NB358_376.out, NB376_358.out, NB359_376.out, NB376_359.out, NB371_376.out, NB376_371.out, (by repeat (first | (with_reducible first | exact HB.out | apply q1 | apply q2 | apply q3 | refine q4 ?_ GE358.out | refine q4 ?_ GE359.out | refine q4 ?_ GE371.out | refine q4 ?_ GE376.out) | exact HB.out))⟩)
               rintro gb376 w78 ⟨hS_, h0_, h1_, h2_, h3_, h4_, h5_, h6_, h7_, h8_, h9_, h10_, h11_, h12_, h13_⟩
               have n0_ : Aside0 (Kd.R (Kd.int .i64) 3 w78 w.heap.size (fun _ => True) (.slice (some ad367) t360.length co19) t360) := ⟨h0_⟩
               have n1_ : Aside0 (w78.heap[gb358]? = some (.cells #[.int .i64 t348, .int .i64 t349, .int .i64 t350, .int .i64 t351, .int .i64 t352] 28 (0, 0))) := ⟨h1_⟩
               have n2_ : Aside0 (w78.heap[gb359]? = some (.cells #[.int .i64 t353, .int .i64 t354, .int .i64 t355, .int .i64 t356, .int .i64 t357] 28 (0, 0))) := ⟨h2_⟩
               have n3_ : Aside0 (w78.heap[gb371]? = some (.cells #[.int .i64 t368, .int .i64 t369] 26 (0, 0))) := ⟨h3_⟩
               have n4_ : Aside0 (w78.heap[gb376]? = some (.cells #[.int .i64 0, .int .i64 0] 26 (0, 0))) := ⟨h4_⟩
               have n5_ : Aside0 (w.heap.size ≤ gb376) := ⟨h5_⟩
               have n6_ : Aside0 (w.heap.size ≤ gb376) := ⟨h6_⟩
               have n7_ : Aside0 (gb358 ≠ gb376) := ⟨h7_⟩
               have n8_ : Aside0 (gb376 ≠ gb358) := ⟨h8_⟩
               have n9_ : Aside0 (gb359 ≠ gb376) := ⟨h9_⟩
               have n10_ : Aside0 (gb376 ≠ gb359) := ⟨h10_⟩
               have n11_ : Aside0 (gb371 ≠ gb376) := ⟨h11_⟩
               have n12_ : Aside0 (gb376 ≠ gb371) := ⟨h12_⟩
               have n13_ : Aside0 (Below w.heap.size w w78) := ⟨h13_⟩
               clear HO_5
               clear BK358
               clear BK359
               clear BK371
               clear HB
               clear h0_ h1_ h2_ h3_ h4_ h5_ h6_ h7_ h8_ h9_ h10_ h11_ h12_ h13_
               have HO_5 := n0_
               have BK358 := n1_
               have BK359 := n2_
               have BK371 := n3_
               have BK376 := n4_
               have GW376 := n5_
               have GE376 := n6_
               have NB358_376 := n7_
               have NB376_358 := n8_
               have NB359_376 := n9_
               have NB376_359 := n10_
               have NB371_376 := n11_
               have NB376_371 := n12_
               have HB := n13_
               clear n0_ n1_ n2_ n3_ n4_ n5_ n6_ n7_ n8_ n9_ n10_ n11_ n12_ n13_
               have hHeld : w78.cell? ⟨gb359, 0, none⟩ = some (.int .i64 t353) ∧ w78.cell? ⟨gb359, 1, none⟩ = some (.int .i64 t354) ∧ w78.cell? ⟨gb359, 2, none⟩ = some (.int .i64 t355) ∧ w78.cell? ⟨gb359, 3, none⟩ = some (.int .i64 t356) ∧ w78.cell? ⟨gb359, 4, none⟩ = some (.int .i64 t357) ∧ w78.cell? (ad367.add (x6_1).toNat) = some (.int .i64 (rd t360 x6_1)) := hS_
               refine norm_ (a' := ?_) ?_ ?_
               rotate_left
               ·simp only [putAll, Act.put, p1, p2, p3]
                rfl
               refine one_ (i := 10) (N := none) #[true, true, true, true, true, true, true, true, true, true, true, false] rfl rfl (one_of HT_.out (by kernel_rfl)) (by decide) (fun K hK => ?_)
               have hs79 : w78.cell? ⟨gb376, 0, none⟩ = some (.int .i64 0) := (qc BK376.out 0).trans rfl
               have hfs79 := qb BK376.out 0
               have hns79_0 := NB358_376.out
               have hns79_1 := NB359_376.out
               have hns79_2 := NB371_376.out
               have hms79_0 := NB376_358.out
               have hms79_1 := NB376_359.out
               have hms79_2 := NB376_371.out
               have hs80 : w78.cell? ⟨gb376, 1, none⟩ = some (.int .i64 0) := (qc BK376.out 1).trans rfl
               have hfs80 := qb BK376.out 1
               have hns80_0 := NB358_376.out
               have hns80_1 := NB359_376.out
               have hns80_2 := NB371_376.out
               have hms80_0 := NB376_358.out
               have hms80_1 := NB376_359.out
               have hms80_2 := NB376_371.out
               refine skip_ (w1 := ?_) (by rfl) rfl ?_ ?_
               rotate_left
               ·go_simp
                rfl
               refine hK.out _ _ ⟨((qi (p := ⟨gb376, _, none⟩) NB359_376.out _).trans (((qi (p := ⟨gb376, _, none⟩) NB359_376.out _).trans (hHeld.1)))), ((qi (p := ⟨gb376, _, none⟩) NB359_376.out _).trans (((qi (p := ⟨gb376, _, none⟩) NB359_376.out _).trans (hHeld.2.1)))), ((qi (p := ⟨gb376, _, none⟩) NB359_376.out _).trans (((qi (p := ⟨gb376, _, none⟩) NB359_376.out _).trans (hHeld.2.2.1)))), ((qi (p := ⟨gb376, _, none⟩) NB359_376.out _).trans (((qi (p := ⟨gb376, _, none⟩) NB359_376.out _).trans (hHeld.2.2.2.1)))), ((qi (p := ⟨gb376, _, none⟩) NB359_376.out _).trans (((qi (p := ⟨gb376, _, none⟩) NB359_376.out _).trans (hHeld.2.2.2.2.1)))), ((qi (p := ⟨gb376, _, none⟩) (by first | exact Kd.own_blk (Kd.R_ne HO_5.out BK376.out (by decide)) | (rw [add_block]; exact Kd.own_blk (Kd.R_ne HO_5.out BK376.out (by decide))) | (show (Addr.add _ _).block ≠ _; rw [add_block]; exact Kd.own_blk (Kd.R_ne HO_5.out BK376.out (by decide))) | (dsimp only; exact Kd.own_blk (Kd.R_ne HO_5.out BK376.out (by decide)))) _).trans (((qi (p := ⟨gb376, _, none⟩) (by first | exact Kd.own_blk (Kd.R_ne HO_5.out BK376.out (by decide)) | (rw [add_block]; exact Kd.own_blk (Kd.R_ne HO_5.out BK376.out (by decide))) | (show (Addr.add _ _).block ≠ _; rw [add_block]; exact Kd.own_blk (Kd.R_ne HO_5.out BK376.out (by decide))) | (dsimp only; exact Kd.own_blk (Kd.R_ne HO_5.out BK376.out (by decide)))) _).trans (hHeld.2.2.2.2.2))))⟩ (fun hHeld => ?_)
               clear hK K
               refine pure_ (i := 11) (N := some 10) (v := ?_) (a' := ?_) #[true, true, true, true, true, true, true, true, true, true, true, true] rfl rfl (any_of HT_.out (by kernel_rfl)) (fun _ _ _ h => h) (Or.inl ⟨by rfl, ?_⟩) ?_ ?_
               rotate_left
               ·intro w'
                go_simp
                with_reducible rfl
               rotate_left
               ·simp only [Act.put, p1, p2, p3, i64_w, i32_w]
                rfl
               refine done_ (done_of HT_.out (by kernel_rfl)) ?_
               try go_wp2
               have n0_ : Aside0 (Kd.R (Kd.int .i64) 3 ((w78.setCell ⟨gb376, 0, none⟩ (.int .i64 t373)).setCell ⟨gb376, 1, none⟩ (.int .i64 t374)) w.heap.size (fun _ => True) (.slice (some ad367) t360.length co19) t360) := ⟨by (with_reducible repeat (first | apply qk | apply ql | apply qm)); exact Kd.R_mono (Kd.R_far (p := ⟨gb376, 1, none⟩) (Kd.R_far (p := ⟨gb376, 0, none⟩) (Kd.R_types HO_5.out BK376.out (by decide)) (fun _ hk => hk.2) (.int .i64 t373)) (fun _ hk => hk.2) (.int .i64 t374)) (fun _ hk => trivial)⟩
               have n1_ : Aside0 (((w78.setCell ⟨gb376, 0, none⟩ (.int .i64 t373)).setCell ⟨gb376, 1, none⟩ (.int .i64 t374)).heap[gb358]? = some (.cells #[.int .i64 t348, .int .i64 t349, .int .i64 t350, .int .i64 t351, .int .i64 t352] 28 (0, 0))) := ⟨by (with_reducible repeat (first | refine q5 ?_ _ | refine q6 ?_ | refine q7 ?_ _)); refine qe ?_ NB358_376.out _; (with_reducible repeat (first | refine q5 ?_ _ | refine q6 ?_ | refine q7 ?_ _)); refine qe ?_ NB358_376.out _; (with_reducible repeat (first | refine q5 ?_ _ | refine q6 ?_ | refine q7 ?_ _)); exact BK358.out⟩
               have n2_ : Aside0 (((w78.setCell ⟨gb376, 0, none⟩ (.int .i64 t373)).setCell ⟨gb376, 1, none⟩ (.int .i64 t374)).heap[gb359]? = some (.cells #[.int .i64 t353, .int .i64 t354, .int .i64 t355, .int .i64 t356, .int .i64 t357] 28 (0, 0))) := ⟨by (with_reducible repeat (first | refine q5 ?_ _ | refine q6 ?_ | refine q7 ?_ _)); refine qe ?_ NB359_376.out _; (with_reducible repeat (first | refine q5 ?_ _ | refine q6 ?_ | refine q7 ?_ _)); refine qe ?_ NB359_376.out _; (with_reducible repeat (first | refine q5 ?_ _ | refine q6 ?_ | refine q7 ?_ _)); exact BK359.out⟩
               have n3_ : Aside0 (((w78.setCell ⟨gb376, 0, none⟩ (.int .i64 t373)).setCell ⟨gb376, 1, none⟩ (.int .i64 t374)).heap[gb371]? = some (.cells #[.int .i64 t368, .int .i64 t369] 26 (0, 0))) := ⟨by (with_reducible repeat (first | refine q5 ?_ _ | refine q6 ?_ | refine q7 ?_ _)); refine qe ?_ NB371_376.out _; (with_reducible repeat (first | refine q5 ?_ _ | refine q6 ?_ | refine q7 ?_ _)); refine qe ?_ NB371_376.out _; (with_reducible repeat (first | refine q5 ?_ _ | refine q6 ?_ | refine q7 ?_ _)); exact BK371.out⟩
               have n4_ : Aside0 (((w78.setCell ⟨gb376, 0, none⟩ (.int .i64 t373)).setCell ⟨gb376, 1, none⟩ (.int .i64 t374)).heap[gb376]? = some (.cells #[.int .i64 t373, .int .i64 t374] 26 (0, 0))) := ⟨by (with_reducible repeat (first | refine q5 ?_ _ | refine q6 ?_ | refine q7 ?_ _)); refine qf (cs := #[.int .i64 t373, .int .i64 0]) ?_ 1 _ rfl; (with_reducible repeat (first | refine q5 ?_ _ | refine q6 ?_ | refine q7 ?_ _)); refine qf (cs := #[.int .i64 0, .int .i64 0]) ?_ 0 _ rfl; (with_reducible repeat (first | refine q5 ?_ _ | refine q6 ?_ | refine q7 ?_ _)); exact BK376.out⟩
               have n5_ : Aside0 (Below w.heap.size w ((w78.setCell ⟨gb376, 0, none⟩ (.int .i64 t373)).setCell ⟨gb376, 1, none⟩ (.int .i64 t374))) := ⟨by repeat (first | (with_reducible first | exact HB.out | apply q1 | apply q2 | apply q3 | refine q4 ?_ GE358.out | refine q4 ?_ GE359.out | refine q4 ?_ GE371.out | refine q4 ?_ GE376.out) | exact HB.out)⟩
               (try clear HO_5)
               (try clear BK358)
               (try clear BK359)
               (try clear BK371)
               (try clear BK376)
               (try clear HB)
               generalize ((w78.setCell ⟨gb376, 0, none⟩ (.int .i64 t373)).setCell ⟨gb376, 1, none⟩ (.int .i64 t374)) = w81 at n0_ n1_ n2_ n3_ n4_ n5_ ⊢
               have HO_5 := n0_
               have BK358 := n1_
               have BK359 := n2_
               have BK371 := n3_
               have BK376 := n4_
               have HB := n5_
               clear n0_ n1_ n2_ n3_ n4_ n5_
               have n0_ := qg (qm HO_5.out)
               have n1_ := qg (q6 BK358.out)
               have n2_ := qg (q6 BK359.out)
               have n3_ := qg (q6 BK371.out)
               have n4_ := qg (q6 BK376.out)
               have n5_ := qg (q3 HB.out)
               clear HO_5
               clear BK358
               clear BK359
               clear BK371
               clear BK376
               clear HB
               have HO_5 := n0_
               have BK358 := n1_
               have BK359 := n2_
               have BK371 := n3_
               have BK376 := n4_
               have HB := n5_
               clear n0_ n1_ n2_ n3_ n4_ n5_
               have p377 : 0 ≤ (x6_1 : Int) := of_decide_eq_true (by first | (with_reducible assumption) | assumption)
               have q377 : x6_1 < (t360.length : Int) := of_decide_eq_true (by first | (with_reducible assumption) | assumption)
               obtain ⟨ad377, e377, hx377_0⟩ := Kd.at_int (Kd.R_reads' HO_5.out).2.2 x6_1 p377 q377
               obtain rfl : ad367 = ad377 := (by injection e377)
               replace p377 := eq_true p377
               replace q377 := eq_true q377
               have p379 : 0 ≤ (x6_1 : Int) := of_decide_eq_true (by first | (with_reducible assumption) | assumption)
               have q379 : x6_1 < (t360.length : Int) := of_decide_eq_true (by first | (with_reducible assumption) | assumption)
               obtain ⟨ad379, e379, hx379_0⟩ := Kd.at_int (Kd.R_reads' HO_5.out).2.2 x6_1 p379 q379
               obtain rfl : ad367 = ad379 := (by injection e379)
               replace p379 := eq_true p379
               replace q379 := eq_true q379
               have p381 : 0 ≤ ((ji47) : Int) := of_decide_eq_true (by first | (with_reducible assumption) | assumption)
               have q381 : (ji47) < (t360.length : Int) := of_decide_eq_true (by first | (with_reducible assumption) | assumption)
               obtain ⟨ad381, e381, hx381_0⟩ := Kd.at_int (Kd.R_reads' HO_5.out).2.2 (ji47) p381 q381
               obtain rfl : ad367 = ad381 := (by injection e381)
               replace p381 := eq_true p381
               replace q381 := eq_true q381
               have p382 : 0 ≤ (x6_1 : Int) := of_decide_eq_true (by first | (with_reducible assumption) | assumption)
               have q382 : x6_1 < (t360.length : Int) := of_decide_eq_true (by first | (with_reducible assumption) | assumption)
               obtain ⟨ad382, e382, hx382_0⟩ := Kd.at_int (Kd.R_reads' HO_5.out).2.2 x6_1 p382 q382
               obtain rfl : ad367 = ad382 := (by injection e382)
               replace p382 := eq_true p382
               replace q382 := eq_true q382
               refine start_ (n := 42) (S := fun w' => w'.cell? ⟨gb371, 0, none⟩ = some (.int .i64 t368) ∧ w'.cell? ⟨gb371, 1, none⟩ = some (.int .i64 t369) ∧ w'.cell? ⟨gb376, 0, none⟩ = some (.int .i64 t373) ∧ w'.cell? ⟨gb376, 1, none⟩ = some (.int .i64 t374) ∧ w'.cell? ⟨gb358, 0, none⟩ = some (.int .i64 t348) ∧ w'.cell? ⟨gb358, 1, none⟩ = some (.int .i64 t349) ∧ w'.cell? ⟨gb358, 2, none⟩ = some (.int .i64 t350) ∧ w'.cell? ⟨gb358, 3, none⟩ = some (.int .i64 t351) ∧ w'.cell? ⟨gb358, 4, none⟩ = some (.int .i64 t352) ∧ w'.cell? ⟨gb359, 0, none⟩ = some (.int .i64 t353) ∧ w'.cell? ⟨gb359, 1, none⟩ = some (.int .i64 t354) ∧ w'.cell? ⟨gb359, 2, none⟩ = some (.int .i64 t355) ∧ w'.cell? ⟨gb359, 3, none⟩ = some (.int .i64 t356) ∧ w'.cell? ⟨gb359, 4, none⟩ = some (.int .i64 t357) ∧ w'.cell? (ad367.add (x6_1).toNat) = some (.int .i64 (rd t360 x6_1)) ∧ w'.cell? (ad367.add (x6_1).toNat) = some (.int .i64 (rd t360 x6_1)) ∧ w'.cell? (ad367.add ((ji47)).toNat) = some (.int .i64 (rd t360 (ji47))) ∧ w'.cell? (ad367.add (x6_1).toNat) = some (.int .i64 (rd t360 x6_1))) (ds := []) #[false, false, false, false, false, false, false, false, false, false, false, false, false, false, false, false, false, false, false, false, false, false, false, false, false, false, false, false, false, false, false, false, false, false, false, false, false, false, false, false, false, false] (by kernel_rfl) rfl rfl ⟨(qc BK371.out 0).trans rfl, (qc BK371.out 1).trans rfl, (qc BK376.out 0).trans rfl, (qc BK376.out 1).trans rfl, (qc BK358.out 0).trans rfl, (qc BK358.out 1).trans rfl, (qc BK358.out 2).trans rfl, (qc BK358.out 3).trans rfl, (qc BK358.out 4).trans rfl, (qc BK359.out 0).trans rfl, (qc BK359.out 1).trans rfl, (qc BK359.out 2).trans rfl, (qc BK359.out 3).trans rfl, (qc BK359.out 4).trans rfl, hx377_0, hx379_0, hx381_0, hx382_0⟩ (fun hHeld => ?_); refine with_tabW laws_FnMeet.tab12 laws_FnMeet.bits12 (fun HT_ HW_ => ?_)
               generalize w81.drew = w82 at HO_5 BK358 BK359 BK371 BK376 HB hx377_0 hx379_0 hx381_0 hx382_0 hHeld ⊢
               refine pure_ (i := 0) (N := some 51) (v := ?_) (a' := ?_) #[true, false, false, false, false, false, false, false, false, false, false, false, false, false, false, false, false, false, false, false, false, false, false, false, false, false, false, false, false, false, false, false, false, false, false, false, false, false, false, false, false, false] rfl rfl (any_of HT_.out (by kernel_rfl)) (fun _ _ _ h => h) (Or.inl ⟨by rfl, ?_⟩) ?_ ?_
               rotate_left
               ·intro w'
                go_simp
                with_reducible rfl
               rotate_left
               ·simp only [Act.put, p1, p2, p3, i64_w, i32_w]
                rfl
               refine pure_ (i := 1) (N := some 52) (v := ?_) (a' := ?_) #[true, true, false, false, false, false, false, false, false, false, false, false, false, false, false, false, false, false, false, false, false, false, false, false, false, false, false, false, false, false, false, false, false, false, false, false, false, false, false, false, false, false] rfl rfl (any_of HT_.out (by kernel_rfl)) (fun _ _ _ h => h) (Or.inl ⟨by rfl, ?_⟩) ?_ ?_
               rotate_left
               ·intro w'
                go_simp
                with_reducible rfl
               rotate_left
               ·simp only [Act.put, p1, p2, p3, i64_w, i32_w]
                rfl
               refine pure_ (i := 2) (N := some 53) (v := ?_) (a' := ?_) #[true, true, true, false, false, false, false, false, false, false, false, false, false, false, false, false, false, false, false, false, false, false, false, false, false, false, false, false, false, false, false, false, false, false, false, false, false, false, false, false, false, false] rfl rfl (any_of HT_.out (by kernel_rfl)) (fun _ _ _ h => h) (Or.inl ⟨by rfl, ?_⟩) ?_ ?_
               rotate_left
               ·intro w'
                go_simp
                with_reducible rfl
               rotate_left
               ·simp only [Act.put, p1, p2, p3, i64_w, i32_w]
                rfl
               refine pure_ (i := 3) (N := some 54) (v := ?_) (a' := ?_) #[true, true, true, true, false, false, false, false, false, false, false, false, false, false, false, false, false, false, false, false, false, false, false, false, false, false, false, false, false, false, false, false, false, false, false, false, false, false, false, false, false, false] rfl rfl (any_of HT_.out (by kernel_rfl)) (fun _ _ _ h => h) (Or.inl ⟨by rfl, ?_⟩) ?_ ?_
               rotate_left
               ·intro w'
                go_simp
                with_reducible rfl
               rotate_left
               ·simp only [Act.put, p1, p2, p3, i64_w, i32_w]
                rfl
               refine pure_ (i := 4) (N := some 55) (v := ?_) (a' := ?_) #[true, true, true, true, true, false, false, false, false, false, false, false, false, false, false, false, false, false, false, false, false, false, false, false, false, false, false, false, false, false, false, false, false, false, false, false, false, false, false, false, false, false] rfl rfl (any_of HT_.out (by kernel_rfl)) (fun _ _ _ h => h) (Or.inl ⟨by rfl, ?_⟩) ?_ ?_
               rotate_left
               ·intro w'
                go_simp
                with_reducible rfl
               rotate_left
               ·simp only [Act.put, p1, p2, p3, i64_w, i32_w]
                rfl
               refine pure_ (i := 5) (N := some 56) (v := ?_) (a' := ?_) #[true, true, true, true, true, true, false, false, false, false, false, false, false, false, false, false, false, false, false, false, false, false, false, false, false, false, false, false, false, false, false, false, false, false, false, false, false, false, false, false, false, false] rfl rfl (any_of HT_.out (by kernel_rfl)) (fun _ _ _ h => h) (Or.inl ⟨by rfl, ?_⟩) ?_ ?_
               rotate_left
               ·intro w'
                go_simp
                with_reducible rfl
               rotate_left
               ·simp only [Act.put, p1, p2, p3, i64_w, i32_w]
                rfl
               refine pure_ (i := 6) (N := some 57) (v := ?_) (a' := ?_) #[true, true, true, true, true, true, true, false, false, false, false, false, false, false, false, false, false, false, false, false, false, false, false, false, false, false, false, false, false, false, false, false, false, false, false, false, false, false, false, false, false, false] rfl rfl (any_of HT_.out (by kernel_rfl)) (fun _ _ _ h => h) (Or.inl ⟨by rfl, ?_⟩) ?_ ?_
               rotate_left
               ·intro w'
                go_simp
                with_reducible rfl
               rotate_left
               ·simp only [Act.put, p1, p2, p3, i64_w, i32_w]
                rfl
               refine take_ (i := 7) (N := some 58) (v := ?_) (a' := ?_) #[true, true, true, true, true, true, true, true, false, false, false, false, false, false, false, false, false, false, false, false, false, false, false, false, false, false, false, false, false, false, false, false, false, false, false, false, false, false, false, false, false, false] rfl rfl (take_ofW HT_.out HW_.out (by kernel_rfl)) (fun _ _ _ h => h) (Or.inl ⟨by rfl, ?_⟩) hHeld ?_ ?_
               rotate_left
               ·rintro w' ⟨s0, s1, s2, s3, s4, s5, s6, s7, s8, s9, s10, s11, s12, s13, s14, s15, s16, s17⟩
                go_simp
                with_reducible rfl
               rotate_left
               ·simp only [Act.put, p1, p2, p3, i64_w, i32_w]
                rfl
               refine take_ (i := 8) (N := some 59) (v := ?_) (a' := ?_) #[true, true, true, true, true, true, true, true, true, false, false, false, false, false, false, false, false, false, false, false, false, false, false, false, false, false, false, false, false, false, false, false, false, false, false, false, false, false, false, false, false, false] rfl rfl (take_ofW HT_.out HW_.out (by kernel_rfl)) (fun _ _ _ h => h) (Or.inl ⟨by rfl, ?_⟩) hHeld ?_ ?_
               rotate_left
               ·rintro w' ⟨s0, s1, s2, s3, s4, s5, s6, s7, s8, s9, s10, s11, s12, s13, s14, s15, s16, s17⟩
                go_simp
                with_reducible rfl
               rotate_left
               ·simp only [Act.put, p1, p2, p3, i64_w, i32_w]
                rfl
               refine pure_ (i := 9) (N := some 60) (v := ?_) (a' := ?_) #[true, true, true, true, true, true, true, true, true, true, false, false, false, false, false, false, false, false, false, false, false, false, false, false, false, false, false, false, false, false, false, false, false, false, false, false, false, false, false, false, false, false] rfl rfl (any_of HT_.out (by kernel_rfl)) (fun _ _ _ h => h) (Or.inl ⟨by rfl, ?_⟩) ?_ ?_
               rotate_left
               ·intro w'
                go_simp
                with_reducible rfl
               rotate_left
               ·simp only [Act.put, p1, p2, p3, i64_w, i32_w]
                rfl
               refine pure_ (i := 10) (N := some 61) (v := ?_) (a' := ?_) #[true, true, true, true, true, true, true, true, true, true, true, false, false, false, false, false, false, false, false, false, false, false, false, false, false, false, false, false, false, false, false, false, false, false, false, false, false, false, false, false, false, false] rfl rfl (any_of HT_.out (by kernel_rfl)) (fun _ _ _ h => h) (Or.inl ⟨by rfl, ?_⟩) ?_ ?_
               rotate_left
               ·intro w'
                go_simp
                with_reducible rfl
               rotate_left
               ·simp only [Act.put, p1, p2, p3, i64_w, i32_w]
                rfl
               refine pure_ (i := 11) (N := some 62) (v := ?_) (a' := ?_) #[true, true, true, true, true, true, true, true, true, true, true, true, false, false, false, false, false, false, false, false, false, false, false, false, false, false, false, false, false, false, false, false, false, false, false, false, false, false, false, false, false, false] rfl rfl (any_of HT_.out (by kernel_rfl)) (fun _ _ _ h => h) (Or.inl ⟨by rfl, ?_⟩) ?_ ?_
               rotate_left
               ·intro w'
                go_simp
                with_reducible rfl
               rotate_left
               ·simp only [Act.put, p1, p2, p3, i64_w, i32_w]
                rfl
               refine pure_ (i := 13) (N := some 64) (v := ?_) (a' := ?_) #[true, true, true, true, true, true, true, true, true, true, true, true, false, true, false, false, false, false, false, false, false, false, false, false, false, false, false, false, false, false, false, false, false, false, false, false, false, false, false, false, false, false] rfl rfl (any_of HT_.out (by kernel_rfl)) (fun _ _ _ h => h) (Or.inl ⟨by rfl, ?_⟩) ?_ ?_
               rotate_left
               ·intro w'
                go_simp
                with_reducible rfl
               rotate_left
               ·simp only [Act.put, p1, p2, p3, i64_w, i32_w]
                rfl
               refine pure_ (i := 14) (N := some 65) (v := ?_) (a' := ?_) #[true, true, true, true, true, true, true, true, true, true, true, true, false, true, true, false, false, false, false, false, false, false, false, false, false, false, false, false, false, false, false, false, false, false, false, false, false, false, false, false, false, false] rfl rfl (any_of HT_.out (by kernel_rfl)) (fun _ _ _ h => h) (Or.inl ⟨by rfl, ?_⟩) ?_ ?_
               rotate_left
               ·intro w'
                go_simp
                with_reducible rfl
               rotate_left
               ·simp only [Act.put, p1, p2, p3, i64_w, i32_w]
                rfl
               refine pure_ (i := 15) (N := some 66) (v := ?_) (a' := ?_) #[true, true, true, true, true, true, true, true, true, true, true, true, false, true, true, true, false, false, false, false, false, false, false, false, false, false, false, false, false, false, false, false, false, false, false, false, false, false, false, false, false, false] rfl rfl (any_of HT_.out (by kernel_rfl)) (fun _ _ _ h => h) (Or.inl ⟨by rfl, ?_⟩) ?_ ?_
               rotate_left
               ·intro w'
                go_simp
                with_reducible rfl
               rotate_left
               ·simp only [Act.put, p1, p2, p3, i64_w, i32_w]
                rfl
               refine pure_ (i := 19) (N := some 70) (v := ?_) (a' := ?_) #[true, true, true, true, true, true, true, true, true, true, true, true, false, true, true, true, false, false, false, true, false, false, false, false, false, false, false, false, false, false, false, false, false, false, false, false, false, false, false, false, false, false] rfl rfl (any_of HT_.out (by kernel_rfl)) (fun _ _ _ h => h) (Or.inl ⟨by rfl, ?_⟩) ?_ ?_
               rotate_left
               ·intro w'
                go_simp
                with_reducible rfl
               rotate_left
               ·simp only [Act.put, p1, p2, p3, i64_w, i32_w]
                rfl
               refine pure_ (i := 20) (N := some 71) (v := ?_) (a' := ?_) #[true, true, true, true, true, true, true, true, true, true, true, true, false, true, true, true, false, false, false, true, true, false, false, false, false, false, false, false, false, false, false, false, false, false, false, false, false, false, false, false, false, false] rfl rfl (any_of HT_.out (by kernel_rfl)) (fun _ _ _ h => h) (Or.inl ⟨by rfl, ?_⟩) ?_ ?_
               rotate_left
               ·intro w'
                go_simp
                with_reducible rfl
               rotate_left
               ·simp only [Act.put, p1, p2, p3, i64_w, i32_w]
                rfl
               refine pure_ (i := 21) (N := some 72) (v := ?_) (a' := ?_) #[true, true, true, true, true, true, true, true, true, true, true, true, false, true, true, true, false, false, false, true, true, true, false, false, false, false, false, false, false, false, false, false, false, false, false, false, false, false, false, false, false, false] rfl rfl (any_of HT_.out (by kernel_rfl)) (fun _ _ _ h => h) (Or.inl ⟨by rfl, ?_⟩) ?_ ?_
               rotate_left
               ·intro w'
                go_simp
                with_reducible rfl
               rotate_left
               ·simp only [Act.put, p1, p2, p3, i64_w, i32_w]
                rfl
               refine take_ (i := 12) (N := some 63) (v := ?_) (a' := ?_) #[true, true, true, true, true, true, true, true, true, true, true, true, true, true, true, true, false, false, false, true, true, true, false, false, false, false, false, false, false, false, false, false, false, false, false, false, false, false, false, false, false, false] rfl rfl (take_ofW HT_.out HW_.out (by kernel_rfl)) (fun _ _ _ h => h) (Or.inl ⟨by rfl, ?_⟩) hHeld ?_ ?_
               rotate_left
               ·rintro w' ⟨s0, s1, s2, s3, s4, s5, s6, s7, s8, s9, s10, s11, s12, s13, s14, s15, s16, s17⟩
                go_simp
                with_reducible rfl
               rotate_left
               ·simp only [Act.put, p1, p2, p3, i64_w, i32_w]
                rfl
               refine take_ (i := 16) (N := some 67) (v := ?_) (a' := ?_) #[true, true, true, true, true, true, true, true, true, true, true, true, true, true, true, true, true, false, false, true, true, true, false, false, false, false, false, false, false, false, false, false, false, false, false, false, false, false, false, false, false, false] rfl rfl (take_ofW HT_.out HW_.out (by kernel_rfl)) (fun _ _ _ h => h) (Or.inl ⟨by rfl, ?_⟩) hHeld ?_ ?_
               rotate_left
               ·rintro w' ⟨s0, s1, s2, s3, s4, s5, s6, s7, s8, s9, s10, s11, s12, s13, s14, s15, s16, s17⟩
                go_simp
                with_reducible rfl
               rotate_left
               ·simp only [Act.put, p1, p2, p3, i64_w, i32_w]
                rfl
               refine take_ (i := 18) (N := some 69) (v := ?_) (a' := ?_) #[true, true, true, true, true, true, true, true, true, true, true, true, true, true, true, true, true, false, true, true, true, true, false, false, false, false, false, false, false, false, false, false, false, false, false, false, false, false, false, false, false, false] rfl rfl (take_ofW HT_.out HW_.out (by kernel_rfl)) (fun _ _ _ h => h) (Or.inl ⟨by rfl, ?_⟩) hHeld ?_ ?_
               rotate_left
               ·rintro w' ⟨s0, s1, s2, s3, s4, s5, s6, s7, s8, s9, s10, s11, s12, s13, s14, s15, s16, s17⟩
                go_simp
                with_reducible rfl
               rotate_left
               ·simp only [Act.put, p1, p2, p3, i64_w, i32_w]
                rfl
               refine take_ (i := 22) (N := some 73) (v := ?_) (a' := ?_) #[true, true, true, true, true, true, true, true, true, true, true, true, true, true, true, true, true, false, true, true, true, true, true, false, false, false, false, false, false, false, false, false, false, false, false, false, false, false, false, false, false, false] rfl rfl (take_ofW HT_.out HW_.out (by kernel_rfl)) (fun _ _ _ h => h) (Or.inl ⟨by rfl, ?_⟩) hHeld ?_ ?_
               rotate_left
               ·rintro w' ⟨s0, s1, s2, s3, s4, s5, s6, s7, s8, s9, s10, s11, s12, s13, s14, s15, s16, s17⟩
                go_simp
                with_reducible rfl
               rotate_left
               ·simp only [Act.put, p1, p2, p3, i64_w, i32_w]
                rfl
               refine one_ (i := 17) (N := some 68) #[true, true, true, true, true, true, true, true, true, true, true, true, true, true, true, true, true, true, true, true, true, true, true, false, false, false, false, false, false, false, false, false, false, false, false, false, false, false, false, false, false, false] rfl rfl (one_of HT_.out (by kernel_rfl)) (by decide) (fun K hK => ?_)
               refine goes_ Try.func53 (by kernel_rfl) rfl #[.agg #[.int .i64 t348, .int .i64 t349, .int .i64 t350, .int .i64 t351, .int .i64 t352], .int .i64 (rd t360 x6_1)] (by rfl) rfl rfl (by (try simp only [List.map_toArray, List.map_cons, List.map_nil]); first | done | rfl | (simp only [List.length_drop, List.length_take]; rfl)) ?_
               with_reducible refine (impl_HeightAt.calls t348 t349 t350 t351 t352 (rd t360 x6_1) t378 _ A43.out).mono ?_
               rintro e w83 ⟨rfl, hb⟩
               have HS14_ := (hb.cell (World.block_lt_of_cell? _ _ (hHeld.2.2.2.2.2.2.2.2.2.2.2.2.2.2.1))).trans (hHeld.2.2.2.2.2.2.2.2.2.2.2.2.2.2.1)
               have HS15_ := (hb.cell (World.block_lt_of_cell? _ _ (hHeld.2.2.2.2.2.2.2.2.2.2.2.2.2.2.2.1))).trans (hHeld.2.2.2.2.2.2.2.2.2.2.2.2.2.2.2.1)
               have HS16_ := (hb.cell (World.block_lt_of_cell? _ _ (hHeld.2.2.2.2.2.2.2.2.2.2.2.2.2.2.2.2.1))).trans (hHeld.2.2.2.2.2.2.2.2.2.2.2.2.2.2.2.2.1)
               have HS17_ := (hb.cell (World.block_lt_of_cell? _ _ (hHeld.2.2.2.2.2.2.2.2.2.2.2.2.2.2.2.2.2))).trans (hHeld.2.2.2.2.2.2.2.2.2.2.2.2.2.2.2.2.2)
               refine ⟨_, rfl, ?_⟩
               have n0_ := qg (qj (by (with_reducible repeat (first | apply qk | apply ql | apply qm)); exact HO_5.out) hb)
               have n1_ := qg (q8 (g := gb358) (o := .cells #[.int .i64 t348, .int .i64 t349, .int .i64 t350, .int .i64 t351, .int .i64 t352] 28 (0, 0)) (by (with_reducible repeat (first | refine q5 ?_ _ | refine q6 ?_ | refine q7 ?_ _)); exact BK358.out) hb)
               have n2_ := qg (q8 (g := gb359) (o := .cells #[.int .i64 t353, .int .i64 t354, .int .i64 t355, .int .i64 t356, .int .i64 t357] 28 (0, 0)) (by (with_reducible repeat (first | refine q5 ?_ _ | refine q6 ?_ | refine q7 ?_ _)); exact BK359.out) hb)
               have n3_ := qg (q8 (g := gb371) (o := .cells #[.int .i64 t368, .int .i64 t369] 26 (0, 0)) (by (with_reducible repeat (first | refine q5 ?_ _ | refine q6 ?_ | refine q7 ?_ _)); exact BK371.out) hb)
               have n4_ := qg (q8 (g := gb376) (o := .cells #[.int .i64 t373, .int .i64 t374] 26 (0, 0)) (by (with_reducible repeat (first | refine q5 ?_ _ | refine q6 ?_ | refine q7 ?_ _)); exact BK376.out) hb)
               have n5_ := qg (q9 (by repeat (first | (with_reducible first | exact HB.out | apply q1 | apply q2 | apply q3 | refine q4 ?_ GE358.out | refine q4 ?_ GE359.out | refine q4 ?_ GE371.out | refine q4 ?_ GE376.out) | exact HB.out)) hb)
               clear HO_5
               clear BK358
               clear BK359
               clear BK371
               clear BK376
               clear HB
               have HO_5 := n0_
               have BK358 := n1_
               have BK359 := n2_
               have BK371 := n3_
               have BK376 := n4_
               have HB := n5_
               clear n0_ n1_ n2_ n3_ n4_ n5_
               (try clear hb)
               (try clear hb2)
               (try clear hk)
               (try clear hi)
               refine hK.out _ _ ⟨(qc BK371.out 0).trans rfl, (qc BK371.out 1).trans rfl, (qc BK376.out 0).trans rfl, (qc BK376.out 1).trans rfl, (qc BK358.out 0).trans rfl, (qc BK358.out 1).trans rfl, (qc BK358.out 2).trans rfl, (qc BK358.out 3).trans rfl, (qc BK358.out 4).trans rfl, (qc BK359.out 0).trans rfl, (qc BK359.out 1).trans rfl, (qc BK359.out 2).trans rfl, (qc BK359.out 3).trans rfl, (qc BK359.out 4).trans rfl, HS14_, HS15_, HS16_, HS17_⟩ (fun hHeld => ?_)
               clear hK K
               refine norm_ (a' := ?_) ?_ ?_
               rotate_left
               ·show Act.put _ (some 68) _ = _
                simp only [Act.put, p1, p2, p3, i64_w, i32_w]
                rfl
               refine one_ (i := 23) (N := some 74) #[true, true, true, true, true, true, true, true, true, true, true, true, true, true, true, true, true, true, true, true, true, true, true, true, false, false, false, false, false, false, false, false, false, false, false, false, false, false, false, false, false, false] rfl rfl (one_of HT_.out (by kernel_rfl)) (by decide) (fun K hK => ?_)
               refine goes_ Try.func53 (by kernel_rfl) rfl #[.agg #[.int .i64 t353, .int .i64 t354, .int .i64 t355, .int .i64 t356, .int .i64 t357], .int .i64 (rd t360 x6_1)] (by rfl) rfl rfl (by (try simp only [List.map_toArray, List.map_cons, List.map_nil]); first | done | rfl | (simp only [List.length_drop, List.length_take]; rfl)) ?_
               with_reducible refine (impl_HeightAt.calls t353 t354 t355 t356 t357 (rd t360 x6_1) t380 _ A44.out).mono ?_
               rintro e w84 ⟨rfl, hb⟩
               have HS14_ := (hb.cell (World.block_lt_of_cell? _ _ (hHeld.2.2.2.2.2.2.2.2.2.2.2.2.2.2.1))).trans (hHeld.2.2.2.2.2.2.2.2.2.2.2.2.2.2.1)
               have HS15_ := (hb.cell (World.block_lt_of_cell? _ _ (hHeld.2.2.2.2.2.2.2.2.2.2.2.2.2.2.2.1))).trans (hHeld.2.2.2.2.2.2.2.2.2.2.2.2.2.2.2.1)
               have HS16_ := (hb.cell (World.block_lt_of_cell? _ _ (hHeld.2.2.2.2.2.2.2.2.2.2.2.2.2.2.2.2.1))).trans (hHeld.2.2.2.2.2.2.2.2.2.2.2.2.2.2.2.2.1)
               have HS17_ := (hb.cell (World.block_lt_of_cell? _ _ (hHeld.2.2.2.2.2.2.2.2.2.2.2.2.2.2.2.2.2))).trans (hHeld.2.2.2.2.2.2.2.2.2.2.2.2.2.2.2.2.2)
               refine ⟨_, rfl, ?_⟩
               have n0_ := qg (qj (by (with_reducible repeat (first | apply qk | apply ql | apply qm)); exact HO_5.out) hb)
               have n1_ := qg (q8 (g := gb358) (o := .cells #[.int .i64 t348, .int .i64 t349, .int .i64 t350, .int .i64 t351, .int .i64 t352] 28 (0, 0)) (by (with_reducible repeat (first | refine q5 ?_ _ | refine q6 ?_ | refine q7 ?_ _)); exact BK358.out) hb)
               have n2_ := qg (q8 (g := gb359) (o := .cells #[.int .i64 t353, .int .i64 t354, .int .i64 t355, .int .i64 t356, .int .i64 t357] 28 (0, 0)) (by (with_reducible repeat (first | refine q5 ?_ _ | refine q6 ?_ | refine q7 ?_ _)); exact BK359.out) hb)
               have n3_ := qg (q8 (g := gb371) (o := .cells #[.int .i64 t368, .int .i64 t369] 26 (0, 0)) (by (with_reducible repeat (first | refine q5 ?_ _ | refine q6 ?_ | refine q7 ?_ _)); exact BK371.out) hb)
               have n4_ := qg (q8 (g := gb376) (o := .cells #[.int .i64 t373, .int .i64 t374] 26 (0, 0)) (by (with_reducible repeat (first | refine q5 ?_ _ | refine q6 ?_ | refine q7 ?_ _)); exact BK376.out) hb)
               have n5_ := qg (q9 (by repeat (first | (with_reducible first | exact HB.out | apply q1 | apply q2 | apply q3 | refine q4 ?_ GE358.out | refine q4 ?_ GE359.out | refine q4 ?_ GE371.out | refine q4 ?_ GE376.out) | exact HB.out)) hb)
               clear HO_5
               clear BK358
               clear BK359
               clear BK371
               clear BK376
               clear HB
               have HO_5 := n0_
               have BK358 := n1_
               have BK359 := n2_
               have BK371 := n3_
               have BK376 := n4_
               have HB := n5_
               clear n0_ n1_ n2_ n3_ n4_ n5_
               (try clear hb)
               (try clear hb2)
               (try clear hk)
               (try clear hi)
               refine hK.out _ _ ⟨(qc BK371.out 0).trans rfl, (qc BK371.out 1).trans rfl, (qc BK376.out 0).trans rfl, (qc BK376.out 1).trans rfl, (qc BK358.out 0).trans rfl, (qc BK358.out 1).trans rfl, (qc BK358.out 2).trans rfl, (qc BK358.out 3).trans rfl, (qc BK358.out 4).trans rfl, (qc BK359.out 0).trans rfl, (qc BK359.out 1).trans rfl, (qc BK359.out 2).trans rfl, (qc BK359.out 3).trans rfl, (qc BK359.out 4).trans rfl, HS14_, HS15_, HS16_, HS17_⟩ (fun hHeld => ?_)
               clear hK K
               refine norm_ (a' := ?_) ?_ ?_
               rotate_left
               ·show Act.put _ (some 74) _ = _
                simp only [Act.put, p1, p2, p3, i64_w, i32_w]
                rfl
               refine pure_ (i := 24) (N := some 75) (v := ?_) (a' := ?_) #[true, true, true, true, true, true, true, true, true, true, true, true, true, true, true, true, true, true, true, true, true, true, true, true, true, false, false, false, false, false, false, false, false, false, false, false, false, false, false, false, false, false] rfl rfl (any_of HT_.out (by kernel_rfl)) (fun _ _ _ h => h) (Or.inl ⟨by rfl, ?_⟩) ?_ ?_
               rotate_left
               ·intro w'
                go_simp
                with_reducible rfl
               rotate_left
               ·simp only [Act.put, p1, p2, p3, i64_w, i32_w]
                rfl
               refine pure_ (i := 25) (N := some 76) (v := ?_) (a' := ?_) #[true, true, true, true, true, true, true, true, true, true, true, true, true, true, true, true, true, true, true, true, true, true, true, true, true, true, false, false, false, false, false, false, false, false, false, false, false, false, false, false, false, false] rfl rfl (any_of HT_.out (by kernel_rfl)) (fun _ _ _ h => h) (Or.inl ⟨by rfl, ?_⟩) ?_ ?_
               rotate_left
               ·intro w'
                go_simp
                with_reducible rfl
               rotate_left
               ·simp only [Act.put, p1, p2, p3, i64_w, i32_w]
                rfl
               refine pure_ (i := 26) (N := some 77) (v := ?_) (a' := ?_) #[true, true, true, true, true, true, true, true, true, true, true, true, true, true, true, true, true, true, true, true, true, true, true, true, true, true, true, false, false, false, false, false, false, false, false, false, false, false, false, false, false, false] rfl rfl (any_of HT_.out (by kernel_rfl)) (fun _ _ _ h => h) (Or.inl ⟨by rfl, ?_⟩) ?_ ?_
               rotate_left
               ·intro w'
                go_simp
                with_reducible rfl
               rotate_left
               ·simp only [Act.put, p1, p2, p3, i64_w, i32_w]
                rfl
               refine pure_ (i := 27) (N := some 78) (v := ?_) (a' := ?_) #[true, true, true, true, true, true, true, true, true, true, true, true, true, true, true, true, true, true, true, true, true, true, true, true, true, true, true, true, false, false, false, false, false, false, false, false, false, false, false, false, false, false] rfl rfl (any_of HT_.out (by kernel_rfl)) (fun _ _ _ h => h) (Or.inl ⟨by rfl, ?_⟩) ?_ ?_
               rotate_left
               ·intro w'
                go_simp
                with_reducible rfl
               rotate_left
               ·simp only [Act.put, p1, p2, p3, i64_w, i32_w]
                rfl
               refine pure_ (i := 28) (N := some 79) (v := ?_) (a' := ?_) #[true, true, true, true, true, true, true, true, true, true, true, true, true, true, true, true, true, true, true, true, true, true, true, true, true, true, true, true, true, false, false, false, false, false, false, false, false, false, false, false, false, false] rfl rfl (any_of HT_.out (by kernel_rfl)) (fun _ _ _ h => h) (Or.inl ⟨by rfl, ?_⟩) ?_ ?_
               rotate_left
               ·intro w'
                go_simp
                with_reducible rfl
               rotate_left
               ·simp only [Act.put, p1, p2, p3, i64_w, i32_w]
                rfl
               refine pure_ (i := 29) (N := some 80) (v := ?_) (a' := ?_) #[true, true, true, true, true, true, true, true, true, true, true, true, true, true, true, true, true, true, true, true, true, true, true, true, true, true, true, true, true, true, false, false, false, false, false, false, false, false, false, false, false, false] rfl rfl (any_of HT_.out (by kernel_rfl)) (fun _ _ _ h => h) (Or.inl ⟨by rfl, ?_⟩) ?_ ?_
               rotate_left
               ·intro w'
                go_simp
                with_reducible rfl
               rotate_left
               ·simp only [Act.put, p1, p2, p3, i64_w, i32_w]
                rfl
               refine pure_ (i := 30) (N := some 81) (v := ?_) (a' := ?_) #[true, true, true, true, true, true, true, true, true, true, true, true, true, true, true, true, true, true, true, true, true, true, true, true, true, true, true, true, true, true, true, false, false, false, false, false, false, false, false, false, false, false] rfl rfl (any_of HT_.out (by kernel_rfl)) (fun _ _ _ h => h) (Or.inl ⟨by rfl, ?_⟩) ?_ ?_
               rotate_left
               ·intro w'
                go_simp
                with_reducible rfl
               rotate_left
               ·simp only [Act.put, p1, p2, p3, i64_w, i32_w]
                rfl
               refine pure_ (i := 31) (N := some 82) (v := ?_) (a' := ?_) #[true, true, true, true, true, true, true, true, true, true, true, true, true, true, true, true, true, true, true, true, true, true, true, true, true, true, true, true, true, true, true, true, false, false, false, false, false, false, false, false, false, false] rfl rfl (any_of HT_.out (by kernel_rfl)) (fun _ _ _ h => h) (Or.inl ⟨by rfl, ?_⟩) ?_ ?_
               rotate_left
               ·intro w'
                go_simp
                with_reducible rfl
               rotate_left
               ·simp only [Act.put, p1, p2, p3, i64_w, i32_w]
                rfl
               refine pure_ (i := 32) (N := some 83) (v := ?_) (a' := ?_) #[true, true, true, true, true, true, true, true, true, true, true, true, true, true, true, true, true, true, true, true, true, true, true, true, true, true, true, true, true, true, true, true, true, false, false, false, false, false, false, false, false, false] rfl rfl (any_of HT_.out (by kernel_rfl)) (fun _ _ _ h => h) (Or.inl ⟨by rfl, ?_⟩) ?_ ?_
               rotate_left
               ·intro w'
                go_simp
                with_reducible rfl
               rotate_left
               ·simp only [Act.put, p1, p2, p3, i64_w, i32_w]
                rfl
               refine pure_ (i := 33) (N := some 84) (v := ?_) (a' := ?_) #[true, true, true, true, true, true, true, true, true, true, true, true, true, true, true, true, true, true, true, true, true, true, true, true, true, true, true, true, true, true, true, true, true, true, false, false, false, false, false, false, false, false] rfl rfl (any_of HT_.out (by kernel_rfl)) (fun _ _ _ h => h) (Or.inl ⟨by rfl, ?_⟩) ?_ ?_
               rotate_left
               ·intro w'
                go_simp
                with_reducible rfl
               rotate_left
               ·simp only [Act.put, p1, p2, p3, i64_w, i32_w]
                rfl
               refine pure_ (i := 35) (N := some 86) (v := ?_) (a' := ?_) #[true, true, true, true, true, true, true, true, true, true, true, true, true, true, true, true, true, true, true, true, true, true, true, true, true, true, true, true, true, true, true, true, true, true, false, true, false, false, false, false, false, false] rfl rfl (any_of HT_.out (by kernel_rfl)) (fun _ _ _ h => h) (Or.inl ⟨by rfl, ?_⟩) ?_ ?_
               rotate_left
               ·intro w'
                go_simp
                with_reducible rfl
               rotate_left
               ·simp only [Act.put, p1, p2, p3, i64_w, i32_w]
                rfl
               refine pure_ (i := 36) (N := some 87) (v := ?_) (a' := ?_) #[true, true, true, true, true, true, true, true, true, true, true, true, true, true, true, true, true, true, true, true, true, true, true, true, true, true, true, true, true, true, true, true, true, true, false, true, true, false, false, false, false, false] rfl rfl (any_of HT_.out (by kernel_rfl)) (fun _ _ _ h => h) (Or.inl ⟨by rfl, ?_⟩) ?_ ?_
               rotate_left
               ·intro w'
                go_simp
                with_reducible rfl
               rotate_left
               ·simp only [Act.put, p1, p2, p3, i64_w, i32_w]
                rfl
               refine pure_ (i := 37) (N := some 88) (v := ?_) (a' := ?_) #[true, true, true, true, true, true, true, true, true, true, true, true, true, true, true, true, true, true, true, true, true, true, true, true, true, true, true, true, true, true, true, true, true, true, false, true, true, true, false, false, false, false] rfl rfl (any_of HT_.out (by kernel_rfl)) (fun _ _ _ h => h) (Or.inl ⟨by rfl, ?_⟩) ?_ ?_
               rotate_left
               ·intro w'
                go_simp
                with_reducible rfl
               rotate_left
               ·simp only [Act.put, p1, p2, p3, i64_w, i32_w]
                rfl
               refine take_ (i := 34) (N := some 85) (v := ?_) (a' := ?_) #[true, true, true, true, true, true, true, true, true, true, true, true, true, true, true, true, true, true, true, true, true, true, true, true, true, true, true, true, true, true, true, true, true, true, true, true, true, true, false, false, false, false] rfl rfl (take_ofW HT_.out HW_.out (by kernel_rfl)) (fun _ _ _ h => h) (Or.inl ⟨by rfl, ?_⟩) hHeld ?_ ?_
               rotate_left
               ·rintro w' ⟨s0, s1, s2, s3, s4, s5, s6, s7, s8, s9, s10, s11, s12, s13, s14, s15, s16, s17⟩
                go_simp
                with_reducible rfl
               rotate_left
               ·simp only [Act.put, p1, p2, p3, i64_w, i32_w]
                rfl
               refine take_ (i := 38) (N := some 89) (v := ?_) (a' := ?_) #[true, true, true, true, true, true, true, true, true, true, true, true, true, true, true, true, true, true, true, true, true, true, true, true, true, true, true, true, true, true, true, true, true, true, true, true, true, true, true, false, false, false] rfl rfl (take_ofW HT_.out HW_.out (by kernel_rfl)) (fun _ _ _ h => h) (Or.inl ⟨by rfl, ?_⟩) hHeld ?_ ?_
               rotate_left
               ·rintro w' ⟨s0, s1, s2, s3, s4, s5, s6, s7, s8, s9, s10, s11, s12, s13, s14, s15, s16, s17⟩
                go_simp
                with_reducible rfl
               rotate_left
               ·simp only [Act.put, p1, p2, p3, i64_w, i32_w]
                rfl
               refine pure_ (i := 39) (N := some 90) (v := ?_) (a' := ?_) #[true, true, true, true, true, true, true, true, true, true, true, true, true, true, true, true, true, true, true, true, true, true, true, true, true, true, true, true, true, true, true, true, true, true, true, true, true, true, true, true, false, false] rfl rfl (any_of HT_.out (by kernel_rfl)) (fun _ _ _ h => h) (Or.inl ⟨by rfl, ?_⟩) ?_ ?_
               rotate_left
               ·intro w'
                go_simp
                with_reducible rfl
               rotate_left
               ·simp only [Act.put, p1, p2, p3, i64_w, i32_w]
                rfl
               refine pure_ (i := 40) (N := some 91) (v := ?_) (a' := ?_) #[true, true, true, true, true, true, true, true, true, true, true, true, true, true, true, true, true, true, true, true, true, true, true, true, true, true, true, true, true, true, true, true, true, true, true, true, true, true, true, true, true, false] rfl rfl (any_of HT_.out (by kernel_rfl)) (fun _ _ _ h => h) (Or.inl ⟨by rfl, ?_⟩) ?_ ?_
               rotate_left
               ·intro w'
                go_simp
                with_reducible rfl
               rotate_left
               ·simp only [Act.put, p1, p2, p3, i64_w, i32_w]
                rfl
               refine pure_ (i := 41) (N := some 92) (v := ?_) (a' := ?_) #[true, true, true, true, true, true, true, true, true, true, true, true, true, true, true, true, true, true, true, true, true, true, true, true, true, true, true, true, true, true, true, true, true, true, true, true, true, true, true, true, true, true] rfl rfl (any_of HT_.out (by kernel_rfl)) (fun _ _ _ h => h) (Or.inl ⟨by rfl, ?_⟩) ?_ ?_
               rotate_left
               ·intro w'
                go_simp
                with_reducible rfl
               rotate_left
               ·simp only [Act.put, p1, p2, p3, i64_w, i32_w]
                rfl
               refine done_ (done_of HT_.out (by kernel_rfl)) ?_
               try go_wp2
               go_roundg k1
               case measure => have := HK1.out; omega
               case rel => exact ⟨(wrap64 (x6_1 + 1)), (by first | rfl | (simp; done) | (simp [*]; done)), H', ⟨by have := HK1.out; omega⟩, ⟨by (with_reducible repeat (first | apply qk | apply ql | apply qm)); exact HO_5.out⟩, ⟨by (with_reducible repeat (first | refine q5 ?_ _ | refine q6 ?_ | refine q7 ?_ _)); exact BK358.out⟩, ⟨by (with_reducible repeat (first | refine q5 ?_ _ | refine q6 ?_ | refine q7 ?_ _)); exact BK359.out⟩, ⟨by repeat (first | (with_reducible first | exact HB.out | apply q1 | apply q2 | apply q3 | refine q4 ?_ GE358.out | refine q4 ?_ GE359.out | refine q4 ?_ GE371.out | refine q4 ?_ GE376.out) | exact HB.out)⟩⟩
             ·rw [if_neg c49] at H
              exact absurd H (by simp)
            ·rw [if_neg c48] at H
             exact absurd H (by simp)
           ·rw [if_neg c46] at H
            have c46b0 : decide (0 < x6_1) = false := decide_eq_false c46
            clear c46
            have H' := qg H
            clear H
            try go_wp2
            have n0_ := qg (qm HO_5.out)
            have n1_ := qg (q6 BK358.out)
            have n2_ := qg (q6 BK359.out)
            have n3_ := qg (q3 HB.out)
            clear HO_5
            clear BK358
            clear BK359
            clear HB
            have HO_5 := n0_
            have BK358 := n1_
            have BK359 := n2_
            have HB := n3_
            clear n0_ n1_ n2_ n3_
            have p367 : 0 ≤ (x6_1 : Int) := of_decide_eq_true (by first | (with_reducible assumption) | assumption)
            have q367 : x6_1 < (t360.length : Int) := of_decide_eq_true (by first | (with_reducible assumption) | assumption)
            obtain ⟨ad367, e367, hx367_0⟩ := Kd.at_int (Kd.R_reads' HO_5.out).2.2 x6_1 p367 q367
            cases e367
            replace p367 := eq_true p367
            replace q367 := eq_true q367
            refine start_ (n := 12) (S := fun w' => w'.cell? ⟨gb358, 0, none⟩ = some (.int .i64 t348) ∧ w'.cell? ⟨gb358, 1, none⟩ = some (.int .i64 t349) ∧ w'.cell? ⟨gb358, 2, none⟩ = some (.int .i64 t350) ∧ w'.cell? ⟨gb358, 3, none⟩ = some (.int .i64 t351) ∧ w'.cell? ⟨gb358, 4, none⟩ = some (.int .i64 t352) ∧ w'.cell? (ad367.add (x6_1).toNat) = some (.int .i64 (rd t360 x6_1))) (ds := []) #[false, false, false, false, false, false, false, false, false, false, false, false] (by kernel_rfl) rfl rfl ⟨(qc BK358.out 0).trans rfl, (qc BK358.out 1).trans rfl, (qc BK358.out 2).trans rfl, (qc BK358.out 3).trans rfl, (qc BK358.out 4).trans rfl, hx367_0⟩ (fun hHeld => ?_); refine with_tabW laws_FnMeet.tab10 laws_FnMeet.bits10 (fun HT_ HW_ => ?_)
            generalize wr.drew = w85 at HO_5 BK358 BK359 HB hx367_0 hHeld ⊢
            refine pure_ (i := 1) (N := some 35) (v := ?_) (a' := ?_) #[false, true, false, false, false, false, false, false, false, false, false, false] rfl rfl (any_of HT_.out (by kernel_rfl)) (fun _ _ _ h => h) (Or.inl ⟨by rfl, ?_⟩) ?_ ?_
            rotate_left
            ·intro w'
             go_simp
             with_reducible rfl
            rotate_left
            ·simp only [Act.put, p1, p2, p3, i64_w, i32_w]
             rfl
            refine pure_ (i := 2) (N := some 36) (v := ?_) (a' := ?_) #[false, true, true, false, false, false, false, false, false, false, false, false] rfl rfl (any_of HT_.out (by kernel_rfl)) (fun _ _ _ h => h) (Or.inl ⟨by rfl, ?_⟩) ?_ ?_
            rotate_left
            ·intro w'
             go_simp
             with_reducible rfl
            rotate_left
            ·simp only [Act.put, p1, p2, p3, i64_w, i32_w]
             rfl
            refine pure_ (i := 3) (N := some 37) (v := ?_) (a' := ?_) #[false, true, true, true, false, false, false, false, false, false, false, false] rfl rfl (any_of HT_.out (by kernel_rfl)) (fun _ _ _ h => h) (Or.inl ⟨by rfl, ?_⟩) ?_ ?_
            rotate_left
            ·intro w'
             go_simp
             with_reducible rfl
            rotate_left
            ·simp only [Act.put, p1, p2, p3, i64_w, i32_w]
             rfl
            refine take_ (i := 0) (N := some 34) (v := ?_) (a' := ?_) #[true, true, true, true, false, false, false, false, false, false, false, false] rfl rfl (take_ofW HT_.out HW_.out (by kernel_rfl)) (fun _ _ _ h => h) (Or.inl ⟨by rfl, ?_⟩) hHeld ?_ ?_
            rotate_left
            ·rintro w' ⟨s0, s1, s2, s3, s4, s5⟩
             go_simp
             with_reducible rfl
            rotate_left
            ·simp only [Act.put, p1, p2, p3, i64_w, i32_w]
             rfl
            refine take_ (i := 4) (N := some 38) (v := ?_) (a' := ?_) #[true, true, true, true, true, false, false, false, false, false, false, false] rfl rfl (take_ofW HT_.out HW_.out (by kernel_rfl)) (fun _ _ _ h => h) (Or.inl ⟨by rfl, ?_⟩) hHeld ?_ ?_
            rotate_left
            ·rintro w' ⟨s0, s1, s2, s3, s4, s5⟩
             go_simp
             with_reducible rfl
            rotate_left
            ·simp only [Act.put, p1, p2, p3, i64_w, i32_w]
             rfl
            refine join_ (σ := Nat) 2 #[true, true, true, true, true, true, true, true, true, true, false, false] (fun s_ => [(39, .tuple #[.agg #[.int .i64 t368, .int .i64 t369], .bool true]), (7, .pointer (some ⟨s_, 0, none⟩)), (33, .tuple #[.agg #[.int .i64 t368, .int .i64 t369], .bool true]), (40, .agg #[.int .i64 t368, .int .i64 t369]), (41, .bool true)]) (fun s_ w' => (w'.cell? ⟨gb358, 0, none⟩ = some (.int .i64 t348) ∧ w'.cell? ⟨gb358, 1, none⟩ = some (.int .i64 t349) ∧ w'.cell? ⟨gb358, 2, none⟩ = some (.int .i64 t350) ∧ w'.cell? ⟨gb358, 3, none⟩ = some (.int .i64 t351) ∧ w'.cell? ⟨gb358, 4, none⟩ = some (.int .i64 t352) ∧ w'.cell? (ad367.add (x6_1).toNat) = some (.int .i64 (rd t360 x6_1))) ∧ (Kd.R (Kd.int .i64) 3 w' w.heap.size (fun _ => True) (.slice (some ad367) t360.length co19) t360) ∧ (w'.heap[gb358]? = some (.cells #[.int .i64 t348, .int .i64 t349, .int .i64 t350, .int .i64 t351, .int .i64 t352] 28 (0, 0))) ∧ (w'.heap[gb359]? = some (.cells #[.int .i64 t353, .int .i64 t354, .int .i64 t355, .int .i64 t356, .int .i64 t357] 28 (0, 0))) ∧ (w'.heap[s_]? = some (.cells #[.int .i64 0, .int .i64 0] 26 (0, 0))) ∧ (w.heap.size ≤ s_) ∧ (w.heap.size ≤ s_) ∧ (gb358 ≠ s_) ∧ (s_ ≠ gb358) ∧ (gb359 ≠ s_) ∧ (s_ ≠ gb359) ∧ (Below w.heap.size w w')) ?_ ?_
            rotate_left
            ·intro hCont
             refine two_ (i := 5) (j := 9) (Ni := some 39) (Nj := some 7) #[true, true, true, true, true, true, false, false, false, false, false, false] #[true, true, true, true, true, false, false, false, false, true, false, false] rfl rfl rfl rfl (two_of HT_.out (by kernel_rfl)) (by decide) (by decide) (fun K hK => ?_) (fun K hK => ?_)
             ·skip
              refine goes_ Try.func26 (by kernel_rfl) rfl #[.agg #[.int .i64 t348, .int .i64 t349, .int .i64 t350, .int .i64 t351, .int .i64 t352], .int .i64 (rd t360 x6_1)] (by rfl) rfl rfl (by (try simp only [List.map_toArray, List.map_cons, List.map_nil]); first | done | rfl | (simp only [List.length_drop, List.length_take]; rfl)) ?_
              with_reducible refine (impl_PlaceAt.calls k1 t348 t349 t350 t351 t352 (rd t360 x6_1) t368 t369 true _ A23.out).mono ?_
              rintro e w86 ⟨rfl, hb⟩
              have HS5_ := (hb.cell (World.block_lt_of_cell? _ _ (hHeld.2.2.2.2.2))).trans (hHeld.2.2.2.2.2)
              refine ⟨_, rfl, ?_⟩
              have n0_ := qg (qj (by (with_reducible repeat (first | apply qk | apply ql | apply qm)); exact HO_5.out) hb)
              have n1_ := qg (q8 (g := gb358) (o := .cells #[.int .i64 t348, .int .i64 t349, .int .i64 t350, .int .i64 t351, .int .i64 t352] 28 (0, 0)) (by (with_reducible repeat (first | refine q5 ?_ _ | refine q6 ?_ | refine q7 ?_ _)); exact BK358.out) hb)
              have n2_ := qg (q8 (g := gb359) (o := .cells #[.int .i64 t353, .int .i64 t354, .int .i64 t355, .int .i64 t356, .int .i64 t357] 28 (0, 0)) (by (with_reducible repeat (first | refine q5 ?_ _ | refine q6 ?_ | refine q7 ?_ _)); exact BK359.out) hb)
              have n3_ := qg (q9 (by repeat (first | (with_reducible first | exact HB.out | apply q1 | apply q2 | apply q3 | refine q4 ?_ GE358.out | refine q4 ?_ GE359.out) | exact HB.out)) hb)
              clear HO_5
              clear BK358
              clear BK359
              clear HB
              have HO_5 := n0_
              have BK358 := n1_
              have BK359 := n2_
              have HB := n3_
              clear n0_ n1_ n2_ n3_
              (try clear hb)
              (try clear hb2)
              (try clear hk)
              (try clear hi)
              refine hK.out _ _ ⟨(qc BK358.out 0).trans rfl, (qc BK358.out 1).trans rfl, (qc BK358.out 2).trans rfl, (qc BK358.out 3).trans rfl, (qc BK358.out 4).trans rfl, HS5_⟩ (fun hHeld => ?_)
              clear hK K
              refine norm_ (a' := ?_) ?_ ?_
              rotate_left
              ·show Act.put _ (some 39) _ = _
               simp only [Act.put, p1, p2, p3, i64_w, i32_w]
               rfl
              refine pure_ (i := 6) (N := some 33) (v := ?_) (a' := ?_) #[true, true, true, true, true, true, true, false, false, false, false, false] rfl rfl (any_of HT_.out (by kernel_rfl)) (fun _ _ _ h => h) (Or.inl ⟨by rfl, ?_⟩) ?_ ?_
              rotate_left
              ·intro w'
               go_simp
               with_reducible rfl
              rotate_left
              ·simp only [Act.put, p1, p2, p3, i64_w, i32_w]
               rfl
              refine pure_ (i := 7) (N := some 40) (v := ?_) (a' := ?_) #[true, true, true, true, true, true, true, true, false, false, false, false] rfl rfl (any_of HT_.out (by kernel_rfl)) (fun _ _ _ h => h) (Or.inl ⟨by rfl, ?_⟩) ?_ ?_
              rotate_left
              ·intro w'
               go_simp
               with_reducible rfl
              rotate_left
              ·simp only [Act.put, p1, p2, p3, i64_w, i32_w]
               rfl
              refine pure_ (i := 8) (N := some 41) (v := ?_) (a' := ?_) #[true, true, true, true, true, true, true, true, true, false, false, false] rfl rfl (any_of HT_.out (by kernel_rfl)) (fun _ _ _ h => h) (Or.inl ⟨by rfl, ?_⟩) ?_ ?_
              rotate_left
              ·intro w'
               go_simp
               with_reducible rfl
              rotate_left
              ·simp only [Act.put, p1, p2, p3, i64_w, i32_w]
               rfl
              refine one_ (i := 9) (N := some 7) #[true, true, true, true, true, true, true, true, true, true, false, false] rfl rfl (one_of HT_.out (by kernel_rfl)) (by decide) (fun K hK => ?_)
              refine box_step ?hg (N := 7) ?hd (cs := #[.int .i64 0, .int .i64 0]) (t := 26) ?hr ?_; (case hd => rfl); (case hg => rfl); (case hr => first | (go_simp; done) | (go_simp; rfl))
              intro gb371 hg w87 hbox hb
              have HS5_ := (hb.cell (World.block_lt_of_cell? _ _ (hHeld.2.2.2.2.2))).trans (hHeld.2.2.2.2.2)
              have n0_ := qg (qj (by (with_reducible repeat (first | apply qk | apply ql | apply qm)); exact HO_5.out) hb)
              have n1_ := qg (q8 (g := gb358) (o := .cells #[.int .i64 t348, .int .i64 t349, .int .i64 t350, .int .i64 t351, .int .i64 t352] 28 (0, 0)) (by (with_reducible repeat (first | refine q5 ?_ _ | refine q6 ?_ | refine q7 ?_ _)); exact BK358.out) hb)
              have n2_ := qg (q8 (g := gb359) (o := .cells #[.int .i64 t353, .int .i64 t354, .int .i64 t355, .int .i64 t356, .int .i64 t357] 28 (0, 0)) (by (with_reducible repeat (first | refine q5 ?_ _ | refine q6 ?_ | refine q7 ?_ _)); exact BK359.out) hb)
              have n3_ := qg (q9 (by repeat (first | (with_reducible first | exact HB.out | apply q1 | apply q2 | apply q3 | refine q4 ?_ GE358.out | refine q4 ?_ GE359.out) | exact HB.out)) hb)
              have n4_ := qg (hbox)
              have n5_ := qg ((by rw [hg]; exact (qa (by repeat (first | (with_reducible first | exact HB.out | apply q1 | apply q2 | apply q3 | refine q4 ?_ GE358.out | refine q4 ?_ GE359.out) | exact HB.out))) : w.heap.size ≤ gb371))
              have n6_ := qg ((by rw [hg]; exact (qa (by repeat (first | (with_reducible first | exact HB.out | apply q1 | apply q2 | apply q3 | refine q4 ?_ GE358.out | refine q4 ?_ GE359.out) | exact HB.out))) : w.heap.size ≤ gb371))
              have n7_ := qg ((by rw [hg]; exact qv (qd (g := gb358) (o := .cells #[.int .i64 t348, .int .i64 t349, .int .i64 t350, .int .i64 t351, .int .i64 t352] 28 (0, 0)) (by (with_reducible repeat (first | refine q5 ?_ _ | refine q6 ?_ | refine q7 ?_ _)); exact BK358.out)) : gb358 ≠ gb371))
              have n8_ := qg ((by rw [hg]; exact qw (qd (g := gb358) (o := .cells #[.int .i64 t348, .int .i64 t349, .int .i64 t350, .int .i64 t351, .int .i64 t352] 28 (0, 0)) (by (with_reducible repeat (first | refine q5 ?_ _ | refine q6 ?_ | refine q7 ?_ _)); exact BK358.out)) : gb371 ≠ gb358))
              have n9_ := qg ((by rw [hg]; exact qv (qd (g := gb359) (o := .cells #[.int .i64 t353, .int .i64 t354, .int .i64 t355, .int .i64 t356, .int .i64 t357] 28 (0, 0)) (by (with_reducible repeat (first | refine q5 ?_ _ | refine q6 ?_ | refine q7 ?_ _)); exact BK359.out)) : gb359 ≠ gb371))
              have n10_ := qg ((by rw [hg]; exact qw (qd (g := gb359) (o := .cells #[.int .i64 t353, .int .i64 t354, .int .i64 t355, .int .i64 t356, .int .i64 t357] 28 (0, 0)) (by (with_reducible repeat (first | refine q5 ?_ _ | refine q6 ?_ | refine q7 ?_ _)); exact BK359.out)) : gb371 ≠ gb359))
              clear HO_5
              clear BK358
              clear BK359
              clear HB
              have HO_5 := n0_
              have BK358 := n1_
              have BK359 := n2_
              have HB := n3_
              have BK371 := n4_
              have GW371 := n5_
              have GE371 := n6_
              have NB358_371 := n7_
              have NB371_358 := n8_
              have NB359_371 := n9_
              have NB371_359 := n10_
              clear n0_ n1_ n2_ n3_ n4_ n5_ n6_ n7_ n8_ n9_ n10_
              clear hb hbox hg
              refine hK.out _ _ ⟨(qc BK358.out 0).trans rfl, (qc BK358.out 1).trans rfl, (qc BK358.out 2).trans rfl, (qc BK358.out 3).trans rfl, (qc BK358.out 4).trans rfl, HS5_⟩ (fun hHeld => ?_)
              clear hK K
              refine norm_ (a' := ?_) ?_ ?_
              rotate_left
              ·show Act.put _ (some 7) _ = _
               simp only [Act.put, p1, p2, p3, i64_w, i32_w]
               rfl
              exact norm_ (by simp only [putAll, Act.put, p1, p2, p3]) (hCont (gb371) _ ⟨hHeld, (by (with_reducible repeat (first | apply qk | apply ql | apply qm)); exact HO_5.out), (by (with_reducible repeat (first | refine q5 ?_ _ | refine q6 ?_ | refine q7 ?_ _)); exact BK358.out), (by (with_reducible repeat (first | refine q5 ?_ _ | refine q6 ?_ | refine q7 ?_ _)); exact BK359.out), (by (with_reducible repeat (first | refine q5 ?_ _ | refine q6 ?_ | refine q7 ?_ _)); exact BK371.out), GW371.out, GE371.out, NB358_371.out, NB371_358.out, NB359_371.out, NB371_359.out, (by repeat (first | (with_reducible first | exact HB.out | apply q1 | apply q2 | apply q3 | refine q4 ?_ GE358.out | refine q4 ?_ GE359.out | refine q4 ?_ GE371.out) | exact HB.out))⟩)
             ·skip
              refine box_step ?hg (N := 7) ?hd (cs := #[.int .i64 0, .int .i64 0]) (t := 26) ?hr ?_; (case hd => rfl); (case hg => rfl); (case hr => first | (go_simp; done) | (go_simp; rfl))
              intro gb371 hg w86 hbox hb
              have HS5_ := (hb.cell (World.block_lt_of_cell? _ _ (hHeld.2.2.2.2.2))).trans (hHeld.2.2.2.2.2)
              have n0_ := qg (qj (by (with_reducible repeat (first | apply qk | apply ql | apply qm)); exact HO_5.out) hb)
              have n1_ := qg (q8 (g := gb358) (o := .cells #[.int .i64 t348, .int .i64 t349, .int .i64 t350, .int .i64 t351, .int .i64 t352] 28 (0, 0)) (by (with_reducible repeat (first | refine q5 ?_ _ | refine q6 ?_ | refine q7 ?_ _)); exact BK358.out) hb)
              have n2_ := qg (q8 (g := gb359) (o := .cells #[.int .i64 t353, .int .i64 t354, .int .i64 t355, .int .i64 t356, .int .i64 t357] 28 (0, 0)) (by (with_reducible repeat (first | refine q5 ?_ _ | refine q6 ?_ | refine q7 ?_ _)); exact BK359.out) hb)
              have n3_ := qg (q9 (by repeat (first | (with_reducible first | exact HB.out | apply q1 | apply q2 | apply q3 | refine q4 ?_ GE358.out | refine q4 ?_ GE359.out) | exact HB.out)) hb)
              have n4_ := qg (hbox)
              have n5_ := qg ((by rw [hg]; exact (qa (by repeat (first | (with_reducible first | exact HB.out | apply q1 | apply q2 | apply q3 | refine q4 ?_ GE358.out | refine q4 ?_ GE359.out) | exact HB.out))) : w.heap.size ≤ gb371))
              have n6_ := qg ((by rw [hg]; exact (qa (by repeat (first | (with_reducible first | exact HB.out | apply q1 | apply q2 | apply q3 | refine q4 ?_ GE358.out | refine q4 ?_ GE359.out) | exact HB.out))) : w.heap.size ≤ gb371))
              have n7_ := qg ((by rw [hg]; exact qv (qd (g := gb358) (o := .cells #[.int .i64 t348, .int .i64 t349, .int .i64 t350, .int .i64 t351, .int .i64 t352] 28 (0, 0)) (by (with_reducible repeat (first | refine q5 ?_ _ | refine q6 ?_ | refine q7 ?_ _)); exact BK358.out)) : gb358 ≠ gb371))
              have n8_ := qg ((by rw [hg]; exact qw (qd (g := gb358) (o := .cells #[.int .i64 t348, .int .i64 t349, .int .i64 t350, .int .i64 t351, .int .i64 t352] 28 (0, 0)) (by (with_reducible repeat (first | refine q5 ?_ _ | refine q6 ?_ | refine q7 ?_ _)); exact BK358.out)) : gb371 ≠ gb358))
              have n9_ := qg ((by rw [hg]; exact qv (qd (g := gb359) (o := .cells #[.int .i64 t353, .int .i64 t354, .int .i64 t355, .int .i64 t356, .int .i64 t357] 28 (0, 0)) (by (with_reducible repeat (first | refine q5 ?_ _ | refine q6 ?_ | refine q7 ?_ _)); exact BK359.out)) : gb359 ≠ gb371))
              have n10_ := qg ((by rw [hg]; exact qw (qd (g := gb359) (o := .cells #[.int .i64 t353, .int .i64 t354, .int .i64 t355, .int .i64 t356, .int .i64 t357] 28 (0, 0)) (by (with_reducible repeat (first | refine q5 ?_ _ | refine q6 ?_ | refine q7 ?_ _)); exact BK359.out)) : gb371 ≠ gb359))
              clear HO_5
              clear BK358
              clear BK359
              clear HB
              have HO_5 := n0_
              have BK358 := n1_
              have BK359 := n2_
              have HB := n3_
              have BK371 := n4_
              have GW371 := n5_
              have GE371 := n6_
              have NB358_371 := n7_
              have NB371_358 := n8_
              have NB359_371 := n9_
              have NB371_359 := n10_
              clear n0_ n1_ n2_ n3_ n4_ n5_ n6_ n7_ n8_ n9_ n10_
              clear hb hbox hg
              refine hK.out _ _ ⟨(qc BK358.out 0).trans rfl, (qc BK358.out 1).trans rfl, (qc BK358.out 2).trans rfl, (qc BK358.out 3).trans rfl, (qc BK358.out 4).trans rfl, HS5_⟩ (fun hHeld => ?_)
              clear hK K
              refine norm_ (a' := ?_) ?_ ?_
              rotate_left
              ·show Act.put _ (some 7) _ = _
               simp only [Act.put, p1, p2, p3, i64_w, i32_w]
               rfl
              refine one_ (i := 5) (N := some 39) #[true, true, true, true, true, true, false, false, false, true, false, false] rfl rfl (one_of HT_.out (by kernel_rfl)) (by decide) (fun K hK => ?_)
              refine goes_ Try.func26 (by kernel_rfl) rfl #[.agg #[.int .i64 t348, .int .i64 t349, .int .i64 t350, .int .i64 t351, .int .i64 t352], .int .i64 (rd t360 x6_1)] (by rfl) rfl rfl (by (try simp only [List.map_toArray, List.map_cons, List.map_nil]); first | done | rfl | (simp only [List.length_drop, List.length_take]; rfl)) ?_
              with_reducible refine (impl_PlaceAt.calls k1 t348 t349 t350 t351 t352 (rd t360 x6_1) t368 t369 true _ A23.out).mono ?_
              rintro e w87 ⟨rfl, hb⟩
              have HS5_ := (hb.cell (World.block_lt_of_cell? _ _ (hHeld.2.2.2.2.2))).trans (hHeld.2.2.2.2.2)
              refine ⟨_, rfl, ?_⟩
              have n0_ := qg (qj (by (with_reducible repeat (first | apply qk | apply ql | apply qm)); exact HO_5.out) hb)
              have n1_ := qg (q8 (g := gb358) (o := .cells #[.int .i64 t348, .int .i64 t349, .int .i64 t350, .int .i64 t351, .int .i64 t352] 28 (0, 0)) (by (with_reducible repeat (first | refine q5 ?_ _ | refine q6 ?_ | refine q7 ?_ _)); exact BK358.out) hb)
              have n2_ := qg (q8 (g := gb359) (o := .cells #[.int .i64 t353, .int .i64 t354, .int .i64 t355, .int .i64 t356, .int .i64 t357] 28 (0, 0)) (by (with_reducible repeat (first | refine q5 ?_ _ | refine q6 ?_ | refine q7 ?_ _)); exact BK359.out) hb)
              have n3_ := qg (q8 (g := gb371) (o := .cells #[.int .i64 0, .int .i64 0] 26 (0, 0)) (by (with_reducible repeat (first | refine q5 ?_ _ | refine q6 ?_ | refine q7 ?_ _)); exact BK371.out) hb)
              have n4_ := qg (q9 (by repeat (first | (with_reducible first | exact HB.out | apply q1 | apply q2 | apply q3 | refine q4 ?_ GE358.out | refine q4 ?_ GE359.out | refine q4 ?_ GE371.out) | exact HB.out)) hb)
              clear HO_5
              clear BK358
              clear BK359
              clear BK371
              clear HB
              have HO_5 := n0_
              have BK358 := n1_
              have BK359 := n2_
              have BK371 := n3_
              have HB := n4_
              clear n0_ n1_ n2_ n3_ n4_
              (try clear hb)
              (try clear hb2)
              (try clear hk)
              (try clear hi)
              refine hK.out _ _ ⟨(qc BK358.out 0).trans rfl, (qc BK358.out 1).trans rfl, (qc BK358.out 2).trans rfl, (qc BK358.out 3).trans rfl, (qc BK358.out 4).trans rfl, HS5_⟩ (fun hHeld => ?_)
              clear hK K
              refine norm_ (a' := ?_) ?_ ?_
              rotate_left
              ·show Act.put _ (some 39) _ = _
               simp only [Act.put, p1, p2, p3, i64_w, i32_w]
               rfl
              refine pure_ (i := 6) (N := some 33) (v := ?_) (a' := ?_) #[true, true, true, true, true, true, true, false, false, true, false, false] rfl rfl (any_of HT_.out (by kernel_rfl)) (fun _ _ _ h => h) (Or.inl ⟨by rfl, ?_⟩) ?_ ?_
              rotate_left
              ·intro w'
               go_simp
               with_reducible rfl
              rotate_left
              ·simp only [Act.put, p1, p2, p3, i64_w, i32_w]
               rfl
              refine pure_ (i := 7) (N := some 40) (v := ?_) (a' := ?_) #[true, true, true, true, true, true, true, true, false, true, false, false] rfl rfl (any_of HT_.out (by kernel_rfl)) (fun _ _ _ h => h) (Or.inl ⟨by rfl, ?_⟩) ?_ ?_
              rotate_left
              ·intro w'
               go_simp
               with_reducible rfl
              rotate_left
              ·simp only [Act.put, p1, p2, p3, i64_w, i32_w]
               rfl
              refine pure_ (i := 8) (N := some 41) (v := ?_) (a' := ?_) #[true, true, true, true, true, true, true, true, true, true, false, false] rfl rfl (any_of HT_.out (by kernel_rfl)) (fun _ _ _ h => h) (Or.inl ⟨by rfl, ?_⟩) ?_ ?_
              rotate_left
              ·intro w'
               go_simp
               with_reducible rfl
              rotate_left
              ·simp only [Act.put, p1, p2, p3, i64_w, i32_w]
               rfl
              exact norm_ (by simp only [putAll, Act.put, p1, p2, p3]) (hCont (gb371) _ ⟨hHeld, (by (with_reducible repeat (first | apply qk | apply ql | apply qm)); exact HO_5.out), (by (with_reducible repeat (first | refine q5 ?_ _ | refine q6 ?_ | refine q7 ?_ _)); exact BK358.out), (by (with_reducible repeat (first | refine q5 ?_ _ | refine q6 ?_ | refine q7 ?_ _)); exact BK359.out), (by (with_reducible repeat (first | refine q5 ?_ _ | refine q6 ?_ | refine q7 ?_ _)); exact BK371.out), GW371.out, GE371.out, NB358_371.out, NB371_358.out, NB359_371.out, NB371_359.out, (by repeat (first | (with_reducible first | exact HB.out | apply q1 | apply q2 | apply q3 | refine q4 ?_ GE358.out | refine q4 ?_ GE359.out | refine q4 ?_ GE371.out) | exact HB.out))⟩)
            rintro gb371 w88 ⟨hS_, h0_, h1_, h2_, h3_, h4_, h5_, h6_, h7_, h8_, h9_, h10_⟩
            have n0_ : Aside0 (Kd.R (Kd.int .i64) 3 w88 w.heap.size (fun _ => True) (.slice (some ad367) t360.length co19) t360) := ⟨h0_⟩
            have n1_ : Aside0 (w88.heap[gb358]? = some (.cells #[.int .i64 t348, .int .i64 t349, .int .i64 t350, .int .i64 t351, .int .i64 t352] 28 (0, 0))) := ⟨h1_⟩
            have n2_ : Aside0 (w88.heap[gb359]? = some (.cells #[.int .i64 t353, .int .i64 t354, .int .i64 t355, .int .i64 t356, .int .i64 t357] 28 (0, 0))) := ⟨h2_⟩
            have n3_ : Aside0 (w88.heap[gb371]? = some (.cells #[.int .i64 0, .int .i64 0] 26 (0, 0))) := ⟨h3_⟩
            have n4_ : Aside0 (w.heap.size ≤ gb371) := ⟨h4_⟩
            have n5_ : Aside0 (w.heap.size ≤ gb371) := ⟨h5_⟩
            have n6_ : Aside0 (gb358 ≠ gb371) := ⟨h6_⟩
            have n7_ : Aside0 (gb371 ≠ gb358) := ⟨h7_⟩
            have n8_ : Aside0 (gb359 ≠ gb371) := ⟨h8_⟩
            have n9_ : Aside0 (gb371 ≠ gb359) := ⟨h9_⟩
            have n10_ : Aside0 (Below w.heap.size w w88) := ⟨h10_⟩
            clear HO_5
            clear BK358
            clear BK359
            clear HB
            clear h0_ h1_ h2_ h3_ h4_ h5_ h6_ h7_ h8_ h9_ h10_
            have HO_5 := n0_
            have BK358 := n1_
            have BK359 := n2_
            have BK371 := n3_
            have GW371 := n4_
            have GE371 := n5_
            have NB358_371 := n6_
            have NB371_358 := n7_
            have NB359_371 := n8_
            have NB371_359 := n9_
            have HB := n10_
            clear n0_ n1_ n2_ n3_ n4_ n5_ n6_ n7_ n8_ n9_ n10_
            have hHeld : w88.cell? ⟨gb358, 0, none⟩ = some (.int .i64 t348) ∧ w88.cell? ⟨gb358, 1, none⟩ = some (.int .i64 t349) ∧ w88.cell? ⟨gb358, 2, none⟩ = some (.int .i64 t350) ∧ w88.cell? ⟨gb358, 3, none⟩ = some (.int .i64 t351) ∧ w88.cell? ⟨gb358, 4, none⟩ = some (.int .i64 t352) ∧ w88.cell? (ad367.add (x6_1).toNat) = some (.int .i64 (rd t360 x6_1)) := hS_
            refine norm_ (a' := ?_) ?_ ?_
            rotate_left
            ·simp only [putAll, Act.put, p1, p2, p3]
             rfl
            refine one_ (i := 10) (N := none) #[true, true, true, true, true, true, true, true, true, true, true, false] rfl rfl (one_of HT_.out (by kernel_rfl)) (by decide) (fun K hK => ?_)
            have hs89 : w88.cell? ⟨gb371, 0, none⟩ = some (.int .i64 0) := (qc BK371.out 0).trans rfl
            have hfs89 := qb BK371.out 0
            have hns89_0 := NB358_371.out
            have hns89_1 := NB359_371.out
            have hms89_0 := NB371_358.out
            have hms89_1 := NB371_359.out
            have hs90 : w88.cell? ⟨gb371, 1, none⟩ = some (.int .i64 0) := (qc BK371.out 1).trans rfl
            have hfs90 := qb BK371.out 1
            have hns90_0 := NB358_371.out
            have hns90_1 := NB359_371.out
            have hms90_0 := NB371_358.out
            have hms90_1 := NB371_359.out
            refine skip_ (w1 := ?_) (by rfl) rfl ?_ ?_
            rotate_left
            ·go_simp
             rfl
            refine hK.out _ _ ⟨((qi (p := ⟨gb371, _, none⟩) NB358_371.out _).trans (((qi (p := ⟨gb371, _, none⟩) NB358_371.out _).trans (hHeld.1)))), ((qi (p := ⟨gb371, _, none⟩) NB358_371.out _).trans (((qi (p := ⟨gb371, _, none⟩) NB358_371.out _).trans (hHeld.2.1)))), ((qi (p := ⟨gb371, _, none⟩) NB358_371.out _).trans (((qi (p := ⟨gb371, _, none⟩) NB358_371.out _).trans (hHeld.2.2.1)))), ((qi (p := ⟨gb371, _, none⟩) NB358_371.out _).trans (((qi (p := ⟨gb371, _, none⟩) NB358_371.out _).trans (hHeld.2.2.2.1)))), ((qi (p := ⟨gb371, _, none⟩) NB358_371.out _).trans (((qi (p := ⟨gb371, _, none⟩) NB358_371.out _).trans (hHeld.2.2.2.2.1)))), ((qi (p := ⟨gb371, _, none⟩) (by first | exact Kd.own_blk (Kd.R_ne HO_5.out BK371.out (by decide)) | (rw [add_block]; exact Kd.own_blk (Kd.R_ne HO_5.out BK371.out (by decide))) | (show (Addr.add _ _).block ≠ _; rw [add_block]; exact Kd.own_blk (Kd.R_ne HO_5.out BK371.out (by decide))) | (dsimp only; exact Kd.own_blk (Kd.R_ne HO_5.out BK371.out (by decide)))) _).trans (((qi (p := ⟨gb371, _, none⟩) (by first | exact Kd.own_blk (Kd.R_ne HO_5.out BK371.out (by decide)) | (rw [add_block]; exact Kd.own_blk (Kd.R_ne HO_5.out BK371.out (by decide))) | (show (Addr.add _ _).block ≠ _; rw [add_block]; exact Kd.own_blk (Kd.R_ne HO_5.out BK371.out (by decide))) | (dsimp only; exact Kd.own_blk (Kd.R_ne HO_5.out BK371.out (by decide)))) _).trans (hHeld.2.2.2.2.2))))⟩ (fun hHeld => ?_)
            clear hK K
            refine pure_ (i := 11) (N := some 8) (v := ?_) (a' := ?_) #[true, true, true, true, true, true, true, true, true, true, true, true] rfl rfl (any_of HT_.out (by kernel_rfl)) (fun _ _ _ h => h) (Or.inl ⟨by rfl, ?_⟩) ?_ ?_
            rotate_left
            ·intro w'
             go_simp
             with_reducible rfl
            rotate_left
            ·simp only [Act.put, p1, p2, p3, i64_w, i32_w]
             rfl
            refine done_ (done_of HT_.out (by kernel_rfl)) ?_
            try go_wp2
            have n0_ : Aside0 (Kd.R (Kd.int .i64) 3 ((w88.setCell ⟨gb371, 0, none⟩ (.int .i64 t368)).setCell ⟨gb371, 1, none⟩ (.int .i64 t369)) w.heap.size (fun _ => True) (.slice (some ad367) t360.length co19) t360) := ⟨by (with_reducible repeat (first | apply qk | apply ql | apply qm)); exact Kd.R_mono (Kd.R_far (p := ⟨gb371, 1, none⟩) (Kd.R_far (p := ⟨gb371, 0, none⟩) (Kd.R_types HO_5.out BK371.out (by decide)) (fun _ hk => hk.2) (.int .i64 t368)) (fun _ hk => hk.2) (.int .i64 t369)) (fun _ hk => trivial)⟩
            have n1_ : Aside0 (((w88.setCell ⟨gb371, 0, none⟩ (.int .i64 t368)).setCell ⟨gb371, 1, none⟩ (.int .i64 t369)).heap[gb358]? = some (.cells #[.int .i64 t348, .int .i64 t349, .int .i64 t350, .int .i64 t351, .int .i64 t352] 28 (0, 0))) := ⟨by (with_reducible repeat (first | refine q5 ?_ _ | refine q6 ?_ | refine q7 ?_ _)); refine qe ?_ NB358_371.out _; (with_reducible repeat (first | refine q5 ?_ _ | refine q6 ?_ | refine q7 ?_ _)); refine qe ?_ NB358_371.out _; (with_reducible repeat (first | refine q5 ?_ _ | refine q6 ?_ | refine q7 ?_ _)); exact BK358.out⟩
            have n2_ : Aside0 (((w88.setCell ⟨gb371, 0, none⟩ (.int .i64 t368)).setCell ⟨gb371, 1, none⟩ (.int .i64 t369)).heap[gb359]? = some (.cells #[.int .i64 t353, .int .i64 t354, .int .i64 t355, .int .i64 t356, .int .i64 t357] 28 (0, 0))) := ⟨by (with_reducible repeat (first | refine q5 ?_ _ | refine q6 ?_ | refine q7 ?_ _)); refine qe ?_ NB359_371.out _; (with_reducible repeat (first | refine q5 ?_ _ | refine q6 ?_ | refine q7 ?_ _)); refine qe ?_ NB359_371.out _; (with_reducible repeat (first | refine q5 ?_ _ | refine q6 ?_ | refine q7 ?_ _)); exact BK359.out⟩
            have n3_ : Aside0 (((w88.setCell ⟨gb371, 0, none⟩ (.int .i64 t368)).setCell ⟨gb371, 1, none⟩ (.int .i64 t369)).heap[gb371]? = some (.cells #[.int .i64 t368, .int .i64 t369] 26 (0, 0))) := ⟨by (with_reducible repeat (first | refine q5 ?_ _ | refine q6 ?_ | refine q7 ?_ _)); refine qf (cs := #[.int .i64 t368, .int .i64 0]) ?_ 1 _ rfl; (with_reducible repeat (first | refine q5 ?_ _ | refine q6 ?_ | refine q7 ?_ _)); refine qf (cs := #[.int .i64 0, .int .i64 0]) ?_ 0 _ rfl; (with_reducible repeat (first | refine q5 ?_ _ | refine q6 ?_ | refine q7 ?_ _)); exact BK371.out⟩
            have n4_ : Aside0 (Below w.heap.size w ((w88.setCell ⟨gb371, 0, none⟩ (.int .i64 t368)).setCell ⟨gb371, 1, none⟩ (.int .i64 t369))) := ⟨by repeat (first | (with_reducible first | exact HB.out | apply q1 | apply q2 | apply q3 | refine q4 ?_ GE358.out | refine q4 ?_ GE359.out | refine q4 ?_ GE371.out) | exact HB.out)⟩
            (try clear HO_5)
            (try clear BK358)
            (try clear BK359)
            (try clear BK371)
            (try clear HB)
            generalize ((w88.setCell ⟨gb371, 0, none⟩ (.int .i64 t368)).setCell ⟨gb371, 1, none⟩ (.int .i64 t369)) = w91 at n0_ n1_ n2_ n3_ n4_ ⊢
            have HO_5 := n0_
            have BK358 := n1_
            have BK359 := n2_
            have BK371 := n3_
            have HB := n4_
            clear n0_ n1_ n2_ n3_ n4_
            have n0_ := qg (qm HO_5.out)
            have n1_ := qg (q6 BK358.out)
            have n2_ := qg (q6 BK359.out)
            have n3_ := qg (q6 BK371.out)
            have n4_ := qg (q3 HB.out)
            clear HO_5
            clear BK358
            clear BK359
            clear BK371
            clear HB
            have HO_5 := n0_
            have BK358 := n1_
            have BK359 := n2_
            have BK371 := n3_
            have HB := n4_
            clear n0_ n1_ n2_ n3_ n4_
            have p372 : 0 ≤ (x6_1 : Int) := of_decide_eq_true (by first | (with_reducible assumption) | assumption)
            have q372 : x6_1 < (t360.length : Int) := of_decide_eq_true (by first | (with_reducible assumption) | assumption)
            obtain ⟨ad372, e372, hx372_0⟩ := Kd.at_int (Kd.R_reads' HO_5.out).2.2 x6_1 p372 q372
            obtain rfl : ad367 = ad372 := (by injection e372)
            replace p372 := eq_true p372
            replace q372 := eq_true q372
            refine start_ (n := 12) (S := fun w' => w'.cell? ⟨gb359, 0, none⟩ = some (.int .i64 t353) ∧ w'.cell? ⟨gb359, 1, none⟩ = some (.int .i64 t354) ∧ w'.cell? ⟨gb359, 2, none⟩ = some (.int .i64 t355) ∧ w'.cell? ⟨gb359, 3, none⟩ = some (.int .i64 t356) ∧ w'.cell? ⟨gb359, 4, none⟩ = some (.int .i64 t357) ∧ w'.cell? (ad367.add (x6_1).toNat) = some (.int .i64 (rd t360 x6_1))) (ds := []) #[false, false, false, false, false, false, false, false, false, false, false, false] (by kernel_rfl) rfl rfl ⟨(qc BK359.out 0).trans rfl, (qc BK359.out 1).trans rfl, (qc BK359.out 2).trans rfl, (qc BK359.out 3).trans rfl, (qc BK359.out 4).trans rfl, hx372_0⟩ (fun hHeld => ?_); refine with_tabW laws_FnMeet.tab11 laws_FnMeet.bits11 (fun HT_ HW_ => ?_)
            generalize w91.drew = w92 at HO_5 BK358 BK359 BK371 HB hx372_0 hHeld ⊢
            refine pure_ (i := 1) (N := some 44) (v := ?_) (a' := ?_) #[false, true, false, false, false, false, false, false, false, false, false, false] rfl rfl (any_of HT_.out (by kernel_rfl)) (fun _ _ _ h => h) (Or.inl ⟨by rfl, ?_⟩) ?_ ?_
            rotate_left
            ·intro w'
             go_simp
             with_reducible rfl
            rotate_left
            ·simp only [Act.put, p1, p2, p3, i64_w, i32_w]
             rfl
            refine pure_ (i := 2) (N := some 45) (v := ?_) (a' := ?_) #[false, true, true, false, false, false, false, false, false, false, false, false] rfl rfl (any_of HT_.out (by kernel_rfl)) (fun _ _ _ h => h) (Or.inl ⟨by rfl, ?_⟩) ?_ ?_
            rotate_left
            ·intro w'
             go_simp
             with_reducible rfl
            rotate_left
            ·simp only [Act.put, p1, p2, p3, i64_w, i32_w]
             rfl
            refine pure_ (i := 3) (N := some 46) (v := ?_) (a' := ?_) #[false, true, true, true, false, false, false, false, false, false, false, false] rfl rfl (any_of HT_.out (by kernel_rfl)) (fun _ _ _ h => h) (Or.inl ⟨by rfl, ?_⟩) ?_ ?_
            rotate_left
            ·intro w'
             go_simp
             with_reducible rfl
            rotate_left
            ·simp only [Act.put, p1, p2, p3, i64_w, i32_w]
             rfl
            refine take_ (i := 0) (N := some 43) (v := ?_) (a' := ?_) #[true, true, true, true, false, false, false, false, false, false, false, false] rfl rfl (take_ofW HT_.out HW_.out (by kernel_rfl)) (fun _ _ _ h => h) (Or.inl ⟨by rfl, ?_⟩) hHeld ?_ ?_
            rotate_left
            ·rintro w' ⟨s0, s1, s2, s3, s4, s5⟩
             go_simp
             with_reducible rfl
            rotate_left
            ·simp only [Act.put, p1, p2, p3, i64_w, i32_w]
             rfl
            refine take_ (i := 4) (N := some 47) (v := ?_) (a' := ?_) #[true, true, true, true, true, false, false, false, false, false, false, false] rfl rfl (take_ofW HT_.out HW_.out (by kernel_rfl)) (fun _ _ _ h => h) (Or.inl ⟨by rfl, ?_⟩) hHeld ?_ ?_
            rotate_left
            ·rintro w' ⟨s0, s1, s2, s3, s4, s5⟩
             go_simp
             with_reducible rfl
            rotate_left
            ·simp only [Act.put, p1, p2, p3, i64_w, i32_w]
             rfl
            refine join_ (σ := Nat) 2 #[true, true, true, true, true, true, true, true, true, true, false, false] (fun s_ => [(48, .tuple #[.agg #[.int .i64 t373, .int .i64 t374], .bool true]), (9, .pointer (some ⟨s_, 0, none⟩)), (42, .tuple #[.agg #[.int .i64 t373, .int .i64 t374], .bool true]), (49, .agg #[.int .i64 t373, .int .i64 t374]), (50, .bool true)]) (fun s_ w' => (w'.cell? ⟨gb359, 0, none⟩ = some (.int .i64 t353) ∧ w'.cell? ⟨gb359, 1, none⟩ = some (.int .i64 t354) ∧ w'.cell? ⟨gb359, 2, none⟩ = some (.int .i64 t355) ∧ w'.cell? ⟨gb359, 3, none⟩ = some (.int .i64 t356) ∧ w'.cell? ⟨gb359, 4, none⟩ = some (.int .i64 t357) ∧ w'.cell? (ad367.add (x6_1).toNat) = some (.int .i64 (rd t360 x6_1))) ∧ (Kd.R (Kd.int .i64) 3 w' w.heap.size (fun _ => True) (.slice (some ad367) t360.length co19) t360) ∧ (w'.heap[gb358]? = some (.cells #[.int .i64 t348, .int .i64 t349, .int .i64 t350, .int .i64 t351, .int .i64 t352] 28 (0, 0))) ∧ (w'.heap[gb359]? = some (.cells #[.int .i64 t353, .int .i64 t354, .int .i64 t355, .int .i64 t356, .int .i64 t357] 28 (0, 0))) ∧ (w'.heap[gb371]? = some (.cells #[.int .i64 t368, .int .i64 t369] 26 (0, 0))) ∧ (w'.heap[s_]? = some (.cells #[.int .i64 0, .int .i64 0] 26 (0, 0))) ∧ (w.heap.size ≤ s_) ∧ (w.heap.size ≤ s_) ∧ (gb358 ≠ s_) ∧ (s_ ≠ gb358) ∧ (gb359 ≠ s_) ∧ (s_ ≠ gb359) ∧ (gb371 ≠ s_) ∧ (s_ ≠ gb371) ∧ (Below w.heap.size w w')) ?_ ?_
            rotate_left
            ·intro hCont
             refine two_ (i := 5) (j := 9) (Ni := some 48) (Nj := some 9) #[true, true, true, true, true, true, false, false, false, false, false, false] #[true, true, true, true, true, false, false, false, false, true, false, false] rfl rfl rfl rfl (two_of HT_.out (by kernel_rfl)) (by decide) (by decide) (fun K hK => ?_) (fun K hK => ?_)
             ·skip
              refine goes_ Try.func26 (by kernel_rfl) rfl #[.agg #[.int .i64 t353, .int .i64 t354, .int .i64 t355, .int .i64 t356, .int .i64 t357], .int .i64 (rd t360 x6_1)] (by rfl) rfl rfl (by (try simp only [List.map_toArray, List.map_cons, List.map_nil]); first | done | rfl | (simp only [List.length_drop, List.length_take]; rfl)) ?_
              with_reducible refine (impl_PlaceAt.calls k1 t353 t354 t355 t356 t357 (rd t360 x6_1) t373 t374 true _ A24.out).mono ?_
              rintro e w93 ⟨rfl, hb⟩
              have HS5_ := (hb.cell (World.block_lt_of_cell? _ _ (hHeld.2.2.2.2.2))).trans (hHeld.2.2.2.2.2)
              refine ⟨_, rfl, ?_⟩
              have n0_ := qg (qj (by (with_reducible repeat (first | apply qk | apply ql | apply qm)); exact HO_5.out) hb)
              have n1_ := qg (q8 (g := gb358) (o := .cells #[.int .i64 t348, .int .i64 t349, .int .i64 t350, .int .i64 t351, .int .i64 t352] 28 (0, 0)) (by (with_reducible repeat (first | refine q5 ?_ _ | refine q6 ?_ | refine q7 ?_ _)); exact BK358.out) hb)
              have n2_ := qg (q8 (g := gb359) (o := .cells #[.int .i64 t353, .int .i64 t354, .int .i64 t355, .int .i64 t356, .int .i64 t357] 28 (0, 0)) (by (with_reducible repeat (first | refine q5 ?_ _ | refine q6 ?_ | refine q7 ?_ _)); exact BK359.out) hb)
              have n3_ := qg (q8 (g := gb371) (o := .cells #[.int .i64 t368, .int .i64 t369] 26 (0, 0)) (by (with_reducible repeat (first | refine q5 ?_ _ | refine q6 ?_ | refine q7 ?_ _)); exact BK371.out) hb)
              have n4_ := qg (q9 (by repeat (first | (with_reducible first | exact HB.out | apply q1 | apply q2 | apply q3 | refine q4 ?_ GE358.out | refine q4 ?_ GE359.out | refine q4 ?_ GE371.out) | exact HB.out)) hb)
              clear HO_5
              clear BK358
              clear BK359
              clear BK371
              clear HB
              have HO_5 := n0_
              have BK358 := n1_
              have BK359 := n2_
              have BK371 := n3_
              have HB := n4_
              clear n0_ n1_ n2_ n3_ n4_
              (try clear hb)
              (try clear hb2)
              (try clear hk)
              (try clear hi)
              refine hK.out _ _ ⟨(qc BK359.out 0).trans rfl, (qc BK359.out 1).trans rfl, (qc BK359.out 2).trans rfl, (qc BK359.out 3).trans rfl, (qc BK359.out 4).trans rfl, HS5_⟩ (fun hHeld => ?_)
              clear hK K
              refine norm_ (a' := ?_) ?_ ?_
              rotate_left
              ·show Act.put _ (some 48) _ = _
               simp only [Act.put, p1, p2, p3, i64_w, i32_w]
               rfl
              refine pure_ (i := 6) (N := some 42) (v := ?_) (a' := ?_) #[true, true, true, true, true, true, true, false, false, false, false, false] rfl rfl (any_of HT_.out (by kernel_rfl)) (fun _ _ _ h => h) (Or.inl ⟨by rfl, ?_⟩) ?_ ?_
              rotate_left
              ·intro w'
               go_simp
               with_reducible rfl
              rotate_left
              ·simp only [Act.put, p1, p2, p3, i64_w, i32_w]
               rfl
              refine pure_ (i := 7) (N := some 49) (v := ?_) (a' := ?_) #[true, true, true, true, true, true, true, true, false, false, false, false] rfl rfl (any_of HT_.out (by kernel_rfl)) (fun _ _ _ h => h) (Or.inl ⟨by rfl, ?_⟩) ?_ ?_
              rotate_left
              ·intro w'
               go_simp
               with_reducible rfl
              rotate_left
              ·simp only [Act.put, p1, p2, p3, i64_w, i32_w]
               rfl
              refine pure_ (i := 8) (N := some 50) (v := ?_) (a' := ?_) #[true, true, true, true, true, true, true, true, true, false, false, false] rfl rfl (any_of HT_.out (by kernel_rfl)) (fun _ _ _ h => h) (Or.inl ⟨by rfl, ?_⟩) ?_ ?_
              rotate_left
              ·intro w'
               go_simp
               with_reducible rfl
              rotate_left
              ·simp only [Act.put, p1, p2, p3, i64_w, i32_w]
               rfl
              refine one_ (i := 9) (N := some 9) #[true, true, true, true, true, true, true, true, true, true, false, false] rfl rfl (one_of HT_.out (by kernel_rfl)) (by decide) (fun K hK => ?_)
              refine box_step ?hg (N := 9) ?hd (cs := #[.int .i64 0, .int .i64 0]) (t := 26) ?hr ?_; (case hd => rfl); (case hg => rfl); (case hr => first | (go_simp; done) | (go_simp; rfl))
              intro gb376 hg w94 hbox hb
              have HS5_ := (hb.cell (World.block_lt_of_cell? _ _ (hHeld.2.2.2.2.2))).trans (hHeld.2.2.2.2.2)
              have n0_ := qg (qj (by (with_reducible repeat (first | apply qk | apply ql | apply qm)); exact HO_5.out) hb)
              have n1_ := qg (q8 (g := gb358) (o := .cells #[.int .i64 t348, .int .i64 t349, .int .i64 t350, .int .i64 t351, .int .i64 t352] 28 (0, 0)) (by (with_reducible repeat (first | refine q5 ?_ _ | refine q6 ?_ | refine q7 ?_ _)); exact BK358.out) hb)
              have n2_ := qg (q8 (g := gb359) (o := .cells #[.int .i64 t353, .int .i64 t354, .int .i64 t355, .int .i64 t356, .int .i64 t357] 28 (0, 0)) (by (with_reducible repeat (first | refine q5 ?_ _ | refine q6 ?_ | refine q7 ?_ _)); exact BK359.out) hb)
              have n3_ := qg (q8 (g := gb371) (o := .cells #[.int .i64 t368, .int .i64 t369] 26 (0, 0)) (by (with_reducible repeat (first | refine q5 ?_ _ | refine q6 ?_ | refine q7 ?_ _)); exact BK371.out) hb)
              have n4_ := qg (q9 (by repeat (first | (with_reducible first | exact HB.out | apply q1 | apply q2 | apply q3 | refine q4 ?_ GE358.out | refine q4 ?_ GE359.out | refine q4 ?_ GE371.out) | exact HB.out)) hb)
              have n5_ := qg (hbox)
              have n6_ := qg ((by rw [hg]; exact (qa (by repeat (first | (with_reducible first | exact HB.out | apply q1 | apply q2 | apply q3 | refine q4 ?_ GE358.out | refine q4 ?_ GE359.out | refine q4 ?_ GE371.out) | exact HB.out))) : w.heap.size ≤ gb376))
              have n7_ := qg ((by rw [hg]; exact (qa (by repeat (first | (with_reducible first | exact HB.out | apply q1 | apply q2 | apply q3 | refine q4 ?_ GE358.out | refine q4 ?_ GE359.out | refine q4 ?_ GE371.out) | exact HB.out))) : w.heap.size ≤ gb376))
              have n8_ := qg ((by rw [hg]; exact qv (qd (g := gb358) (o := .cells #[.int .i64 t348, .int .i64 t349, .int .i64 t350, .int .i64 t351, .int .i64 t352] 28 (0, 0)) (by (with_reducible repeat (first | refine q5 ?_ _ | refine q6 ?_ | refine q7 ?_ _)); exact BK358.out)) : gb358 ≠ gb376))
              have n9_ := qg ((by rw [hg]; exact qw (qd (g := gb358) (o := .cells #[.int .i64 t348, .int .i64 t349, .int .i64 t350, .int .i64 t351, .int .i64 t352] 28 (0, 0)) (by (with_reducible repeat (first | refine q5 ?_ _ | refine q6 ?_ | refine q7 ?_ _)); exact BK358.out)) : gb376 ≠ gb358))
              have n10_ := qg ((by rw [hg]; exact qv (qd (g := gb359) (o := .cells #[.int .i64 t353, .int .i64 t354, .int .i64 t355, .int .i64 t356, .int .i64 t357] 28 (0, 0)) (by (with_reducible repeat (first | refine q5 ?_ _ | refine q6 ?_ | refine q7 ?_ _)); exact BK359.out)) : gb359 ≠ gb376))
              have n11_ := qg ((by rw [hg]; exact qw (qd (g := gb359) (o := .cells #[.int .i64 t353, .int .i64 t354, .int .i64 t355, .int .i64 t356, .int .i64 t357] 28 (0, 0)) (by (with_reducible repeat (first | refine q5 ?_ _ | refine q6 ?_ | refine q7 ?_ _)); exact BK359.out)) : gb376 ≠ gb359))
              have n12_ := qg ((by rw [hg]; exact qv (qd (g := gb371) (o := .cells #[.int .i64 t368, .int .i64 t369] 26 (0, 0)) (by (with_reducible repeat (first | refine q5 ?_ _ | refine q6 ?_ | refine q7 ?_ _)); exact BK371.out)) : gb371 ≠ gb376))
              have n13_ := qg ((by rw [hg]; exact qw (qd (g := gb371) (o := .cells #[.int .i64 t368, .int .i64 t369] 26 (0, 0)) (by (with_reducible repeat (first | refine q5 ?_ _ | refine q6 ?_ | refine q7 ?_ _)); exact BK371.out)) : gb376 ≠ gb371))
              clear HO_5
              clear BK358
              clear BK359
              clear BK371
              clear HB
              have HO_5 := n0_
              have BK358 := n1_
              have BK359 := n2_
              have BK371 := n3_
              have HB := n4_
              have BK376 := n5_
              have GW376 := n6_
              have GE376 := n7_
              have NB358_376 := n8_
              have NB376_358 := n9_
              have NB359_376 := n10_
              have NB376_359 := n11_
              have NB371_376 := n12_
              have NB376_371 := n13_
              clear n0_ n1_ n2_ n3_ n4_ n5_ n6_ n7_ n8_ n9_ n10_ n11_ n12_ n13_
              clear hb hbox hg
              refine hK.out _ _ ⟨(qc BK359.out 0).trans rfl, (qc BK359.out 1).trans rfl, (qc BK359.out 2).trans rfl, (qc BK359.out 3).trans rfl, (qc BK359.out 4).trans rfl, HS5_⟩ (fun hHeld => ?_)
              clear hK K
              refine norm_ (a' := ?_) ?_ ?_
              rotate_left
              ·show Act.put _ (some 9) _ = _
               simp only [Act.put, p1, p2, p3, i64_w, i32_w]
               rfl
              exact norm_ (by simp only [putAll, Act.put, p1, p2, p3]) (hCont (gb376) _ ⟨hHeld, (by (with_reducible repeat (first | apply qk | apply ql | apply qm)); exact HO_5.out), (by (with_reducible repeat (first | refine q5 ?_ _ | refine q6 ?_ | refine q7 ?_ _)); exact BK358.out), (by (with_reducible repeat (first | refine q5 ?_ _ | refine q6 ?_ | refine q7 ?_ _)); exact BK359.out), (by (with_reducible repeat (first | refine q5 ?_ _ | refine q6 ?_ | refine q7 ?_ _)); exact BK371.out), (by (with_reducible repeat (first | refine q5 ?_ _ | refine q6 ?_ | refine q7 ?_ _)); exact BK376.out), GW376.out, GE376.out, NB358_376.out, NB376_358.out, NB359_376.out, NB376_359.out, NB371_376.out, NB376_371.out, (by repeat (first | (with_reducible first | exact HB.out | apply q1 | apply q2 | apply q3 | refine q4 ?_ GE358.out | refine q4 ?_ GE359.out | refine q4 ?_ GE371.out | refine q4 ?_ GE376.out) | exact HB.out))⟩)
             ·skip
              refine box_step ?hg (N := 9) ?hd (cs := #[.int .i64 0, .int .i64 0]) (t := 26) ?hr ?_; (case hd => rfl); (case hg => rfl); (case hr => first | (go_simp; done) | (go_simp; rfl))
              intro gb376 hg w93 hbox hb
              have HS5_ := (hb.cell (World.block_lt_of_cell? _ _ (hHeld.2.2.2.2.2))).trans (hHeld.2.2.2.2.2)
              have n0_ := qg (qj (by (with_reducible repeat (first | apply qk | apply ql | apply qm)); exact HO_5.out) hb)
              have n1_ := qg (q8 (g := gb358) (o := .cells #[.int .i64 t348, .int .i64 t349, .int .i64 t350, .int .i64 t351, .int .i64 t352] 28 (0, 0)) (by (with_reducible repeat (first | refine q5 ?_ _ | refine q6 ?_ | refine q7 ?_ _)); exact BK358.out) hb)
              have n2_ := qg (q8 (g := gb359) (o := .cells #[.int .i64 t353, .int .i64 t354, .int .i64 t355, .int .i64 t356, .int .i64 t357] 28 (0, 0)) (by (with_reducible repeat (first | refine q5 ?_ _ | refine q6 ?_ | refine q7 ?_ _)); exact BK359.out) hb)
              have n3_ := qg (q8 (g := gb371) (o := .cells #[.int .i64 t368, .int .i64 t369] 26 (0, 0)) (by (with_reducible repeat (first | refine q5 ?_ _ | refine q6 ?_ | refine q7 ?_ _)); exact BK371.out) hb)
              have n4_ := qg (q9 (by repeat (first | (with_reducible first | exact HB.out | apply q1 | apply q2 | apply q3 | refine q4 ?_ GE358.out | refine q4 ?_ GE359.out | refine q4 ?_ GE371.out) | exact HB.out)) hb)
              have n5_ := qg (hbox)
              have n6_ := qg ((by rw [hg]; exact (qa (by repeat (first | (with_reducible first | exact HB.out | apply q1 | apply q2 | apply q3 | refine q4 ?_ GE358.out | refine q4 ?_ GE359.out | refine q4 ?_ GE371.out) | exact HB.out))) : w.heap.size ≤ gb376))
              have n7_ := qg ((by rw [hg]; exact (qa (by repeat (first | (with_reducible first | exact HB.out | apply q1 | apply q2 | apply q3 | refine q4 ?_ GE358.out | refine q4 ?_ GE359.out | refine q4 ?_ GE371.out) | exact HB.out))) : w.heap.size ≤ gb376))
              have n8_ := qg ((by rw [hg]; exact qv (qd (g := gb358) (o := .cells #[.int .i64 t348, .int .i64 t349, .int .i64 t350, .int .i64 t351, .int .i64 t352] 28 (0, 0)) (by (with_reducible repeat (first | refine q5 ?_ _ | refine q6 ?_ | refine q7 ?_ _)); exact BK358.out)) : gb358 ≠ gb376))
              have n9_ := qg ((by rw [hg]; exact qw (qd (g := gb358) (o := .cells #[.int .i64 t348, .int .i64 t349, .int .i64 t350, .int .i64 t351, .int .i64 t352] 28 (0, 0)) (by (with_reducible repeat (first | refine q5 ?_ _ | refine q6 ?_ | refine q7 ?_ _)); exact BK358.out)) : gb376 ≠ gb358))
              have n10_ := qg ((by rw [hg]; exact qv (qd (g := gb359) (o := .cells #[.int .i64 t353, .int .i64 t354, .int .i64 t355, .int .i64 t356, .int .i64 t357] 28 (0, 0)) (by (with_reducible repeat (first | refine q5 ?_ _ | refine q6 ?_ | refine q7 ?_ _)); exact BK359.out)) : gb359 ≠ gb376))
              have n11_ := qg ((by rw [hg]; exact qw (qd (g := gb359) (o := .cells #[.int .i64 t353, .int .i64 t354, .int .i64 t355, .int .i64 t356, .int .i64 t357] 28 (0, 0)) (by (with_reducible repeat (first | refine q5 ?_ _ | refine q6 ?_ | refine q7 ?_ _)); exact BK359.out)) : gb376 ≠ gb359))
              have n12_ := qg ((by rw [hg]; exact qv (qd (g := gb371) (o := .cells #[.int .i64 t368, .int .i64 t369] 26 (0, 0)) (by (with_reducible repeat (first | refine q5 ?_ _ | refine q6 ?_ | refine q7 ?_ _)); exact BK371.out)) : gb371 ≠ gb376))
              have n13_ := qg ((by rw [hg]; exact qw (qd (g := gb371) (o := .cells #[.int .i64 t368, .int .i64 t369] 26 (0, 0)) (by (with_reducible repeat (first | refine q5 ?_ _ | refine q6 ?_ | refine q7 ?_ _)); exact BK371.out)) : gb376 ≠ gb371))
              clear HO_5
              clear BK358
              clear BK359
              clear BK371
              clear HB
              have HO_5 := n0_
              have BK358 := n1_
              have BK359 := n2_
              have BK371 := n3_
              have HB := n4_
              have BK376 := n5_
              have GW376 := n6_
              have GE376 := n7_
              have NB358_376 := n8_
              have NB376_358 := n9_
              have NB359_376 := n10_
              have NB376_359 := n11_
              have NB371_376 := n12_
              have NB376_371 := n13_
              clear n0_ n1_ n2_ n3_ n4_ n5_ n6_ n7_ n8_ n9_ n10_ n11_ n12_ n13_
              clear hb hbox hg
              refine hK.out _ _ ⟨(qc BK359.out 0).trans rfl, (qc BK359.out 1).trans rfl, (qc BK359.out 2).trans rfl, (qc BK359.out 3).trans rfl, (qc BK359.out 4).trans rfl, HS5_⟩ (fun hHeld => ?_)
              clear hK K
              refine norm_ (a' := ?_) ?_ ?_
              rotate_left
              ·show Act.put _ (some 9) _ = _
               simp only [Act.put, p1, p2, p3, i64_w, i32_w]
               rfl
              refine one_ (i := 5) (N := some 48) #[true, true, true, true, true, true, false, false, false, true, false, false] rfl rfl (one_of HT_.out (by kernel_rfl)) (by decide) (fun K hK => ?_)
              refine goes_ Try.func26 (by kernel_rfl) rfl #[.agg #[.int .i64 t353, .int .i64 t354, .int .i64 t355, .int .i64 t356, .int .i64 t357], .int .i64 (rd t360 x6_1)] (by rfl) rfl rfl (by (try simp only [List.map_toArray, List.map_cons, List.map_nil]); first | done | rfl | (simp only [List.length_drop, List.length_take]; rfl)) ?_
              with_reducible refine (impl_PlaceAt.calls k1 t353 t354 t355 t356 t357 (rd t360 x6_1) t373 t374 true _ A24.out).mono ?_
              rintro e w94 ⟨rfl, hb⟩
              have HS5_ := (hb.cell (World.block_lt_of_cell? _ _ (hHeld.2.2.2.2.2))).trans (hHeld.2.2.2.2.2)
              refine ⟨_, rfl, ?_⟩
              have n0_ := qg (qj (by (with_reducible repeat (first | apply qk | apply ql | apply qm)); exact HO_5.out) hb)
              have n1_ := qg (q8 (g := gb358) (o := .cells #[.int .i64 t348, .int .i64 t349, .int .i64 t350, .int .i64 t351, .int .i64 t352] 28 (0, 0)) (by (with_reducible repeat (first | refine q5 ?_ _ | refine q6 ?_ | refine q7 ?_ _)); exact BK358.out) hb)
              have n2_ := qg (q8 (g := gb359) (o := .cells #[.int .i64 t353, .int .i64 t354, .int .i64 t355, .int .i64 t356, .int .i64 t357] 28 (0, 0)) (by (with_reducible repeat (first | refine q5 ?_ _ | refine q6 ?_ | refine q7 ?_ _)); exact BK359.out) hb)
              have n3_ := qg (q8 (g := gb371) (o := .cells #[.int .i64 t368, .int .i64 t369] 26 (0, 0)) (by (with_reducible repeat (first | refine q5 ?_ _ | refine q6 ?_ | refine q7 ?_ _)); exact BK371.out) hb)
              have n4_ := qg (q8 (g := gb376) (o := .cells #[.int .i64 0, .int .i64 0] 26 (0, 0)) (by (with_reducible repeat (first | refine q5 ?_ _ | refine q6 ?_ | refine q7 ?_ _)); exact BK376.out) hb)
              have n5_ := qg (q9 (by repeat (first | (with_reducible first | exact HB.out | apply q1 | apply q2 | apply q3 | refine q4 ?_ GE358.out | refine q4 ?_ GE359.out | refine q4 ?_ GE371.out | refine q4 ?_ GE376.out) | exact HB.out)) hb)
              clear HO_5
              clear BK358
              clear BK359
              clear BK371
              clear BK376
              clear HB
              have HO_5 := n0_
              have BK358 := n1_
              have BK359 := n2_
              have BK371 := n3_
              have BK376 := n4_
              have HB := n5_
              clear n0_ n1_ n2_ n3_ n4_ n5_
              (try clear hb)
              (try clear hb2)
              (try clear hk)
              (try clear hi)
              refine hK.out _ _ ⟨(qc BK359.out 0).trans rfl, (qc BK359.out 1).trans rfl, (qc BK359.out 2).trans rfl, (qc BK359.out 3).trans rfl, (qc BK359.out 4).trans rfl, HS5_⟩ (fun hHeld => ?_)
              clear hK K
              refine norm_ (a' := ?_) ?_ ?_
              rotate_left
              ·show Act.put _ (some 48) _ = _
               simp only [Act.put, p1, p2, p3, i64_w, i32_w]
               rfl
              refine pure_ (i := 6) (N := some 42) (v := ?_) (a' := ?_) #[true, true, true, true, true, true, true, false, false, true, false, false] rfl rfl (any_of HT_.out (by kernel_rfl)) (fun _ _ _ h => h) (Or.inl ⟨by rfl, ?_⟩) ?_ ?_
              rotate_left
              ·intro w'
               go_simp
               with_reducible rfl
              rotate_left
              ·simp only [Act.put, p1, p2, p3, i64_w, i32_w]
               rfl
              refine pure_ (i := 7) (N := some 49) (v := ?_) (a' := ?_) #[true, true, true, true, true, true, true, true, false, true, false, false] rfl rfl (any_of HT_.out (by kernel_rfl)) (fun _ _ _ h => h) (Or.inl ⟨by rfl, ?_⟩) ?_ ?_
              rotate_left
              ·intro w'
               go_simp
               with_reducible rfl
              rotate_left
              ·simp only [Act.put, p1, p2, p3, i64_w, i32_w]
               rfl
              refine pure_ (i := 8) (N := some 50) (v := ?_) (a' := ?_) #[true, true, true, true, true, true, true, true, true, true, false, false] rfl rfl (any_of HT_.out (by kernel_rfl)) (fun _ _ _ h => h) (Or.inl ⟨by rfl, ?_⟩) ?_ ?_
              rotate_left
              ·intro w'
               go_simp
               with_reducible rfl
              rotate_left
              ·simp only [Act.put, p1, p2, p3, i64_w, i32_w]
               rfl
              exact norm_ (by simp only [putAll, Act.put, p1, p2, p3]) (hCont (gb376) _ ⟨hHeld, (by (with_reducible repeat (first | apply qk | apply ql | apply qm)); exact HO_5.out), (by (with_reducible repeat (first | refine q5 ?_ _ | refine q6 ?_ | refine q7 ?_ _)); exact BK358.out), (by (with_reducible repeat (first | refine q5 ?_ _ | refine q6 ?_ | refine q7 ?_ _)); exact BK359.out), (by (with_reducible repeat (first | refine q5 ?_ _ | refine q6 ?_ | refine q7 ?_ _)); exact BK371.out), (by (with_reducible repeat (first | refine q5 ?_ _ | refine q6 ?_ | refine q7 ?_ _)); exact BK376.out), GW376.out, GE376.out, NB358_376.out, NB376_358.out, NB359_376.out, NB376_359.out, NB371_376.out, NB376_371.out, (by repeat (first | (with_reducible first | exact HB.out | apply q1 | apply q2 | apply q3 | refine q4 ?_ GE358.out | refine q4 ?_ GE359.out | refine q4 ?_ GE371.out | refine q4 ?_ GE376.out) | exact HB.out))⟩)
            rintro gb376 w95 ⟨hS_, h0_, h1_, h2_, h3_, h4_, h5_, h6_, h7_, h8_, h9_, h10_, h11_, h12_, h13_⟩
            have n0_ : Aside0 (Kd.R (Kd.int .i64) 3 w95 w.heap.size (fun _ => True) (.slice (some ad367) t360.length co19) t360) := ⟨h0_⟩
            have n1_ : Aside0 (w95.heap[gb358]? = some (.cells #[.int .i64 t348, .int .i64 t349, .int .i64 t350, .int .i64 t351, .int .i64 t352] 28 (0, 0))) := ⟨h1_⟩
            have n2_ : Aside0 (w95.heap[gb359]? = some (.cells #[.int .i64 t353, .int .i64 t354, .int .i64 t355, .int .i64 t356, .int .i64 t357] 28 (0, 0))) := ⟨h2_⟩
            have n3_ : Aside0 (w95.heap[gb371]? = some (.cells #[.int .i64 t368, .int .i64 t369] 26 (0, 0))) := ⟨h3_⟩
            have n4_ : Aside0 (w95.heap[gb376]? = some (.cells #[.int .i64 0, .int .i64 0] 26 (0, 0))) := ⟨h4_⟩
            have n5_ : Aside0 (w.heap.size ≤ gb376) := ⟨h5_⟩
            have n6_ : Aside0 (w.heap.size ≤ gb376) := ⟨h6_⟩
            have n7_ : Aside0 (gb358 ≠ gb376) := ⟨h7_⟩
            have n8_ : Aside0 (gb376 ≠ gb358) := ⟨h8_⟩
            have n9_ : Aside0 (gb359 ≠ gb376) := ⟨h9_⟩
            have n10_ : Aside0 (gb376 ≠ gb359) := ⟨h10_⟩
            have n11_ : Aside0 (gb371 ≠ gb376) := ⟨h11_⟩
            have n12_ : Aside0 (gb376 ≠ gb371) := ⟨h12_⟩
            have n13_ : Aside0 (Below w.heap.size w w95) := ⟨h13_⟩
            clear HO_5
            clear BK358
            clear BK359
            clear BK371
            clear HB
            clear h0_ h1_ h2_ h3_ h4_ h5_ h6_ h7_ h8_ h9_ h10_ h11_ h12_ h13_
            have HO_5 := n0_
            have BK358 := n1_
            have BK359 := n2_
            have BK371 := n3_
            have BK376 := n4_
            have GW376 := n5_
            have GE376 := n6_
            have NB358_376 := n7_
            have NB376_358 := n8_
            have NB359_376 := n9_
            have NB376_359 := n10_
            have NB371_376 := n11_
            have NB376_371 := n12_
            have HB := n13_
            clear n0_ n1_ n2_ n3_ n4_ n5_ n6_ n7_ n8_ n9_ n10_ n11_ n12_ n13_
            have hHeld : w95.cell? ⟨gb359, 0, none⟩ = some (.int .i64 t353) ∧ w95.cell? ⟨gb359, 1, none⟩ = some (.int .i64 t354) ∧ w95.cell? ⟨gb359, 2, none⟩ = some (.int .i64 t355) ∧ w95.cell? ⟨gb359, 3, none⟩ = some (.int .i64 t356) ∧ w95.cell? ⟨gb359, 4, none⟩ = some (.int .i64 t357) ∧ w95.cell? (ad367.add (x6_1).toNat) = some (.int .i64 (rd t360 x6_1)) := hS_
            refine norm_ (a' := ?_) ?_ ?_
            rotate_left
            ·simp only [putAll, Act.put, p1, p2, p3]
             rfl
            refine one_ (i := 10) (N := none) #[true, true, true, true, true, true, true, true, true, true, true, false] rfl rfl (one_of HT_.out (by kernel_rfl)) (by decide) (fun K hK => ?_)
            have hs96 : w95.cell? ⟨gb376, 0, none⟩ = some (.int .i64 0) := (qc BK376.out 0).trans rfl
            have hfs96 := qb BK376.out 0
            have hns96_0 := NB358_376.out
            have hns96_1 := NB359_376.out
            have hns96_2 := NB371_376.out
            have hms96_0 := NB376_358.out
            have hms96_1 := NB376_359.out
            have hms96_2 := NB376_371.out
            have hs97 : w95.cell? ⟨gb376, 1, none⟩ = some (.int .i64 0) := (qc BK376.out 1).trans rfl
            have hfs97 := qb BK376.out 1
            have hns97_0 := NB358_376.out
            have hns97_1 := NB359_376.out
            have hns97_2 := NB371_376.out
            have hms97_0 := NB376_358.out
            have hms97_1 := NB376_359.out
            have hms97_2 := NB376_371.out
            refine skip_ (w1 := ?_) (by rfl) rfl ?_ ?_
            rotate_left
            ·go_simp
             rfl
            refine hK.out _ _ ⟨((qi (p := ⟨gb376, _, none⟩) NB359_376.out _).trans (((qi (p := ⟨gb376, _, none⟩) NB359_376.out _).trans (hHeld.1)))), ((qi (p := ⟨gb376, _, none⟩) NB359_376.out _).trans (((qi (p := ⟨gb376, _, none⟩) NB359_376.out _).trans (hHeld.2.1)))), ((qi (p := ⟨gb376, _, none⟩) NB359_376.out _).trans (((qi (p := ⟨gb376, _, none⟩) NB359_376.out _).trans (hHeld.2.2.1)))), ((qi (p := ⟨gb376, _, none⟩) NB359_376.out _).trans (((qi (p := ⟨gb376, _, none⟩) NB359_376.out _).trans (hHeld.2.2.2.1)))), ((qi (p := ⟨gb376, _, none⟩) NB359_376.out _).trans (((qi (p := ⟨gb376, _, none⟩) NB359_376.out _).trans (hHeld.2.2.2.2.1)))), ((qi (p := ⟨gb376, _, none⟩) (by first | exact Kd.own_blk (Kd.R_ne HO_5.out BK376.out (by decide)) | (rw [add_block]; exact Kd.own_blk (Kd.R_ne HO_5.out BK376.out (by decide))) | (show (Addr.add _ _).block ≠ _; rw [add_block]; exact Kd.own_blk (Kd.R_ne HO_5.out BK376.out (by decide))) | (dsimp only; exact Kd.own_blk (Kd.R_ne HO_5.out BK376.out (by decide)))) _).trans (((qi (p := ⟨gb376, _, none⟩) (by first | exact Kd.own_blk (Kd.R_ne HO_5.out BK376.out (by decide)) | (rw [add_block]; exact Kd.own_blk (Kd.R_ne HO_5.out BK376.out (by decide))) | (show (Addr.add _ _).block ≠ _; rw [add_block]; exact Kd.own_blk (Kd.R_ne HO_5.out BK376.out (by decide))) | (dsimp only; exact Kd.own_blk (Kd.R_ne HO_5.out BK376.out (by decide)))) _).trans (hHeld.2.2.2.2.2))))⟩ (fun hHeld => ?_)
            clear hK K
            refine pure_ (i := 11) (N := some 10) (v := ?_) (a' := ?_) #[true, true, true, true, true, true, true, true, true, true, true, true] rfl rfl (any_of HT_.out (by kernel_rfl)) (fun _ _ _ h => h) (Or.inl ⟨by rfl, ?_⟩) ?_ ?_
            rotate_left
            ·intro w'
             go_simp
             with_reducible rfl
            rotate_left
            ·simp only [Act.put, p1, p2, p3, i64_w, i32_w]
             rfl
            refine done_ (done_of HT_.out (by kernel_rfl)) ?_
            try go_wp2
            have n0_ : Aside0 (Kd.R (Kd.int .i64) 3 ((w95.setCell ⟨gb376, 0, none⟩ (.int .i64 t373)).setCell ⟨gb376, 1, none⟩ (.int .i64 t374)) w.heap.size (fun _ => True) (.slice (some ad367) t360.length co19) t360) := ⟨by (with_reducible repeat (first | apply qk | apply ql | apply qm)); exact Kd.R_mono (Kd.R_far (p := ⟨gb376, 1, none⟩) (Kd.R_far (p := ⟨gb376, 0, none⟩) (Kd.R_types HO_5.out BK376.out (by decide)) (fun _ hk => hk.2) (.int .i64 t373)) (fun _ hk => hk.2) (.int .i64 t374)) (fun _ hk => trivial)⟩
            have n1_ : Aside0 (((w95.setCell ⟨gb376, 0, none⟩ (.int .i64 t373)).setCell ⟨gb376, 1, none⟩ (.int .i64 t374)).heap[gb358]? = some (.cells #[.int .i64 t348, .int .i64 t349, .int .i64 t350, .int .i64 t351, .int .i64 t352] 28 (0, 0))) := ⟨by (with_reducible repeat (first | refine q5 ?_ _ | refine q6 ?_ | refine q7 ?_ _)); refine qe ?_ NB358_376.out _; (with_reducible repeat (first | refine q5 ?_ _ | refine q6 ?_ | refine q7 ?_ _)); refine qe ?_ NB358_376.out _; (with_reducible repeat (first | refine q5 ?_ _ | refine q6 ?_ | refine q7 ?_ _)); exact BK358.out⟩
            have n2_ : Aside0 (((w95.setCell ⟨gb376, 0, none⟩ (.int .i64 t373)).setCell ⟨gb376, 1, none⟩ (.int .i64 t374)).heap[gb359]? = some (.cells #[.int .i64 t353, .int .i64 t354, .int .i64 t355, .int .i64 t356, .int .i64 t357] 28 (0, 0))) := ⟨by (with_reducible repeat (first | refine q5 ?_ _ | refine q6 ?_ | refine q7 ?_ _)); refine qe ?_ NB359_376.out _; (with_reducible repeat (first | refine q5 ?_ _ | refine q6 ?_ | refine q7 ?_ _)); refine qe ?_ NB359_376.out _; (with_reducible repeat (first | refine q5 ?_ _ | refine q6 ?_ | refine q7 ?_ _)); exact BK359.out⟩
            have n3_ : Aside0 (((w95.setCell ⟨gb376, 0, none⟩ (.int .i64 t373)).setCell ⟨gb376, 1, none⟩ (.int .i64 t374)).heap[gb371]? = some (.cells #[.int .i64 t368, .int .i64 t369] 26 (0, 0))) := ⟨by (with_reducible repeat (first | refine q5 ?_ _ | refine q6 ?_ | refine q7 ?_ _)); refine qe ?_ NB371_376.out _; (with_reducible repeat (first | refine q5 ?_ _ | refine q6 ?_ | refine q7 ?_ _)); refine qe ?_ NB371_376.out _; (with_reducible repeat (first | refine q5 ?_ _ | refine q6 ?_ | refine q7 ?_ _)); exact BK371.out⟩
            have n4_ : Aside0 (((w95.setCell ⟨gb376, 0, none⟩ (.int .i64 t373)).setCell ⟨gb376, 1, none⟩ (.int .i64 t374)).heap[gb376]? = some (.cells #[.int .i64 t373, .int .i64 t374] 26 (0, 0))) := ⟨by (with_reducible repeat (first | refine q5 ?_ _ | refine q6 ?_ | refine q7 ?_ _)); refine qf (cs := #[.int .i64 t373, .int .i64 0]) ?_ 1 _ rfl; (with_reducible repeat (first | refine q5 ?_ _ | refine q6 ?_ | refine q7 ?_ _)); refine qf (cs := #[.int .i64 0, .int .i64 0]) ?_ 0 _ rfl; (with_reducible repeat (first | refine q5 ?_ _ | refine q6 ?_ | refine q7 ?_ _)); exact BK376.out⟩
            have n5_ : Aside0 (Below w.heap.size w ((w95.setCell ⟨gb376, 0, none⟩ (.int .i64 t373)).setCell ⟨gb376, 1, none⟩ (.int .i64 t374))) := ⟨by repeat (first | (with_reducible first | exact HB.out | apply q1 | apply q2 | apply q3 | refine q4 ?_ GE358.out | refine q4 ?_ GE359.out | refine q4 ?_ GE371.out | refine q4 ?_ GE376.out) | exact HB.out)⟩
            (try clear HO_5)
            (try clear BK358)
            (try clear BK359)
            (try clear BK371)
            (try clear BK376)
            (try clear HB)
            generalize ((w95.setCell ⟨gb376, 0, none⟩ (.int .i64 t373)).setCell ⟨gb376, 1, none⟩ (.int .i64 t374)) = w98 at n0_ n1_ n2_ n3_ n4_ n5_ ⊢
            have HO_5 := n0_
            have BK358 := n1_
            have BK359 := n2_
            have BK371 := n3_
            have BK376 := n4_
            have HB := n5_
            clear n0_ n1_ n2_ n3_ n4_ n5_
            have n0_ := qg (qm HO_5.out)
            have n1_ := qg (q6 BK358.out)
            have n2_ := qg (q6 BK359.out)
            have n3_ := qg (q6 BK371.out)
            have n4_ := qg (q6 BK376.out)
            have n5_ := qg (q3 HB.out)
            clear HO_5
            clear BK358
            clear BK359
            clear BK371
            clear BK376
            clear HB
            have HO_5 := n0_
            have BK358 := n1_
            have BK359 := n2_
            have BK371 := n3_
            have BK376 := n4_
            have HB := n5_
            clear n0_ n1_ n2_ n3_ n4_ n5_
            have p377 : 0 ≤ (x6_1 : Int) := of_decide_eq_true (by first | (with_reducible assumption) | assumption)
            have q377 : x6_1 < (t360.length : Int) := of_decide_eq_true (by first | (with_reducible assumption) | assumption)
            obtain ⟨ad377, e377, hx377_0⟩ := Kd.at_int (Kd.R_reads' HO_5.out).2.2 x6_1 p377 q377
            obtain rfl : ad367 = ad377 := (by injection e377)
            replace p377 := eq_true p377
            replace q377 := eq_true q377
            have p379 : 0 ≤ (x6_1 : Int) := of_decide_eq_true (by first | (with_reducible assumption) | assumption)
            have q379 : x6_1 < (t360.length : Int) := of_decide_eq_true (by first | (with_reducible assumption) | assumption)
            obtain ⟨ad379, e379, hx379_0⟩ := Kd.at_int (Kd.R_reads' HO_5.out).2.2 x6_1 p379 q379
            obtain rfl : ad367 = ad379 := (by injection e379)
            replace p379 := eq_true p379
            replace q379 := eq_true q379
            refine start_ (n := 42) (S := fun w' => w'.cell? ⟨gb371, 0, none⟩ = some (.int .i64 t368) ∧ w'.cell? ⟨gb371, 1, none⟩ = some (.int .i64 t369) ∧ w'.cell? ⟨gb376, 0, none⟩ = some (.int .i64 t373) ∧ w'.cell? ⟨gb376, 1, none⟩ = some (.int .i64 t374) ∧ w'.cell? ⟨gb358, 0, none⟩ = some (.int .i64 t348) ∧ w'.cell? ⟨gb358, 1, none⟩ = some (.int .i64 t349) ∧ w'.cell? ⟨gb358, 2, none⟩ = some (.int .i64 t350) ∧ w'.cell? ⟨gb358, 3, none⟩ = some (.int .i64 t351) ∧ w'.cell? ⟨gb358, 4, none⟩ = some (.int .i64 t352) ∧ w'.cell? ⟨gb359, 0, none⟩ = some (.int .i64 t353) ∧ w'.cell? ⟨gb359, 1, none⟩ = some (.int .i64 t354) ∧ w'.cell? ⟨gb359, 2, none⟩ = some (.int .i64 t355) ∧ w'.cell? ⟨gb359, 3, none⟩ = some (.int .i64 t356) ∧ w'.cell? ⟨gb359, 4, none⟩ = some (.int .i64 t357) ∧ w'.cell? (ad367.add (x6_1).toNat) = some (.int .i64 (rd t360 x6_1)) ∧ w'.cell? (ad367.add (x6_1).toNat) = some (.int .i64 (rd t360 x6_1))) (ds := []) #[false, false, false, false, false, false, false, false, false, false, false, false, false, false, false, false, false, false, false, false, false, false, false, false, false, false, false, false, false, false, false, false, false, false, false, false, false, false, false, false, false, false] (by kernel_rfl) rfl rfl ⟨(qc BK371.out 0).trans rfl, (qc BK371.out 1).trans rfl, (qc BK376.out 0).trans rfl, (qc BK376.out 1).trans rfl, (qc BK358.out 0).trans rfl, (qc BK358.out 1).trans rfl, (qc BK358.out 2).trans rfl, (qc BK358.out 3).trans rfl, (qc BK358.out 4).trans rfl, (qc BK359.out 0).trans rfl, (qc BK359.out 1).trans rfl, (qc BK359.out 2).trans rfl, (qc BK359.out 3).trans rfl, (qc BK359.out 4).trans rfl, hx377_0, hx379_0⟩ (fun hHeld => ?_); refine with_tabW laws_FnMeet.tab12 laws_FnMeet.bits12 (fun HT_ HW_ => ?_)
            generalize w98.drew = w99 at HO_5 BK358 BK359 BK371 BK376 HB hx377_0 hx379_0 hHeld ⊢
            refine pure_ (i := 0) (N := some 51) (v := ?_) (a' := ?_) #[true, false, false, false, false, false, false, false, false, false, false, false, false, false, false, false, false, false, false, false, false, false, false, false, false, false, false, false, false, false, false, false, false, false, false, false, false, false, false, false, false, false] rfl rfl (any_of HT_.out (by kernel_rfl)) (fun _ _ _ h => h) (Or.inl ⟨by rfl, ?_⟩) ?_ ?_
            rotate_left
            ·intro w'
             go_simp
             with_reducible rfl
            rotate_left
            ·simp only [Act.put, p1, p2, p3, i64_w, i32_w]
             rfl
            refine pure_ (i := 1) (N := some 52) (v := ?_) (a' := ?_) #[true, true, false, false, false, false, false, false, false, false, false, false, false, false, false, false, false, false, false, false, false, false, false, false, false, false, false, false, false, false, false, false, false, false, false, false, false, false, false, false, false, false] rfl rfl (any_of HT_.out (by kernel_rfl)) (fun _ _ _ h => h) (Or.inl ⟨by rfl, ?_⟩) ?_ ?_
            rotate_left
            ·intro w'
             go_simp
             with_reducible rfl
            rotate_left
            ·simp only [Act.put, p1, p2, p3, i64_w, i32_w]
             rfl
            refine pure_ (i := 2) (N := some 53) (v := ?_) (a' := ?_) #[true, true, true, false, false, false, false, false, false, false, false, false, false, false, false, false, false, false, false, false, false, false, false, false, false, false, false, false, false, false, false, false, false, false, false, false, false, false, false, false, false, false] rfl rfl (any_of HT_.out (by kernel_rfl)) (fun _ _ _ h => h) (Or.inl ⟨by rfl, ?_⟩) ?_ ?_
            rotate_left
            ·intro w'
             go_simp
             with_reducible rfl
            rotate_left
            ·simp only [Act.put, p1, p2, p3, i64_w, i32_w]
             rfl
            refine pure_ (i := 3) (N := some 54) (v := ?_) (a' := ?_) #[true, true, true, true, false, false, false, false, false, false, false, false, false, false, false, false, false, false, false, false, false, false, false, false, false, false, false, false, false, false, false, false, false, false, false, false, false, false, false, false, false, false] rfl rfl (any_of HT_.out (by kernel_rfl)) (fun _ _ _ h => h) (Or.inl ⟨by rfl, ?_⟩) ?_ ?_
            rotate_left
            ·intro w'
             go_simp
             with_reducible rfl
            rotate_left
            ·simp only [Act.put, p1, p2, p3, i64_w, i32_w]
             rfl
            refine pure_ (i := 4) (N := some 55) (v := ?_) (a' := ?_) #[true, true, true, true, true, false, false, false, false, false, false, false, false, false, false, false, false, false, false, false, false, false, false, false, false, false, false, false, false, false, false, false, false, false, false, false, false, false, false, false, false, false] rfl rfl (any_of HT_.out (by kernel_rfl)) (fun _ _ _ h => h) (Or.inl ⟨by rfl, ?_⟩) ?_ ?_
            rotate_left
            ·intro w'
             go_simp
             with_reducible rfl
            rotate_left
            ·simp only [Act.put, p1, p2, p3, i64_w, i32_w]
             rfl
            refine pure_ (i := 5) (N := some 56) (v := ?_) (a' := ?_) #[true, true, true, true, true, true, false, false, false, false, false, false, false, false, false, false, false, false, false, false, false, false, false, false, false, false, false, false, false, false, false, false, false, false, false, false, false, false, false, false, false, false] rfl rfl (any_of HT_.out (by kernel_rfl)) (fun _ _ _ h => h) (Or.inl ⟨by rfl, ?_⟩) ?_ ?_
            rotate_left
            ·intro w'
             go_simp
             with_reducible rfl
            rotate_left
            ·simp only [Act.put, p1, p2, p3, i64_w, i32_w]
             rfl
            refine pure_ (i := 6) (N := some 57) (v := ?_) (a' := ?_) #[true, true, true, true, true, true, true, false, false, false, false, false, false, false, false, false, false, false, false, false, false, false, false, false, false, false, false, false, false, false, false, false, false, false, false, false, false, false, false, false, false, false] rfl rfl (any_of HT_.out (by kernel_rfl)) (fun _ _ _ h => h) (Or.inl ⟨by rfl, ?_⟩) ?_ ?_
            rotate_left
            ·intro w'
             go_simp
             with_reducible rfl
            rotate_left
            ·simp only [Act.put, p1, p2, p3, i64_w, i32_w]
             rfl
            refine take_ (i := 7) (N := some 58) (v := ?_) (a' := ?_) #[true, true, true, true, true, true, true, true, false, false, false, false, false, false, false, false, false, false, false, false, false, false, false, false, false, false, false, false, false, false, false, false, false, false, false, false, false, false, false, false, false, false] rfl rfl (take_ofW HT_.out HW_.out (by kernel_rfl)) (fun _ _ _ h => h) (Or.inl ⟨by rfl, ?_⟩) hHeld ?_ ?_
            rotate_left
            ·rintro w' ⟨s0, s1, s2, s3, s4, s5, s6, s7, s8, s9, s10, s11, s12, s13, s14, s15⟩
             go_simp
             with_reducible rfl
            rotate_left
            ·simp only [Act.put, p1, p2, p3, i64_w, i32_w]
             rfl
            refine take_ (i := 8) (N := some 59) (v := ?_) (a' := ?_) #[true, true, true, true, true, true, true, true, true, false, false, false, false, false, false, false, false, false, false, false, false, false, false, false, false, false, false, false, false, false, false, false, false, false, false, false, false, false, false, false, false, false] rfl rfl (take_ofW HT_.out HW_.out (by kernel_rfl)) (fun _ _ _ h => h) (Or.inl ⟨by rfl, ?_⟩) hHeld ?_ ?_
            rotate_left
            ·rintro w' ⟨s0, s1, s2, s3, s4, s5, s6, s7, s8, s9, s10, s11, s12, s13, s14, s15⟩
             go_simp
             with_reducible rfl
            rotate_left
            ·simp only [Act.put, p1, p2, p3, i64_w, i32_w]
             rfl
            refine pure_ (i := 9) (N := some 60) (v := ?_) (a' := ?_) #[true, true, true, true, true, true, true, true, true, true, false, false, false, false, false, false, false, false, false, false, false, false, false, false, false, false, false, false, false, false, false, false, false, false, false, false, false, false, false, false, false, false] rfl rfl (any_of HT_.out (by kernel_rfl)) (fun _ _ _ h => h) (Or.inl ⟨by rfl, ?_⟩) ?_ ?_
            rotate_left
            ·intro w'
             go_simp
             with_reducible rfl
            rotate_left
            ·simp only [Act.put, p1, p2, p3, i64_w, i32_w]
             rfl
            refine pure_ (i := 10) (N := some 61) (v := ?_) (a' := ?_) #[true, true, true, true, true, true, true, true, true, true, true, false, false, false, false, false, false, false, false, false, false, false, false, false, false, false, false, false, false, false, false, false, false, false, false, false, false, false, false, false, false, false] rfl rfl (any_of HT_.out (by kernel_rfl)) (fun _ _ _ h => h) (Or.inl ⟨by rfl, ?_⟩) ?_ ?_
            rotate_left
            ·intro w'
             go_simp
             with_reducible rfl
            rotate_left
            ·simp only [Act.put, p1, p2, p3, i64_w, i32_w]
             rfl
            refine pure_ (i := 11) (N := some 62) (v := ?_) (a' := ?_) #[true, true, true, true, true, true, true, true, true, true, true, true, false, false, false, false, false, false, false, false, false, false, false, false, false, false, false, false, false, false, false, false, false, false, false, false, false, false, false, false, false, false] rfl rfl (any_of HT_.out (by kernel_rfl)) (fun _ _ _ h => h) (Or.inl ⟨by rfl, ?_⟩) ?_ ?_
            rotate_left
            ·intro w'
             go_simp
             with_reducible rfl
            rotate_left
            ·simp only [Act.put, p1, p2, p3, i64_w, i32_w]
             rfl
            refine pure_ (i := 13) (N := some 64) (v := ?_) (a' := ?_) #[true, true, true, true, true, true, true, true, true, true, true, true, false, true, false, false, false, false, false, false, false, false, false, false, false, false, false, false, false, false, false, false, false, false, false, false, false, false, false, false, false, false] rfl rfl (any_of HT_.out (by kernel_rfl)) (fun _ _ _ h => h) (Or.inl ⟨by rfl, ?_⟩) ?_ ?_
            rotate_left
            ·intro w'
             go_simp
             with_reducible rfl
            rotate_left
            ·simp only [Act.put, p1, p2, p3, i64_w, i32_w]
             rfl
            refine pure_ (i := 14) (N := some 65) (v := ?_) (a' := ?_) #[true, true, true, true, true, true, true, true, true, true, true, true, false, true, true, false, false, false, false, false, false, false, false, false, false, false, false, false, false, false, false, false, false, false, false, false, false, false, false, false, false, false] rfl rfl (any_of HT_.out (by kernel_rfl)) (fun _ _ _ h => h) (Or.inl ⟨by rfl, ?_⟩) ?_ ?_
            rotate_left
            ·intro w'
             go_simp
             with_reducible rfl
            rotate_left
            ·simp only [Act.put, p1, p2, p3, i64_w, i32_w]
             rfl
            refine pure_ (i := 15) (N := some 66) (v := ?_) (a' := ?_) #[true, true, true, true, true, true, true, true, true, true, true, true, false, true, true, true, false, false, false, false, false, false, false, false, false, false, false, false, false, false, false, false, false, false, false, false, false, false, false, false, false, false] rfl rfl (any_of HT_.out (by kernel_rfl)) (fun _ _ _ h => h) (Or.inl ⟨by rfl, ?_⟩) ?_ ?_
            rotate_left
            ·intro w'
             go_simp
             with_reducible rfl
            rotate_left
            ·simp only [Act.put, p1, p2, p3, i64_w, i32_w]
             rfl
            refine pure_ (i := 19) (N := some 70) (v := ?_) (a' := ?_) #[true, true, true, true, true, true, true, true, true, true, true, true, false, true, true, true, false, false, false, true, false, false, false, false, false, false, false, false, false, false, false, false, false, false, false, false, false, false, false, false, false, false] rfl rfl (any_of HT_.out (by kernel_rfl)) (fun _ _ _ h => h) (Or.inl ⟨by rfl, ?_⟩) ?_ ?_
            rotate_left
            ·intro w'
             go_simp
             with_reducible rfl
            rotate_left
            ·simp only [Act.put, p1, p2, p3, i64_w, i32_w]
             rfl
            refine pure_ (i := 20) (N := some 71) (v := ?_) (a' := ?_) #[true, true, true, true, true, true, true, true, true, true, true, true, false, true, true, true, false, false, false, true, true, false, false, false, false, false, false, false, false, false, false, false, false, false, false, false, false, false, false, false, false, false] rfl rfl (any_of HT_.out (by kernel_rfl)) (fun _ _ _ h => h) (Or.inl ⟨by rfl, ?_⟩) ?_ ?_
            rotate_left
            ·intro w'
             go_simp
             with_reducible rfl
            rotate_left
            ·simp only [Act.put, p1, p2, p3, i64_w, i32_w]
             rfl
            refine pure_ (i := 21) (N := some 72) (v := ?_) (a' := ?_) #[true, true, true, true, true, true, true, true, true, true, true, true, false, true, true, true, false, false, false, true, true, true, false, false, false, false, false, false, false, false, false, false, false, false, false, false, false, false, false, false, false, false] rfl rfl (any_of HT_.out (by kernel_rfl)) (fun _ _ _ h => h) (Or.inl ⟨by rfl, ?_⟩) ?_ ?_
            rotate_left
            ·intro w'
             go_simp
             with_reducible rfl
            rotate_left
            ·simp only [Act.put, p1, p2, p3, i64_w, i32_w]
             rfl
            refine take_ (i := 12) (N := some 63) (v := ?_) (a' := ?_) #[true, true, true, true, true, true, true, true, true, true, true, true, true, true, true, true, false, false, false, true, true, true, false, false, false, false, false, false, false, false, false, false, false, false, false, false, false, false, false, false, false, false] rfl rfl (take_ofW HT_.out HW_.out (by kernel_rfl)) (fun _ _ _ h => h) (Or.inl ⟨by rfl, ?_⟩) hHeld ?_ ?_
            rotate_left
            ·rintro w' ⟨s0, s1, s2, s3, s4, s5, s6, s7, s8, s9, s10, s11, s12, s13, s14, s15⟩
             go_simp
             with_reducible rfl
            rotate_left
            ·simp only [Act.put, p1, p2, p3, i64_w, i32_w]
             rfl
            refine take_ (i := 16) (N := some 67) (v := ?_) (a' := ?_) #[true, true, true, true, true, true, true, true, true, true, true, true, true, true, true, true, true, false, false, true, true, true, false, false, false, false, false, false, false, false, false, false, false, false, false, false, false, false, false, false, false, false] rfl rfl (take_ofW HT_.out HW_.out (by kernel_rfl)) (fun _ _ _ h => h) (Or.inl ⟨by rfl, ?_⟩) hHeld ?_ ?_
            rotate_left
            ·rintro w' ⟨s0, s1, s2, s3, s4, s5, s6, s7, s8, s9, s10, s11, s12, s13, s14, s15⟩
             go_simp
             with_reducible rfl
            rotate_left
            ·simp only [Act.put, p1, p2, p3, i64_w, i32_w]
             rfl
            refine take_ (i := 18) (N := some 69) (v := ?_) (a' := ?_) #[true, true, true, true, true, true, true, true, true, true, true, true, true, true, true, true, true, false, true, true, true, true, false, false, false, false, false, false, false, false, false, false, false, false, false, false, false, false, false, false, false, false] rfl rfl (take_ofW HT_.out HW_.out (by kernel_rfl)) (fun _ _ _ h => h) (Or.inl ⟨by rfl, ?_⟩) hHeld ?_ ?_
            rotate_left
            ·rintro w' ⟨s0, s1, s2, s3, s4, s5, s6, s7, s8, s9, s10, s11, s12, s13, s14, s15⟩
             go_simp
             with_reducible rfl
            rotate_left
            ·simp only [Act.put, p1, p2, p3, i64_w, i32_w]
             rfl
            refine take_ (i := 22) (N := some 73) (v := ?_) (a' := ?_) #[true, true, true, true, true, true, true, true, true, true, true, true, true, true, true, true, true, false, true, true, true, true, true, false, false, false, false, false, false, false, false, false, false, false, false, false, false, false, false, false, false, false] rfl rfl (take_ofW HT_.out HW_.out (by kernel_rfl)) (fun _ _ _ h => h) (Or.inl ⟨by rfl, ?_⟩) hHeld ?_ ?_
            rotate_left
            ·rintro w' ⟨s0, s1, s2, s3, s4, s5, s6, s7, s8, s9, s10, s11, s12, s13, s14, s15⟩
             go_simp
             with_reducible rfl
            rotate_left
            ·simp only [Act.put, p1, p2, p3, i64_w, i32_w]
             rfl
            refine one_ (i := 17) (N := some 68) #[true, true, true, true, true, true, true, true, true, true, true, true, true, true, true, true, true, true, true, true, true, true, true, false, false, false, false, false, false, false, false, false, false, false, false, false, false, false, false, false, false, false] rfl rfl (one_of HT_.out (by kernel_rfl)) (by decide) (fun K hK => ?_)
            refine goes_ Try.func53 (by kernel_rfl) rfl #[.agg #[.int .i64 t348, .int .i64 t349, .int .i64 t350, .int .i64 t351, .int .i64 t352], .int .i64 (rd t360 x6_1)] (by rfl) rfl rfl (by (try simp only [List.map_toArray, List.map_cons, List.map_nil]); first | done | rfl | (simp only [List.length_drop, List.length_take]; rfl)) ?_
            with_reducible refine (impl_HeightAt.calls t348 t349 t350 t351 t352 (rd t360 x6_1) t378 _ A43.out).mono ?_
            rintro e w100 ⟨rfl, hb⟩
            have HS14_ := (hb.cell (World.block_lt_of_cell? _ _ (hHeld.2.2.2.2.2.2.2.2.2.2.2.2.2.2.1))).trans (hHeld.2.2.2.2.2.2.2.2.2.2.2.2.2.2.1)
            have HS15_ := (hb.cell (World.block_lt_of_cell? _ _ (hHeld.2.2.2.2.2.2.2.2.2.2.2.2.2.2.2))).trans (hHeld.2.2.2.2.2.2.2.2.2.2.2.2.2.2.2)
            refine ⟨_, rfl, ?_⟩
            have n0_ := qg (qj (by (with_reducible repeat (first | apply qk | apply ql | apply qm)); exact HO_5.out) hb)
            have n1_ := qg (q8 (g := gb358) (o := .cells #[.int .i64 t348, .int .i64 t349, .int .i64 t350, .int .i64 t351, .int .i64 t352] 28 (0, 0)) (by (with_reducible repeat (first | refine q5 ?_ _ | refine q6 ?_ | refine q7 ?_ _)); exact BK358.out) hb)
            have n2_ := qg (q8 (g := gb359) (o := .cells #[.int .i64 t353, .int .i64 t354, .int .i64 t355, .int .i64 t356, .int .i64 t357] 28 (0, 0)) (by (with_reducible repeat (first | refine q5 ?_ _ | refine q6 ?_ | refine q7 ?_ _)); exact BK359.out) hb)
            have n3_ := qg (q8 (g := gb371) (o := .cells #[.int .i64 t368, .int .i64 t369] 26 (0, 0)) (by (with_reducible repeat (first | refine q5 ?_ _ | refine q6 ?_ | refine q7 ?_ _)); exact BK371.out) hb)
            have n4_ := qg (q8 (g := gb376) (o := .cells #[.int .i64 t373, .int .i64 t374] 26 (0, 0)) (by (with_reducible repeat (first | refine q5 ?_ _ | refine q6 ?_ | refine q7 ?_ _)); exact BK376.out) hb)
            have n5_ := qg (q9 (by repeat (first | (with_reducible first | exact HB.out | apply q1 | apply q2 | apply q3 | refine q4 ?_ GE358.out | refine q4 ?_ GE359.out | refine q4 ?_ GE371.out | refine q4 ?_ GE376.out) | exact HB.out)) hb)
            clear HO_5
            clear BK358
            clear BK359
            clear BK371
            clear BK376
            clear HB
            have HO_5 := n0_
            have BK358 := n1_
            have BK359 := n2_
            have BK371 := n3_
            have BK376 := n4_
            have HB := n5_
            clear n0_ n1_ n2_ n3_ n4_ n5_
            (try clear hb)
            (try clear hb2)
            (try clear hk)
            (try clear hi)
            refine hK.out _ _ ⟨(qc BK371.out 0).trans rfl, (qc BK371.out 1).trans rfl, (qc BK376.out 0).trans rfl, (qc BK376.out 1).trans rfl, (qc BK358.out 0).trans rfl, (qc BK358.out 1).trans rfl, (qc BK358.out 2).trans rfl, (qc BK358.out 3).trans rfl, (qc BK358.out 4).trans rfl, (qc BK359.out 0).trans rfl, (qc BK359.out 1).trans rfl, (qc BK359.out 2).trans rfl, (qc BK359.out 3).trans rfl, (qc BK359.out 4).trans rfl, HS14_, HS15_⟩ (fun hHeld => ?_)
            clear hK K
            refine norm_ (a' := ?_) ?_ ?_
            rotate_left
            ·show Act.put _ (some 68) _ = _
             simp only [Act.put, p1, p2, p3, i64_w, i32_w]
             rfl
            refine one_ (i := 23) (N := some 74) #[true, true, true, true, true, true, true, true, true, true, true, true, true, true, true, true, true, true, true, true, true, true, true, true, false, false, false, false, false, false, false, false, false, false, false, false, false, false, false, false, false, false] rfl rfl (one_of HT_.out (by kernel_rfl)) (by decide) (fun K hK => ?_)
            refine goes_ Try.func53 (by kernel_rfl) rfl #[.agg #[.int .i64 t353, .int .i64 t354, .int .i64 t355, .int .i64 t356, .int .i64 t357], .int .i64 (rd t360 x6_1)] (by rfl) rfl rfl (by (try simp only [List.map_toArray, List.map_cons, List.map_nil]); first | done | rfl | (simp only [List.length_drop, List.length_take]; rfl)) ?_
            with_reducible refine (impl_HeightAt.calls t353 t354 t355 t356 t357 (rd t360 x6_1) t380 _ A44.out).mono ?_
            rintro e w101 ⟨rfl, hb⟩
            have HS14_ := (hb.cell (World.block_lt_of_cell? _ _ (hHeld.2.2.2.2.2.2.2.2.2.2.2.2.2.2.1))).trans (hHeld.2.2.2.2.2.2.2.2.2.2.2.2.2.2.1)
            have HS15_ := (hb.cell (World.block_lt_of_cell? _ _ (hHeld.2.2.2.2.2.2.2.2.2.2.2.2.2.2.2))).trans (hHeld.2.2.2.2.2.2.2.2.2.2.2.2.2.2.2)
            refine ⟨_, rfl, ?_⟩
            have n0_ := qg (qj (by (with_reducible repeat (first | apply qk | apply ql | apply qm)); exact HO_5.out) hb)
            have n1_ := qg (q8 (g := gb358) (o := .cells #[.int .i64 t348, .int .i64 t349, .int .i64 t350, .int .i64 t351, .int .i64 t352] 28 (0, 0)) (by (with_reducible repeat (first | refine q5 ?_ _ | refine q6 ?_ | refine q7 ?_ _)); exact BK358.out) hb)
            have n2_ := qg (q8 (g := gb359) (o := .cells #[.int .i64 t353, .int .i64 t354, .int .i64 t355, .int .i64 t356, .int .i64 t357] 28 (0, 0)) (by (with_reducible repeat (first | refine q5 ?_ _ | refine q6 ?_ | refine q7 ?_ _)); exact BK359.out) hb)
            have n3_ := qg (q8 (g := gb371) (o := .cells #[.int .i64 t368, .int .i64 t369] 26 (0, 0)) (by (with_reducible repeat (first | refine q5 ?_ _ | refine q6 ?_ | refine q7 ?_ _)); exact BK371.out) hb)
            have n4_ := qg (q8 (g := gb376) (o := .cells #[.int .i64 t373, .int .i64 t374] 26 (0, 0)) (by (with_reducible repeat (first | refine q5 ?_ _ | refine q6 ?_ | refine q7 ?_ _)); exact BK376.out) hb)
            have n5_ := qg (q9 (by repeat (first | (with_reducible first | exact HB.out | apply q1 | apply q2 | apply q3 | refine q4 ?_ GE358.out | refine q4 ?_ GE359.out | refine q4 ?_ GE371.out | refine q4 ?_ GE376.out) | exact HB.out)) hb)
            clear HO_5
            clear BK358
            clear BK359
            clear BK371
            clear BK376
            clear HB
            have HO_5 := n0_
            have BK358 := n1_
            have BK359 := n2_
            have BK371 := n3_
            have BK376 := n4_
            have HB := n5_
            clear n0_ n1_ n2_ n3_ n4_ n5_
            (try clear hb)
            (try clear hb2)
            (try clear hk)
            (try clear hi)
            refine hK.out _ _ ⟨(qc BK371.out 0).trans rfl, (qc BK371.out 1).trans rfl, (qc BK376.out 0).trans rfl, (qc BK376.out 1).trans rfl, (qc BK358.out 0).trans rfl, (qc BK358.out 1).trans rfl, (qc BK358.out 2).trans rfl, (qc BK358.out 3).trans rfl, (qc BK358.out 4).trans rfl, (qc BK359.out 0).trans rfl, (qc BK359.out 1).trans rfl, (qc BK359.out 2).trans rfl, (qc BK359.out 3).trans rfl, (qc BK359.out 4).trans rfl, HS14_, HS15_⟩ (fun hHeld => ?_)
            clear hK K
            refine norm_ (a' := ?_) ?_ ?_
            rotate_left
            ·show Act.put _ (some 74) _ = _
             simp only [Act.put, p1, p2, p3, i64_w, i32_w]
             rfl
            refine pure_ (i := 24) (N := some 75) (v := ?_) (a' := ?_) #[true, true, true, true, true, true, true, true, true, true, true, true, true, true, true, true, true, true, true, true, true, true, true, true, true, false, false, false, false, false, false, false, false, false, false, false, false, false, false, false, false, false] rfl rfl (any_of HT_.out (by kernel_rfl)) (fun _ _ _ h => h) (Or.inl ⟨by rfl, ?_⟩) ?_ ?_
            rotate_left
            ·intro w'
             go_simp
             with_reducible rfl
            rotate_left
            ·simp only [Act.put, p1, p2, p3, i64_w, i32_w]
             rfl
            refine pure_ (i := 25) (N := some 76) (v := ?_) (a' := ?_) #[true, true, true, true, true, true, true, true, true, true, true, true, true, true, true, true, true, true, true, true, true, true, true, true, true, true, false, false, false, false, false, false, false, false, false, false, false, false, false, false, false, false] rfl rfl (any_of HT_.out (by kernel_rfl)) (fun _ _ _ h => h) (Or.inl ⟨by rfl, ?_⟩) ?_ ?_
            rotate_left
            ·intro w'
             go_simp
             with_reducible rfl
            rotate_left
            ·simp only [Act.put, p1, p2, p3, i64_w, i32_w]
             rfl
            refine pure_ (i := 26) (N := some 77) (v := ?_) (a' := ?_) #[true, true, true, true, true, true, true, true, true, true, true, true, true, true, true, true, true, true, true, true, true, true, true, true, true, true, true, false, false, false, false, false, false, false, false, false, false, false, false, false, false, false] rfl rfl (any_of HT_.out (by kernel_rfl)) (fun _ _ _ h => h) (Or.inl ⟨by rfl, ?_⟩) ?_ ?_
            rotate_left
            ·intro w'
             go_simp
             with_reducible rfl
            rotate_left
            ·simp only [Act.put, p1, p2, p3, i64_w, i32_w]
             rfl
            refine pure_ (i := 27) (N := some 78) (v := ?_) (a' := ?_) #[true, true, true, true, true, true, true, true, true, true, true, true, true, true, true, true, true, true, true, true, true, true, true, true, true, true, true, true, false, false, false, false, false, false, false, false, false, false, false, false, false, false] rfl rfl (any_of HT_.out (by kernel_rfl)) (fun _ _ _ h => h) (Or.inl ⟨by rfl, ?_⟩) ?_ ?_
            rotate_left
            ·intro w'
             go_simp
             with_reducible rfl
            rotate_left
            ·simp only [Act.put, p1, p2, p3, i64_w, i32_w]
             rfl
            refine pure_ (i := 28) (N := some 79) (v := ?_) (a' := ?_) #[true, true, true, true, true, true, true, true, true, true, true, true, true, true, true, true, true, true, true, true, true, true, true, true, true, true, true, true, true, false, false, false, false, false, false, false, false, false, false, false, false, false] rfl rfl (any_of HT_.out (by kernel_rfl)) (fun _ _ _ h => h) (Or.inl ⟨by rfl, ?_⟩) ?_ ?_
            rotate_left
            ·intro w'
             go_simp
             with_reducible rfl
            rotate_left
            ·simp only [Act.put, p1, p2, p3, i64_w, i32_w]
             rfl
            refine pure_ (i := 29) (N := some 80) (v := ?_) (a' := ?_) #[true, true, true, true, true, true, true, true, true, true, true, true, true, true, true, true, true, true, true, true, true, true, true, true, true, true, true, true, true, true, false, false, false, false, false, false, false, false, false, false, false, false] rfl rfl (any_of HT_.out (by kernel_rfl)) (fun _ _ _ h => h) (Or.inl ⟨by rfl, ?_⟩) ?_ ?_
            rotate_left
            ·intro w'
             go_simp
             with_reducible rfl
            rotate_left
            ·simp only [Act.put, p1, p2, p3, i64_w, i32_w]
             rfl
            refine pure_ (i := 30) (N := some 81) (v := undef) (a' := ?_) #[true, true, true, true, true, true, true, true, true, true, true, true, true, true, true, true, true, true, true, true, true, true, true, true, true, true, true, true, true, true, true, false, false, false, false, false, false, false, false, false, false, false] rfl rfl (any_of HT_.out (by kernel_rfl)) (fun _ _ _ h => h) (Or.inr ⟨by rfl, rfl⟩) ?_ ?_
            rotate_left
            ·simp only [Act.put, p1, p2, p3, i64_w, i32_w]
             rfl
            refine pure_ (i := 31) (N := some 82) (v := undef) (a' := ?_) #[true, true, true, true, true, true, true, true, true, true, true, true, true, true, true, true, true, true, true, true, true, true, true, true, true, true, true, true, true, true, true, true, false, false, false, false, false, false, false, false, false, false] rfl rfl (any_of HT_.out (by kernel_rfl)) (fun _ _ _ h => h) (Or.inr ⟨by rfl, rfl⟩) ?_ ?_
            rotate_left
            ·simp only [Act.put, p1, p2, p3, i64_w, i32_w]
             rfl
            refine pure_ (i := 32) (N := some 83) (v := undef) (a' := ?_) #[true, true, true, true, true, true, true, true, true, true, true, true, true, true, true, true, true, true, true, true, true, true, true, true, true, true, true, true, true, true, true, true, true, false, false, false, false, false, false, false, false, false] rfl rfl (any_of HT_.out (by kernel_rfl)) (fun _ _ _ h => h) (Or.inr ⟨by rfl, rfl⟩) ?_ ?_
            rotate_left
            ·simp only [Act.put, p1, p2, p3, i64_w, i32_w]
             rfl
            refine pure_ (i := 33) (N := some 84) (v := undef) (a' := ?_) #[true, true, true, true, true, true, true, true, true, true, true, true, true, true, true, true, true, true, true, true, true, true, true, true, true, true, true, true, true, true, true, true, true, true, false, false, false, false, false, false, false, false] rfl rfl (any_of HT_.out (by kernel_rfl)) (fun _ _ _ h => h) (Or.inr ⟨by rfl, rfl⟩) ?_ ?_
            rotate_left
            ·simp only [Act.put, p1, p2, p3, i64_w, i32_w]
             rfl
            refine pure_ (i := 34) (N := some 85) (v := undef) (a' := ?_) #[true, true, true, true, true, true, true, true, true, true, true, true, true, true, true, true, true, true, true, true, true, true, true, true, true, true, true, true, true, true, true, true, true, true, true, false, false, false, false, false, false, false] rfl rfl (any_of HT_.out (by kernel_rfl)) (fun _ _ _ h => h) (Or.inr ⟨by rfl, rfl⟩) ?_ ?_
            rotate_left
            ·simp only [Act.put, p1, p2, p3, i64_w, i32_w]
             rfl
            refine pure_ (i := 35) (N := some 86) (v := undef) (a' := ?_) #[true, true, true, true, true, true, true, true, true, true, true, true, true, true, true, true, true, true, true, true, true, true, true, true, true, true, true, true, true, true, true, true, true, true, true, true, false, false, false, false, false, false] rfl rfl (any_of HT_.out (by kernel_rfl)) (fun _ _ _ h => h) (Or.inr ⟨by rfl, rfl⟩) ?_ ?_
            rotate_left
            ·simp only [Act.put, p1, p2, p3, i64_w, i32_w]
             rfl
            refine pure_ (i := 36) (N := some 87) (v := undef) (a' := ?_) #[true, true, true, true, true, true, true, true, true, true, true, true, true, true, true, true, true, true, true, true, true, true, true, true, true, true, true, true, true, true, true, true, true, true, true, true, true, false, false, false, false, false] rfl rfl (any_of HT_.out (by kernel_rfl)) (fun _ _ _ h => h) (Or.inr ⟨by rfl, rfl⟩) ?_ ?_
            rotate_left
            ·simp only [Act.put, p1, p2, p3, i64_w, i32_w]
             rfl
            refine pure_ (i := 37) (N := some 88) (v := undef) (a' := ?_) #[true, true, true, true, true, true, true, true, true, true, true, true, true, true, true, true, true, true, true, true, true, true, true, true, true, true, true, true, true, true, true, true, true, true, true, true, true, true, false, false, false, false] rfl rfl (any_of HT_.out (by kernel_rfl)) (fun _ _ _ h => h) (Or.inr ⟨by rfl, rfl⟩) ?_ ?_
            rotate_left
            ·simp only [Act.put, p1, p2, p3, i64_w, i32_w]
             rfl
            refine pure_ (i := 38) (N := some 89) (v := undef) (a' := ?_) #[true, true, true, true, true, true, true, true, true, true, true, true, true, true, true, true, true, true, true, true, true, true, true, true, true, true, true, true, true, true, true, true, true, true, true, true, true, true, true, false, false, false] rfl rfl (any_of HT_.out (by kernel_rfl)) (fun _ _ _ h => h) (Or.inr ⟨by rfl, rfl⟩) ?_ ?_
            rotate_left
            ·simp only [Act.put, p1, p2, p3, i64_w, i32_w]
             rfl
            refine pure_ (i := 39) (N := some 90) (v := undef) (a' := ?_) #[true, true, true, true, true, true, true, true, true, true, true, true, true, true, true, true, true, true, true, true, true, true, true, true, true, true, true, true, true, true, true, true, true, true, true, true, true, true, true, true, false, false] rfl rfl (any_of HT_.out (by kernel_rfl)) (fun _ _ _ h => h) (Or.inr ⟨by rfl, rfl⟩) ?_ ?_
            rotate_left
            ·simp only [Act.put, p1, p2, p3, i64_w, i32_w]
             rfl
            refine pure_ (i := 40) (N := some 91) (v := ?_) (a' := ?_) #[true, true, true, true, true, true, true, true, true, true, true, true, true, true, true, true, true, true, true, true, true, true, true, true, true, true, true, true, true, true, true, true, true, true, true, true, true, true, true, true, true, false] rfl rfl (any_of HT_.out (by kernel_rfl)) (fun _ _ _ h => h) (Or.inl ⟨by rfl, ?_⟩) ?_ ?_
            rotate_left
            ·intro w'
             go_simp
             with_reducible rfl
            rotate_left
            ·simp only [Act.put, p1, p2, p3, i64_w, i32_w]
             rfl
            refine pure_ (i := 41) (N := some 92) (v := ?_) (a' := ?_) #[true, true, true, true, true, true, true, true, true, true, true, true, true, true, true, true, true, true, true, true, true, true, true, true, true, true, true, true, true, true, true, true, true, true, true, true, true, true, true, true, true, true] rfl rfl (any_of HT_.out (by kernel_rfl)) (fun _ _ _ h => h) (Or.inl ⟨by rfl, ?_⟩) ?_ ?_
            rotate_left
            ·intro w'
             go_simp
             with_reducible rfl
            rotate_left
            ·simp only [Act.put, p1, p2, p3, i64_w, i32_w]
             rfl
            refine done_ (done_of HT_.out (by kernel_rfl)) ?_
            try go_wp2
            go_roundg k1
            case measure => have := HK1.out; omega
            case rel => exact ⟨(wrap64 (x6_1 + 1)), (by first | rfl | (simp; done) | (simp [*]; done)), H', ⟨by have := HK1.out; omega⟩, ⟨by (with_reducible repeat (first | apply qk | apply ql | apply qm)); exact HO_5.out⟩, ⟨by (with_reducible repeat (first | refine q5 ?_ _ | refine q6 ?_ | refine q7 ?_ _)); exact BK358.out⟩, ⟨by (with_reducible repeat (first | refine q5 ?_ _ | refine q6 ?_ | refine q7 ?_ _)); exact BK359.out⟩, ⟨by repeat (first | (with_reducible first | exact HB.out | apply q1 | apply q2 | apply q3 | refine q4 ?_ GE358.out | refine q4 ?_ GE359.out | refine q4 ?_ GE371.out | refine q4 ?_ GE376.out) | exact HB.out)⟩⟩
          ·rw [if_neg c45] at H
           have c45b0 : (t378 == t380) = false := beq_eq_false_iff_ne.mpr c45
           have c45b1 : (t378 != t380) = true := bne_iff_ne.mpr c45
           obtain rfl := Option.some.inj H
           exact absurd HR.out (by decide)
        ·replace c26 := Bool.eq_false_iff.mpr c26
         subst c26
         have H1 : (some false) = some r := by rw [if_neg (show ¬ (false = true) by decide)] at H; exact H
         clear H
         have H := H1
         clear H1
         obtain rfl := Option.some.inj H
         exact absurd HR.out (by decide)
       ·replace c25 := Bool.eq_false_iff.mpr c25
        subst c25
        have H1 : (some false) = some r := by rw [if_neg (show ¬ (false = true) by decide)] at H; exact H
        clear H
        have H := H1
        clear H1
        obtain rfl := Option.some.inj H
        exact absurd HR.out (by decide)
      ·rw [if_neg c22] at H
       exact absurd H (by simp)
     ·rw [if_neg c21] at H
      have c21b0 : decide (x6_1 < (t360.length : Int)) = false := decide_eq_false c21
      clear c21
      replace H := Option.bind_eq_some_iff.mp H
      obtain ⟨t383, A1490, H⟩ := H
      replace H : ((spec_IsJet.f t348 t349 t350 t351 t352).bind fun t384 => (if (t383 != t384) = true then (some false) else ((impl_IsJet.f t348 t349 t350 t351 t352).bind fun t385 => (if t385 = true then ((impl_MeetingsOf.f k1 t348 t349 t350 t351 t352 t348 t349 t350 t351 t352).bind fun t386 => ((impl_FlightOf.f t348 t349 t350 t351 t352).bind fun t389 => (some ((t386.length : Int) == (wrap64 (t389 + 1)))))) else (some true))))) = some r := H
      have A149 := qg A1490
      clear A1490
      replace H := Option.bind_eq_some_iff.mp H
      obtain ⟨t384, A1500, H⟩ := H
      replace H : (if (t383 != t384) = true then (some false) else ((impl_IsJet.f t348 t349 t350 t351 t352).bind fun t385 => (if t385 = true then ((impl_MeetingsOf.f k1 t348 t349 t350 t351 t352 t348 t349 t350 t351 t352).bind fun t386 => ((impl_FlightOf.f t348 t349 t350 t351 t352).bind fun t389 => (some ((t386.length : Int) == (wrap64 (t389 + 1)))))) else (some true)))) = some r := H
      have A150 := qg A1500
      clear A1500
      by_cases c151 : (t383 != t384) = true
      ·rw [if_pos c151] at H
       have c151b0 : (t383 != t384) = true := c151
       (try (have c151b1 : decide (t383 = t384) = false := by simpa using c151))
       (try (have c151b2 : (t383 == t384) = false := by simpa using c151))
       (try (have c151b3 : ¬ (t383 = t384) := by simpa using c151))
       clear c151
       obtain rfl := Option.some.inj H
       exact absurd HR.out (by decide)
      ·rw [if_neg c151] at H
       have c151b0 : (t383 != t384) = false := by simpa using c151
       (try (have c151b1 : decide (t383 = t384) = true := by simpa using c151))
       (try (have c151b2 : (t383 == t384) = true := by simpa using c151))
       clear c151
       replace H := Option.bind_eq_some_iff.mp H
       obtain ⟨t385, A1550, H⟩ := H
       replace H : (if t385 = true then ((impl_MeetingsOf.f k1 t348 t349 t350 t351 t352 t348 t349 t350 t351 t352).bind fun t386 => ((impl_FlightOf.f t348 t349 t350 t351 t352).bind fun t389 => (some ((t386.length : Int) == (wrap64 (t389 + 1)))))) else (some true)) = some r := H
       have A155 := qg A1550
       clear A1550
       by_cases c156 : t385 = true
       ·subst c156
        have H1 : ((impl_MeetingsOf.f k1 t348 t349 t350 t351 t352 t348 t349 t350 t351 t352).bind fun t386 => ((impl_FlightOf.f t348 t349 t350 t351 t352).bind fun t389 => (some ((t386.length : Int) == (wrap64 (t389 + 1)))))) = some r := by rw [if_pos rfl] at H; exact H
        clear H
        have H := H1
        clear H1
        replace H := Option.bind_eq_some_iff.mp H
        obtain ⟨t386, A1570, H⟩ := H
        replace H : ((impl_FlightOf.f t348 t349 t350 t351 t352).bind fun t389 => (some ((t386.length : Int) == (wrap64 (t389 + 1))))) = some r := H
        have A157 := qg A1570
        clear A1570
        replace H := Option.bind_eq_some_iff.mp H
        obtain ⟨t389, A1580, H⟩ := H
        replace H : (some ((t386.length : Int) == (wrap64 (t389 + 1)))) = some r := H
        have A158 := qg A1580
        clear A1580
        obtain rfl := Option.some.inj H
        try go_wp2
        have n0_ := qg (qm HO_5.out)
        have n1_ := qg (q6 BK358.out)
        have n2_ := qg (q6 BK359.out)
        have n3_ := qg (q3 HB.out)
        clear HO_5
        clear BK358
        clear BK359
        clear HB
        have HO_5 := n0_
        have BK358 := n1_
        have BK359 := n2_
        have HB := n3_
        clear n0_ n1_ n2_ n3_
        refine start_ (n := 5) (S := fun w' => w'.cell? ⟨gb358, 0, none⟩ = some (.int .i64 t348) ∧ w'.cell? ⟨gb358, 1, none⟩ = some (.int .i64 t349) ∧ w'.cell? ⟨gb358, 2, none⟩ = some (.int .i64 t350) ∧ w'.cell? ⟨gb358, 3, none⟩ = some (.int .i64 t351) ∧ w'.cell? ⟨gb358, 4, none⟩ = some (.int .i64 t352)) (ds := []) #[false, false, false, false, false] (by kernel_rfl) rfl rfl ⟨(qc BK358.out 0).trans rfl, (qc BK358.out 1).trans rfl, (qc BK358.out 2).trans rfl, (qc BK358.out 3).trans rfl, (qc BK358.out 4).trans rfl⟩ (fun hHeld => ?_)
        generalize wr.drew = w159 at HO_5 BK358 BK359 HB hHeld ⊢
        refine take_ (i := 0) (N := some 93) (v := ?_) (a' := ?_) #[true, false, false, false, false] rfl rfl (by kernel_rfl) (fun _ _ _ h => h) (Or.inl ⟨by rfl, ?_⟩) hHeld ?_ ?_
        rotate_left
        ·rintro w' ⟨s0, s1, s2, s3, s4⟩
         go_simp
         with_reducible rfl
        rotate_left
        ·simp only [Act.put, p1, p2, p3, i64_w, i32_w]
         rfl
        refine take_ (i := 2) (N := some 95) (v := ?_) (a' := ?_) #[true, false, true, false, false] rfl rfl (by kernel_rfl) (fun _ _ _ h => h) (Or.inl ⟨by rfl, ?_⟩) hHeld ?_ ?_
        rotate_left
        ·rintro w' ⟨s0, s1, s2, s3, s4⟩
         go_simp
         with_reducible rfl
        rotate_left
        ·simp only [Act.put, p1, p2, p3, i64_w, i32_w]
         rfl
        refine one_ (i := 1) (N := some 94) #[true, true, true, false, false] rfl rfl (by kernel_rfl) (by decide) (fun K hK => ?_)
        refine goes_ Try.func54 (by kernel_rfl) rfl #[.agg #[.int .i64 t348, .int .i64 t349, .int .i64 t350, .int .i64 t351, .int .i64 t352]] (by rfl) rfl rfl (by (try simp only [List.map_toArray, List.map_cons, List.map_nil]); first | done | rfl | (simp only [List.length_drop, List.length_take]; rfl)) ?_
        with_reducible refine (impl_IsJet.calls t348 t349 t350 t351 t352 t383 _ A149.out).mono ?_
        rintro e w160 ⟨rfl, hb⟩
        refine ⟨_, rfl, ?_⟩
        have n0_ := qg (qj (by (with_reducible repeat (first | apply qk | apply ql | apply qm)); exact HO_5.out) hb)
        have n1_ := qg (q8 (g := gb358) (o := .cells #[.int .i64 t348, .int .i64 t349, .int .i64 t350, .int .i64 t351, .int .i64 t352] 28 (0, 0)) (by (with_reducible repeat (first | refine q5 ?_ _ | refine q6 ?_ | refine q7 ?_ _)); exact BK358.out) hb)
        have n2_ := qg (q8 (g := gb359) (o := .cells #[.int .i64 t353, .int .i64 t354, .int .i64 t355, .int .i64 t356, .int .i64 t357] 28 (0, 0)) (by (with_reducible repeat (first | refine q5 ?_ _ | refine q6 ?_ | refine q7 ?_ _)); exact BK359.out) hb)
        have n3_ := qg (q9 (by repeat (first | (with_reducible first | exact HB.out | apply q1 | apply q2 | apply q3 | refine q4 ?_ GE358.out | refine q4 ?_ GE359.out) | exact HB.out)) hb)
        clear HO_5
        clear BK358
        clear BK359
        clear HB
        have HO_5 := n0_
        have BK358 := n1_
        have BK359 := n2_
        have HB := n3_
        clear n0_ n1_ n2_ n3_
        (try clear hb)
        (try clear hb2)
        (try clear hk)
        (try clear hi)
        refine hK.out _ _ ⟨(qc BK358.out 0).trans rfl, (qc BK358.out 1).trans rfl, (qc BK358.out 2).trans rfl, (qc BK358.out 3).trans rfl, (qc BK358.out 4).trans rfl⟩ (fun hHeld => ?_)
        clear hK K
        refine norm_ (a' := ?_) ?_ ?_
        rotate_left
        ·show Act.put _ (some 94) _ = _
         simp only [Act.put, p1, p2, p3, i64_w, i32_w]
         rfl
        refine one_ (i := 3) (N := some 96) #[true, true, true, true, false] rfl rfl (by kernel_rfl) (by decide) (fun K hK => ?_)
        refine goes_ Try.func55 (by kernel_rfl) rfl #[.agg #[.int .i64 t348, .int .i64 t349, .int .i64 t350, .int .i64 t351, .int .i64 t352]] (by rfl) rfl rfl (by (try simp only [List.map_toArray, List.map_cons, List.map_nil]); first | done | rfl | (simp only [List.length_drop, List.length_take]; rfl)) ?_
        with_reducible refine (spec_IsJet.calls t348 t349 t350 t351 t352 t384 _ A150.out).mono ?_
        rintro e w161 ⟨rfl, hb⟩
        refine ⟨_, rfl, ?_⟩
        have n0_ := qg (qj (by (with_reducible repeat (first | apply qk | apply ql | apply qm)); exact HO_5.out) hb)
        have n1_ := qg (q8 (g := gb358) (o := .cells #[.int .i64 t348, .int .i64 t349, .int .i64 t350, .int .i64 t351, .int .i64 t352] 28 (0, 0)) (by (with_reducible repeat (first | refine q5 ?_ _ | refine q6 ?_ | refine q7 ?_ _)); exact BK358.out) hb)
        have n2_ := qg (q8 (g := gb359) (o := .cells #[.int .i64 t353, .int .i64 t354, .int .i64 t355, .int .i64 t356, .int .i64 t357] 28 (0, 0)) (by (with_reducible repeat (first | refine q5 ?_ _ | refine q6 ?_ | refine q7 ?_ _)); exact BK359.out) hb)
        have n3_ := qg (q9 (by repeat (first | (with_reducible first | exact HB.out | apply q1 | apply q2 | apply q3 | refine q4 ?_ GE358.out | refine q4 ?_ GE359.out) | exact HB.out)) hb)
        clear HO_5
        clear BK358
        clear BK359
        clear HB
        have HO_5 := n0_
        have BK358 := n1_
        have BK359 := n2_
        have HB := n3_
        clear n0_ n1_ n2_ n3_
        (try clear hb)
        (try clear hb2)
        (try clear hk)
        (try clear hi)
        refine hK.out _ _ ⟨(qc BK358.out 0).trans rfl, (qc BK358.out 1).trans rfl, (qc BK358.out 2).trans rfl, (qc BK358.out 3).trans rfl, (qc BK358.out 4).trans rfl⟩ (fun hHeld => ?_)
        clear hK K
        refine norm_ (a' := ?_) ?_ ?_
        rotate_left
        ·show Act.put _ (some 96) _ = _
         simp only [Act.put, p1, p2, p3, i64_w, i32_w]
         rfl
        refine pure_ (i := 4) (N := some 97) (v := ?_) (a' := ?_) #[true, true, true, true, true] rfl rfl (by kernel_rfl) (fun _ _ _ h => h) (Or.inl ⟨by rfl, ?_⟩) ?_ ?_
        rotate_left
        ·intro w'
         go_simp
         with_reducible rfl
        rotate_left
        ·simp only [Act.put, p1, p2, p3, i64_w, i32_w]
         rfl
        refine done_ (by kernel_rfl) ?_
        try go_wp2
        have n0_ := qg (qm HO_5.out)
        have n1_ := qg (q6 BK358.out)
        have n2_ := qg (q6 BK359.out)
        have n3_ := qg (q3 HB.out)
        clear HO_5
        clear BK358
        clear BK359
        clear HB
        have HO_5 := n0_
        have BK358 := n1_
        have BK359 := n2_
        have HB := n3_
        clear n0_ n1_ n2_ n3_
        refine start_ (n := 14) (S := fun w' => w'.cell? ⟨gb358, 0, none⟩ = some (.int .i64 t348) ∧ w'.cell? ⟨gb358, 1, none⟩ = some (.int .i64 t349) ∧ w'.cell? ⟨gb358, 2, none⟩ = some (.int .i64 t350) ∧ w'.cell? ⟨gb358, 3, none⟩ = some (.int .i64 t351) ∧ w'.cell? ⟨gb358, 4, none⟩ = some (.int .i64 t352)) (ds := []) #[false, false, false, false, false, false, false, false, false, false, false, false, false, false] (by kernel_rfl) rfl rfl ⟨(qc BK358.out 0).trans rfl, (qc BK358.out 1).trans rfl, (qc BK358.out 2).trans rfl, (qc BK358.out 3).trans rfl, (qc BK358.out 4).trans rfl⟩ (fun hHeld => ?_); refine with_tabW laws_FnMeet.tab16 laws_FnMeet.bits16 (fun HT_ HW_ => ?_)
        generalize w161.drew = w162 at HO_5 BK358 BK359 HB hHeld ⊢
        refine take_ (i := 0) (N := some 98) (v := ?_) (a' := ?_) #[true, false, false, false, false, false, false, false, false, false, false, false, false, false] rfl rfl (take_ofW HT_.out HW_.out (by kernel_rfl)) (fun _ _ _ h => h) (Or.inl ⟨by rfl, ?_⟩) hHeld ?_ ?_
        rotate_left
        ·rintro w' ⟨s0, s1, s2, s3, s4⟩
         go_simp
         with_reducible rfl
        rotate_left
        ·simp only [Act.put, p1, p2, p3, i64_w, i32_w]
         rfl
        refine one_ (i := 1) (N := some 99) #[true, true, false, false, false, false, false, false, false, false, false, false, false, false] rfl rfl (one_of HT_.out (by kernel_rfl)) (by decide) (fun K hK => ?_)
        refine goes_ Try.func54 (by kernel_rfl) rfl #[.agg #[.int .i64 t348, .int .i64 t349, .int .i64 t350, .int .i64 t351, .int .i64 t352]] (by rfl) rfl rfl (by (try simp only [List.map_toArray, List.map_cons, List.map_nil]); first | done | rfl | (simp only [List.length_drop, List.length_take]; rfl)) ?_
        with_reducible refine (impl_IsJet.calls t348 t349 t350 t351 t352 true _ A155.out).mono ?_
        rintro e w163 ⟨rfl, hb⟩
        refine ⟨_, rfl, ?_⟩
        have n0_ := qg (qj (by (with_reducible repeat (first | apply qk | apply ql | apply qm)); exact HO_5.out) hb)
        have n1_ := qg (q8 (g := gb358) (o := .cells #[.int .i64 t348, .int .i64 t349, .int .i64 t350, .int .i64 t351, .int .i64 t352] 28 (0, 0)) (by (with_reducible repeat (first | refine q5 ?_ _ | refine q6 ?_ | refine q7 ?_ _)); exact BK358.out) hb)
        have n2_ := qg (q8 (g := gb359) (o := .cells #[.int .i64 t353, .int .i64 t354, .int .i64 t355, .int .i64 t356, .int .i64 t357] 28 (0, 0)) (by (with_reducible repeat (first | refine q5 ?_ _ | refine q6 ?_ | refine q7 ?_ _)); exact BK359.out) hb)
        have n3_ := qg (q9 (by repeat (first | (with_reducible first | exact HB.out | apply q1 | apply q2 | apply q3 | refine q4 ?_ GE358.out | refine q4 ?_ GE359.out) | exact HB.out)) hb)
        clear HO_5
        clear BK358
        clear BK359
        clear HB
        have HO_5 := n0_
        have BK358 := n1_
        have BK359 := n2_
        have HB := n3_
        clear n0_ n1_ n2_ n3_
        (try clear hb)
        (try clear hb2)
        (try clear hk)
        (try clear hi)
        refine hK.out _ _ ⟨(qc BK358.out 0).trans rfl, (qc BK358.out 1).trans rfl, (qc BK358.out 2).trans rfl, (qc BK358.out 3).trans rfl, (qc BK358.out 4).trans rfl⟩ (fun hHeld => ?_)
        clear hK K
        refine norm_ (a' := ?_) ?_ ?_
        rotate_left
        ·show Act.put _ (some 99) _ = _
         simp only [Act.put, p1, p2, p3, i64_w, i32_w]
         rfl
        refine pure_ (i := 2) (N := some 100) (v := ?_) (a' := ?_) #[true, true, true, false, false, false, false, false, false, false, false, false, false, false] rfl rfl (any_of HT_.out (by kernel_rfl)) (fun _ _ _ h => h) (Or.inl ⟨by rfl, ?_⟩) ?_ ?_
        rotate_left
        ·intro w'
         go_simp
         with_reducible rfl
        rotate_left
        ·simp only [Act.put, p1, p2, p3, i64_w, i32_w]
         rfl
        refine pure_ (i := 3) (N := some 101) (v := ?_) (a' := ?_) #[true, true, true, true, false, false, false, false, false, false, false, false, false, false] rfl rfl (any_of HT_.out (by kernel_rfl)) (fun _ _ _ h => h) (Or.inl ⟨by rfl, ?_⟩) ?_ ?_
        rotate_left
        ·intro w'
         go_simp
         with_reducible rfl
        rotate_left
        ·simp only [Act.put, p1, p2, p3, i64_w, i32_w]
         rfl
        refine take_ (i := 4) (N := some 102) (v := ?_) (a' := ?_) #[true, true, true, true, true, false, false, false, false, false, false, false, false, false] rfl rfl (take_ofW HT_.out HW_.out (by kernel_rfl)) (fun _ _ _ h => h) (Or.inl ⟨by rfl, ?_⟩) hHeld ?_ ?_
        rotate_left
        ·rintro w' ⟨s0, s1, s2, s3, s4⟩
         go_simp
         with_reducible rfl
        rotate_left
        ·simp only [Act.put, p1, p2, p3, i64_w, i32_w]
         rfl
        refine take_ (i := 5) (N := some 103) (v := ?_) (a' := ?_) #[true, true, true, true, true, true, false, false, false, false, false, false, false, false] rfl rfl (take_ofW HT_.out HW_.out (by kernel_rfl)) (fun _ _ _ h => h) (Or.inl ⟨by rfl, ?_⟩) hHeld ?_ ?_
        rotate_left
        ·rintro w' ⟨s0, s1, s2, s3, s4⟩
         go_simp
         with_reducible rfl
        rotate_left
        ·simp only [Act.put, p1, p2, p3, i64_w, i32_w]
         rfl
        refine take_ (i := 8) (N := some 106) (v := ?_) (a' := ?_) #[true, true, true, true, true, true, false, false, true, false, false, false, false, false] rfl rfl (take_ofW HT_.out HW_.out (by kernel_rfl)) (fun _ _ _ h => h) (Or.inl ⟨by rfl, ?_⟩) hHeld ?_ ?_
        rotate_left
        ·rintro w' ⟨s0, s1, s2, s3, s4⟩
         go_simp
         with_reducible rfl
        rotate_left
        ·simp only [Act.put, p1, p2, p3, i64_w, i32_w]
         rfl
        refine one_ (i := 6) (N := some 104) #[true, true, true, true, true, true, true, false, true, false, false, false, false, false] rfl rfl (one_of HT_.out (by kernel_rfl)) (by decide) (fun K hK => ?_)
        refine goes_ Try.func44 (by kernel_rfl) rfl #[.agg #[.int .i64 t348, .int .i64 t349, .int .i64 t350, .int .i64 t351, .int .i64 t352], .agg #[.int .i64 t348, .int .i64 t349, .int .i64 t350, .int .i64 t351, .int .i64 t352]] (by rfl) rfl rfl (by (try simp only [List.map_toArray, List.map_cons, List.map_nil]); first | done | rfl | (simp only [List.length_drop, List.length_take]; rfl)) ?_
        with_reducible refine (impl_MeetingsOf.calls k1 t348 t349 t350 t351 t352 t348 t349 t350 t351 t352 t386 _ A157.out).mono ?_
        rintro e w164 ⟨v387, rfl, ho0, hb⟩
        refine ⟨_, rfl, ?_⟩
        have n0_ := qg (Kd.R_elder' (by (with_reducible repeat (first | apply qk | apply ql | apply qm)); exact HO_5.out) (Kd.R_base ho0) hb)
        have n1_ := qg (Kd.R_lower (Kd.R_new' ho0 (Kd.R_lt (by (with_reducible repeat (first | apply qk | apply ql | apply qm)); exact HO_5.out))) (qa (by repeat (first | (with_reducible first | exact HB.out | apply q1 | apply q2 | apply q3 | refine q4 ?_ GE358.out | refine q4 ?_ GE359.out) | exact HB.out))))
        have n2_ := qg (q8 (g := gb358) (o := .cells #[.int .i64 t348, .int .i64 t349, .int .i64 t350, .int .i64 t351, .int .i64 t352] 28 (0, 0)) (by (with_reducible repeat (first | refine q5 ?_ _ | refine q6 ?_ | refine q7 ?_ _)); exact BK358.out) hb)
        have n3_ := qg (q8 (g := gb359) (o := .cells #[.int .i64 t353, .int .i64 t354, .int .i64 t355, .int .i64 t356, .int .i64 t357] 28 (0, 0)) (by (with_reducible repeat (first | refine q5 ?_ _ | refine q6 ?_ | refine q7 ?_ _)); exact BK359.out) hb)
        have n4_ := qg (q9 (by repeat (first | (with_reducible first | exact HB.out | apply q1 | apply q2 | apply q3 | refine q4 ?_ GE358.out | refine q4 ?_ GE359.out) | exact HB.out)) hb)
        clear HO_5
        clear BK358
        clear BK359
        clear HB
        have HO_5 := n0_
        have HO388 := n1_
        have BK358 := n2_
        have BK359 := n3_
        have HB := n4_
        clear n0_ n1_ n2_ n3_ n4_
        (try clear hb)
        (try clear hb2)
        (try clear hk)
        (try clear hi)
        (try clear ho0)
        obtain ⟨Ao165, co165, eo165⟩ := Kd.R_slice HO388.out
        (first | subst eo165 | (injection eo165 with f1_ f2_ f3_; have f4_ := f1_.symm; have f5_ := f3_.symm; clear f1_ f2_ f3_; subst f4_; subst f5_))
        refine hK.out _ _ ⟨(qc BK358.out 0).trans rfl, (qc BK358.out 1).trans rfl, (qc BK358.out 2).trans rfl, (qc BK358.out 3).trans rfl, (qc BK358.out 4).trans rfl⟩ (fun hHeld => ?_)
        clear hK K
        refine norm_ (a' := ?_) ?_ ?_
        rotate_left
        ·show Act.put _ (some 104) _ = _
         simp only [Act.put, p1, p2, p3, i64_w, i32_w]
         rfl
        refine pure_ (i := 7) (N := some 105) (v := ?_) (a' := ?_) #[true, true, true, true, true, true, true, true, true, false, false, false, false, false] rfl rfl (any_of HT_.out (by kernel_rfl)) (fun _ _ _ h => h) (Or.inl ⟨by rfl, ?_⟩) ?_ ?_
        rotate_left
        ·intro w'
         go_simp
         with_reducible rfl
        rotate_left
        ·simp only [Act.put, p1, p2, p3, i64_w, i32_w]
         rfl
        refine one_ (i := 9) (N := some 107) #[true, true, true, true, true, true, true, true, true, true, false, false, false, false] rfl rfl (one_of HT_.out (by kernel_rfl)) (by decide) (fun K hK => ?_)
        refine goes_ Try.func56 (by kernel_rfl) rfl #[.agg #[.int .i64 t348, .int .i64 t349, .int .i64 t350, .int .i64 t351, .int .i64 t352]] (by rfl) rfl rfl (by (try simp only [List.map_toArray, List.map_cons, List.map_nil]); first | done | rfl | (simp only [List.length_drop, List.length_take]; rfl)) ?_
        with_reducible refine (impl_FlightOf.calls t348 t349 t350 t351 t352 t389 _ A158.out).mono ?_
        rintro e w166 ⟨rfl, hb⟩
        refine ⟨_, rfl, ?_⟩
        have n0_ := qg (qj (by (with_reducible repeat (first | apply qk | apply ql | apply qm)); exact HO_5.out) hb)
        have n1_ := qg (qj (by (with_reducible repeat (first | apply qk | apply ql | apply qm)); exact HO388.out) hb)
        have n2_ := qg (q8 (g := gb358) (o := .cells #[.int .i64 t348, .int .i64 t349, .int .i64 t350, .int .i64 t351, .int .i64 t352] 28 (0, 0)) (by (with_reducible repeat (first | refine q5 ?_ _ | refine q6 ?_ | refine q7 ?_ _)); exact BK358.out) hb)
        have n3_ := qg (q8 (g := gb359) (o := .cells #[.int .i64 t353, .int .i64 t354, .int .i64 t355, .int .i64 t356, .int .i64 t357] 28 (0, 0)) (by (with_reducible repeat (first | refine q5 ?_ _ | refine q6 ?_ | refine q7 ?_ _)); exact BK359.out) hb)
        have n4_ := qg (q9 (by repeat (first | (with_reducible first | exact HB.out | apply q1 | apply q2 | apply q3 | refine q4 ?_ GE358.out | refine q4 ?_ GE359.out) | exact HB.out)) hb)
        clear HO_5
        clear HO388
        clear BK358
        clear BK359
        clear HB
        have HO_5 := n0_
        have HO388 := n1_
        have BK358 := n2_
        have BK359 := n3_
        have HB := n4_
        clear n0_ n1_ n2_ n3_ n4_
        (try clear hb)
        (try clear hb2)
        (try clear hk)
        (try clear hi)
        refine hK.out _ _ ⟨(qc BK358.out 0).trans rfl, (qc BK358.out 1).trans rfl, (qc BK358.out 2).trans rfl, (qc BK358.out 3).trans rfl, (qc BK358.out 4).trans rfl⟩ (fun hHeld => ?_)
        clear hK K
        refine norm_ (a' := ?_) ?_ ?_
        rotate_left
        ·show Act.put _ (some 107) _ = _
         simp only [Act.put, p1, p2, p3, i64_w, i32_w]
         rfl
        refine pure_ (i := 10) (N := some 108) (v := ?_) (a' := ?_) #[true, true, true, true, true, true, true, true, true, true, true, false, false, false] rfl rfl (any_of HT_.out (by kernel_rfl)) (fun _ _ _ h => h) (Or.inl ⟨by rfl, ?_⟩) ?_ ?_
        rotate_left
        ·intro w'
         go_simp
         with_reducible rfl
        rotate_left
        ·simp only [Act.put, p1, p2, p3, i64_w, i32_w]
         rfl
        refine pure_ (i := 11) (N := some 109) (v := ?_) (a' := ?_) #[true, true, true, true, true, true, true, true, true, true, true, true, false, false] rfl rfl (any_of HT_.out (by kernel_rfl)) (fun _ _ _ h => h) (Or.inl ⟨by rfl, ?_⟩) ?_ ?_
        rotate_left
        ·intro w'
         go_simp
         with_reducible rfl
        rotate_left
        ·simp only [Act.put, p1, p2, p3, i64_w, i32_w]
         rfl
        refine pure_ (i := 12) (N := some 110) (v := ?_) (a' := ?_) #[true, true, true, true, true, true, true, true, true, true, true, true, true, false] rfl rfl (any_of HT_.out (by kernel_rfl)) (fun _ _ _ h => h) (Or.inl ⟨by rfl, ?_⟩) ?_ ?_
        rotate_left
        ·intro w'
         go_simp
         with_reducible rfl
        rotate_left
        ·simp only [Act.put, p1, p2, p3, i64_w, i32_w]
         rfl
        refine pure_ (i := 13) (N := some 2) (v := ?_) (a' := ?_) #[true, true, true, true, true, true, true, true, true, true, true, true, true, true] rfl rfl (any_of HT_.out (by kernel_rfl)) (fun _ _ _ h => h) (Or.inl ⟨by rfl, ?_⟩) ?_ ?_
        rotate_left
        ·intro w'
         go_simp
         with_reducible rfl
        rotate_left
        ·simp only [Act.put, p1, p2, p3, i64_w, i32_w]
         rfl
        refine done_ (done_of HT_.out (by kernel_rfl)) ?_
        try go_wp2
        go_ret
        exact ⟨by first | rfl | (simp [errW_none, errW_some] <;> rfl) | (simp [*, errW_none, errW_some] <;> rfl), by repeat (first | (with_reducible first | exact HB.out | apply q1 | apply q2 | apply q3 | refine q4 ?_ GE358.out | refine q4 ?_ GE359.out) | exact HB.out)⟩
       ·replace c156 := Bool.eq_false_iff.mpr c156
        subst c156
        have H1 : (some true) = some r := by rw [if_neg (show ¬ (false = true) by decide)] at H; exact H
        clear H
        have H := H1
        clear H1
        obtain rfl := Option.some.inj H
        try go_wp2
        have n0_ := qg (qm HO_5.out)
        have n1_ := qg (q6 BK358.out)
        have n2_ := qg (q6 BK359.out)
        have n3_ := qg (q3 HB.out)
        clear HO_5
        clear BK358
        clear BK359
        clear HB
        have HO_5 := n0_
        have BK358 := n1_
        have BK359 := n2_
        have HB := n3_
        clear n0_ n1_ n2_ n3_
        refine start_ (n := 5) (S := fun w' => w'.cell? ⟨gb358, 0, none⟩ = some (.int .i64 t348) ∧ w'.cell? ⟨gb358, 1, none⟩ = some (.int .i64 t349) ∧ w'.cell? ⟨gb358, 2, none⟩ = some (.int .i64 t350) ∧ w'.cell? ⟨gb358, 3, none⟩ = some (.int .i64 t351) ∧ w'.cell? ⟨gb358, 4, none⟩ = some (.int .i64 t352)) (ds := []) #[false, false, false, false, false] (by kernel_rfl) rfl rfl ⟨(qc BK358.out 0).trans rfl, (qc BK358.out 1).trans rfl, (qc BK358.out 2).trans rfl, (qc BK358.out 3).trans rfl, (qc BK358.out 4).trans rfl⟩ (fun hHeld => ?_)
        generalize wr.drew = w167 at HO_5 BK358 BK359 HB hHeld ⊢
        refine take_ (i := 0) (N := some 93) (v := ?_) (a' := ?_) #[true, false, false, false, false] rfl rfl (by kernel_rfl) (fun _ _ _ h => h) (Or.inl ⟨by rfl, ?_⟩) hHeld ?_ ?_
        rotate_left
        ·rintro w' ⟨s0, s1, s2, s3, s4⟩
         go_simp
         with_reducible rfl
        rotate_left
        ·simp only [Act.put, p1, p2, p3, i64_w, i32_w]
         rfl
        refine take_ (i := 2) (N := some 95) (v := ?_) (a' := ?_) #[true, false, true, false, false] rfl rfl (by kernel_rfl) (fun _ _ _ h => h) (Or.inl ⟨by rfl, ?_⟩) hHeld ?_ ?_
        rotate_left
        ·rintro w' ⟨s0, s1, s2, s3, s4⟩
         go_simp
         with_reducible rfl
        rotate_left
        ·simp only [Act.put, p1, p2, p3, i64_w, i32_w]
         rfl
        refine one_ (i := 1) (N := some 94) #[true, true, true, false, false] rfl rfl (by kernel_rfl) (by decide) (fun K hK => ?_)
        refine goes_ Try.func54 (by kernel_rfl) rfl #[.agg #[.int .i64 t348, .int .i64 t349, .int .i64 t350, .int .i64 t351, .int .i64 t352]] (by rfl) rfl rfl (by (try simp only [List.map_toArray, List.map_cons, List.map_nil]); first | done | rfl | (simp only [List.length_drop, List.length_take]; rfl)) ?_
        with_reducible refine (impl_IsJet.calls t348 t349 t350 t351 t352 t383 _ A149.out).mono ?_
        rintro e w168 ⟨rfl, hb⟩
        refine ⟨_, rfl, ?_⟩
        have n0_ := qg (qj (by (with_reducible repeat (first | apply qk | apply ql | apply qm)); exact HO_5.out) hb)
        have n1_ := qg (q8 (g := gb358) (o := .cells #[.int .i64 t348, .int .i64 t349, .int .i64 t350, .int .i64 t351, .int .i64 t352] 28 (0, 0)) (by (with_reducible repeat (first | refine q5 ?_ _ | refine q6 ?_ | refine q7 ?_ _)); exact BK358.out) hb)
        have n2_ := qg (q8 (g := gb359) (o := .cells #[.int .i64 t353, .int .i64 t354, .int .i64 t355, .int .i64 t356, .int .i64 t357] 28 (0, 0)) (by (with_reducible repeat (first | refine q5 ?_ _ | refine q6 ?_ | refine q7 ?_ _)); exact BK359.out) hb)
        have n3_ := qg (q9 (by repeat (first | (with_reducible first | exact HB.out | apply q1 | apply q2 | apply q3 | refine q4 ?_ GE358.out | refine q4 ?_ GE359.out) | exact HB.out)) hb)
        clear HO_5
        clear BK358
        clear BK359
        clear HB
        have HO_5 := n0_
        have BK358 := n1_
        have BK359 := n2_
        have HB := n3_
        clear n0_ n1_ n2_ n3_
        (try clear hb)
        (try clear hb2)
        (try clear hk)
        (try clear hi)
        refine hK.out _ _ ⟨(qc BK358.out 0).trans rfl, (qc BK358.out 1).trans rfl, (qc BK358.out 2).trans rfl, (qc BK358.out 3).trans rfl, (qc BK358.out 4).trans rfl⟩ (fun hHeld => ?_)
        clear hK K
        refine norm_ (a' := ?_) ?_ ?_
        rotate_left
        ·show Act.put _ (some 94) _ = _
         simp only [Act.put, p1, p2, p3, i64_w, i32_w]
         rfl
        refine one_ (i := 3) (N := some 96) #[true, true, true, true, false] rfl rfl (by kernel_rfl) (by decide) (fun K hK => ?_)
        refine goes_ Try.func55 (by kernel_rfl) rfl #[.agg #[.int .i64 t348, .int .i64 t349, .int .i64 t350, .int .i64 t351, .int .i64 t352]] (by rfl) rfl rfl (by (try simp only [List.map_toArray, List.map_cons, List.map_nil]); first | done | rfl | (simp only [List.length_drop, List.length_take]; rfl)) ?_
        with_reducible refine (spec_IsJet.calls t348 t349 t350 t351 t352 t384 _ A150.out).mono ?_
        rintro e w169 ⟨rfl, hb⟩
        refine ⟨_, rfl, ?_⟩
        have n0_ := qg (qj (by (with_reducible repeat (first | apply qk | apply ql | apply qm)); exact HO_5.out) hb)
        have n1_ := qg (q8 (g := gb358) (o := .cells #[.int .i64 t348, .int .i64 t349, .int .i64 t350, .int .i64 t351, .int .i64 t352] 28 (0, 0)) (by (with_reducible repeat (first | refine q5 ?_ _ | refine q6 ?_ | refine q7 ?_ _)); exact BK358.out) hb)
        have n2_ := qg (q8 (g := gb359) (o := .cells #[.int .i64 t353, .int .i64 t354, .int .i64 t355, .int .i64 t356, .int .i64 t357] 28 (0, 0)) (by (with_reducible repeat (first | refine q5 ?_ _ | refine q6 ?_ | refine q7 ?_ _)); exact BK359.out) hb)
        have n3_ := qg (q9 (by repeat (first | (with_reducible first | exact HB.out | apply q1 | apply q2 | apply q3 | refine q4 ?_ GE358.out | refine q4 ?_ GE359.out) | exact HB.out)) hb)
        clear HO_5
        clear BK358
        clear BK359
        clear HB
        have HO_5 := n0_
        have BK358 := n1_
        have BK359 := n2_
        have HB := n3_
        clear n0_ n1_ n2_ n3_
        (try clear hb)
        (try clear hb2)
        (try clear hk)
        (try clear hi)
        refine hK.out _ _ ⟨(qc BK358.out 0).trans rfl, (qc BK358.out 1).trans rfl, (qc BK358.out 2).trans rfl, (qc BK358.out 3).trans rfl, (qc BK358.out 4).trans rfl⟩ (fun hHeld => ?_)
        clear hK K
        refine norm_ (a' := ?_) ?_ ?_
        rotate_left
        ·show Act.put _ (some 96) _ = _
         simp only [Act.put, p1, p2, p3, i64_w, i32_w]
         rfl
        refine pure_ (i := 4) (N := some 97) (v := ?_) (a' := ?_) #[true, true, true, true, true] rfl rfl (by kernel_rfl) (fun _ _ _ h => h) (Or.inl ⟨by rfl, ?_⟩) ?_ ?_
        rotate_left
        ·intro w'
         go_simp
         with_reducible rfl
        rotate_left
        ·simp only [Act.put, p1, p2, p3, i64_w, i32_w]
         rfl
        refine done_ (by kernel_rfl) ?_
        try go_wp2
        have n0_ := qg (qm HO_5.out)
        have n1_ := qg (q6 BK358.out)
        have n2_ := qg (q6 BK359.out)
        have n3_ := qg (q3 HB.out)
        clear HO_5
        clear BK358
        clear BK359
        clear HB
        have HO_5 := n0_
        have BK358 := n1_
        have BK359 := n2_
        have HB := n3_
        clear n0_ n1_ n2_ n3_
        refine start_ (n := 14) (S := fun w' => w'.cell? ⟨gb358, 0, none⟩ = some (.int .i64 t348) ∧ w'.cell? ⟨gb358, 1, none⟩ = some (.int .i64 t349) ∧ w'.cell? ⟨gb358, 2, none⟩ = some (.int .i64 t350) ∧ w'.cell? ⟨gb358, 3, none⟩ = some (.int .i64 t351) ∧ w'.cell? ⟨gb358, 4, none⟩ = some (.int .i64 t352)) (ds := []) #[false, false, false, false, false, false, false, false, false, false, false, false, false, false] (by kernel_rfl) rfl rfl ⟨(qc BK358.out 0).trans rfl, (qc BK358.out 1).trans rfl, (qc BK358.out 2).trans rfl, (qc BK358.out 3).trans rfl, (qc BK358.out 4).trans rfl⟩ (fun hHeld => ?_); refine with_tabW laws_FnMeet.tab16 laws_FnMeet.bits16 (fun HT_ HW_ => ?_)
        generalize w169.drew = w170 at HO_5 BK358 BK359 HB hHeld ⊢
        refine take_ (i := 0) (N := some 98) (v := ?_) (a' := ?_) #[true, false, false, false, false, false, false, false, false, false, false, false, false, false] rfl rfl (take_ofW HT_.out HW_.out (by kernel_rfl)) (fun _ _ _ h => h) (Or.inl ⟨by rfl, ?_⟩) hHeld ?_ ?_
        rotate_left
        ·rintro w' ⟨s0, s1, s2, s3, s4⟩
         go_simp
         with_reducible rfl
        rotate_left
        ·simp only [Act.put, p1, p2, p3, i64_w, i32_w]
         rfl
        refine one_ (i := 1) (N := some 99) #[true, true, false, false, false, false, false, false, false, false, false, false, false, false] rfl rfl (one_of HT_.out (by kernel_rfl)) (by decide) (fun K hK => ?_)
        refine goes_ Try.func54 (by kernel_rfl) rfl #[.agg #[.int .i64 t348, .int .i64 t349, .int .i64 t350, .int .i64 t351, .int .i64 t352]] (by rfl) rfl rfl (by (try simp only [List.map_toArray, List.map_cons, List.map_nil]); first | done | rfl | (simp only [List.length_drop, List.length_take]; rfl)) ?_
        with_reducible refine (impl_IsJet.calls t348 t349 t350 t351 t352 false _ A155.out).mono ?_
        rintro e w171 ⟨rfl, hb⟩
        refine ⟨_, rfl, ?_⟩
        have n0_ := qg (qj (by (with_reducible repeat (first | apply qk | apply ql | apply qm)); exact HO_5.out) hb)
        have n1_ := qg (q8 (g := gb358) (o := .cells #[.int .i64 t348, .int .i64 t349, .int .i64 t350, .int .i64 t351, .int .i64 t352] 28 (0, 0)) (by (with_reducible repeat (first | refine q5 ?_ _ | refine q6 ?_ | refine q7 ?_ _)); exact BK358.out) hb)
        have n2_ := qg (q8 (g := gb359) (o := .cells #[.int .i64 t353, .int .i64 t354, .int .i64 t355, .int .i64 t356, .int .i64 t357] 28 (0, 0)) (by (with_reducible repeat (first | refine q5 ?_ _ | refine q6 ?_ | refine q7 ?_ _)); exact BK359.out) hb)
        have n3_ := qg (q9 (by repeat (first | (with_reducible first | exact HB.out | apply q1 | apply q2 | apply q3 | refine q4 ?_ GE358.out | refine q4 ?_ GE359.out) | exact HB.out)) hb)
        clear HO_5
        clear BK358
        clear BK359
        clear HB
        have HO_5 := n0_
        have BK358 := n1_
        have BK359 := n2_
        have HB := n3_
        clear n0_ n1_ n2_ n3_
        (try clear hb)
        (try clear hb2)
        (try clear hk)
        (try clear hi)
        refine hK.out _ _ ⟨(qc BK358.out 0).trans rfl, (qc BK358.out 1).trans rfl, (qc BK358.out 2).trans rfl, (qc BK358.out 3).trans rfl, (qc BK358.out 4).trans rfl⟩ (fun hHeld => ?_)
        clear hK K
        refine norm_ (a' := ?_) ?_ ?_
        rotate_left
        ·show Act.put _ (some 99) _ = _
         simp only [Act.put, p1, p2, p3, i64_w, i32_w]
         rfl
        refine pure_ (i := 2) (N := some 100) (v := ?_) (a' := ?_) #[true, true, true, false, false, false, false, false, false, false, false, false, false, false] rfl rfl (any_of HT_.out (by kernel_rfl)) (fun _ _ _ h => h) (Or.inl ⟨by rfl, ?_⟩) ?_ ?_
        rotate_left
        ·intro w'
         go_simp
         with_reducible rfl
        rotate_left
        ·simp only [Act.put, p1, p2, p3, i64_w, i32_w]
         rfl
        refine pure_ (i := 3) (N := some 101) (v := ?_) (a' := ?_) #[true, true, true, true, false, false, false, false, false, false, false, false, false, false] rfl rfl (any_of HT_.out (by kernel_rfl)) (fun _ _ _ h => h) (Or.inl ⟨by rfl, ?_⟩) ?_ ?_
        rotate_left
        ·intro w'
         go_simp
         with_reducible rfl
        rotate_left
        ·simp only [Act.put, p1, p2, p3, i64_w, i32_w]
         rfl
        refine pure_ (i := 4) (N := some 102) (v := undef) (a' := ?_) #[true, true, true, true, true, false, false, false, false, false, false, false, false, false] rfl rfl (any_of HT_.out (by kernel_rfl)) (fun _ _ _ h => h) (Or.inr ⟨by rfl, rfl⟩) ?_ ?_
        rotate_left
        ·simp only [Act.put, p1, p2, p3, i64_w, i32_w]
         rfl
        refine pure_ (i := 5) (N := some 103) (v := undef) (a' := ?_) #[true, true, true, true, true, true, false, false, false, false, false, false, false, false] rfl rfl (any_of HT_.out (by kernel_rfl)) (fun _ _ _ h => h) (Or.inr ⟨by rfl, rfl⟩) ?_ ?_
        rotate_left
        ·simp only [Act.put, p1, p2, p3, i64_w, i32_w]
         rfl
        refine pure_ (i := 6) (N := some 104) (v := undef) (a' := ?_) #[true, true, true, true, true, true, true, false, false, false, false, false, false, false] rfl rfl (any_of HT_.out (by kernel_rfl)) (fun _ _ _ h => h) (Or.inr ⟨by rfl, rfl⟩) ?_ ?_
        rotate_left
        ·simp only [Act.put, p1, p2, p3, i64_w, i32_w]
         rfl
        refine pure_ (i := 7) (N := some 105) (v := undef) (a' := ?_) #[true, true, true, true, true, true, true, true, false, false, false, false, false, false] rfl rfl (any_of HT_.out (by kernel_rfl)) (fun _ _ _ h => h) (Or.inr ⟨by rfl, rfl⟩) ?_ ?_
        rotate_left
        ·simp only [Act.put, p1, p2, p3, i64_w, i32_w]
         rfl
        refine pure_ (i := 8) (N := some 106) (v := undef) (a' := ?_) #[true, true, true, true, true, true, true, true, true, false, false, false, false, false] rfl rfl (any_of HT_.out (by kernel_rfl)) (fun _ _ _ h => h) (Or.inr ⟨by rfl, rfl⟩) ?_ ?_
        rotate_left
        ·simp only [Act.put, p1, p2, p3, i64_w, i32_w]
         rfl
        refine pure_ (i := 9) (N := some 107) (v := undef) (a' := ?_) #[true, true, true, true, true, true, true, true, true, true, false, false, false, false] rfl rfl (any_of HT_.out (by kernel_rfl)) (fun _ _ _ h => h) (Or.inr ⟨by rfl, rfl⟩) ?_ ?_
        rotate_left
        ·simp only [Act.put, p1, p2, p3, i64_w, i32_w]
         rfl
        refine pure_ (i := 10) (N := some 108) (v := undef) (a' := ?_) #[true, true, true, true, true, true, true, true, true, true, true, false, false, false] rfl rfl (any_of HT_.out (by kernel_rfl)) (fun _ _ _ h => h) (Or.inr ⟨by rfl, rfl⟩) ?_ ?_
        rotate_left
        ·simp only [Act.put, p1, p2, p3, i64_w, i32_w]
         rfl
        refine pure_ (i := 11) (N := some 109) (v := undef) (a' := ?_) #[true, true, true, true, true, true, true, true, true, true, true, true, false, false] rfl rfl (any_of HT_.out (by kernel_rfl)) (fun _ _ _ h => h) (Or.inr ⟨by rfl, rfl⟩) ?_ ?_
        rotate_left
        ·simp only [Act.put, p1, p2, p3, i64_w, i32_w]
         rfl
        refine pure_ (i := 12) (N := some 110) (v := ?_) (a' := ?_) #[true, true, true, true, true, true, true, true, true, true, true, true, true, false] rfl rfl (any_of HT_.out (by kernel_rfl)) (fun _ _ _ h => h) (Or.inl ⟨by rfl, ?_⟩) ?_ ?_
        rotate_left
        ·intro w'
         go_simp
         with_reducible rfl
        rotate_left
        ·simp only [Act.put, p1, p2, p3, i64_w, i32_w]
         rfl
        refine pure_ (i := 13) (N := some 2) (v := ?_) (a' := ?_) #[true, true, true, true, true, true, true, true, true, true, true, true, true, true] rfl rfl (any_of HT_.out (by kernel_rfl)) (fun _ _ _ h => h) (Or.inl ⟨by rfl, ?_⟩) ?_ ?_
        rotate_left
        ·intro w'
         go_simp
         with_reducible rfl
        rotate_left
        ·simp only [Act.put, p1, p2, p3, i64_w, i32_w]
         rfl
        refine done_ (done_of HT_.out (by kernel_rfl)) ?_
        try go_wp2
        go_ret
        exact ⟨by first | rfl | (simp [errW_none, errW_some] <;> rfl) | (simp [*, errW_none, errW_some] <;> rfl), by repeat (first | (with_reducible first | exact HB.out | apply q1 | apply q2 | apply q3 | refine q4 ?_ GE358.out | refine q4 ?_ GE359.out) | exact HB.out)⟩
  ·replace c8 := Bool.eq_false_iff.mpr c8
   subst c8
   have H1 : (some false) = some r := by rw [if_neg (show ¬ (false = true) by decide)] at H; exact H
   clear H
   have H := H1
   clear H1
   obtain rfl := Option.some.inj H
   exact absurd HR.out (by decide)

/-- THE ONE PURE STATEMENT of laws_FnMeet: yours. -/
def laws_FnMeet.Pure : Prop := ∀ (l0 : List Int), l0.length ≤ maxLen → l0.length * 1 ≤ 140737488351232 → (∀ x ∈ l0, (Lit.int .u8 x).wf = true) → ∃ k, laws_FnMeet.f k l0 = some true
theorem laws_FnMeet.walk (P : laws_FnMeet.Pure) (a0 : Option Addr) (len0 cap0 : Nat) (z0 : List Int) (w : World) (w0 : (a0 = none ∧ len0 = 0 ∧ cap0 = 0 ∧ z0 = []) ∨ ∃ x, a0 = some x ∧ len0 ≤ cap0 ∧ cap0 ≤ maxLen ∧ z0.length = cap0 ∧ (∀ i, i < z0.length → w.cell? (x.add i) = some (.int .u8 (z0.getD i 0))) ∧ ∀ n ∈ z0, (Lit.int .u8 n).wf = true) (y0 : len0 * 1 ≤ 140737488351232) :
 Calls Try.prog 13 #[.slice a0 len0 cap0] w fun e w' => e = .returned (.bool true) ∧ Below w.heap.size w w' := by
 obtain ⟨l0, rfl, hr0, hm0, hw0, hc0⟩ := ReadsInt.ofRowC w0
 obtain ⟨k, h⟩ := P l0 hm0 y0 hw0
 refine (laws_FnMeet.calls k _ _ l0 true w (Kd.C_of_reads (d := (0 : Int)) (h1 := fun _ => rfl) hr0) hc0 h rfl).mono ?_
 rintro e w' ⟨rfl, hd⟩
 exact ⟨rfl, hd⟩

end Go.Proofs.Ytlmgokicanlcpaa.PFnMeet
