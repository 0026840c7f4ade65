/- The walk of the law FnMovedJet at the answer true: where its plain function answers true, the Go function returns true and leaves what was there. No condition beside. By program out of the print. -/
import Derived.Test.YtlmgokicanlcpaaPFnMovedJetx
namespace Go.Proofs.Ytlmgokicanlcpaa.PFnMovedJet
open Go.RowKit Go.Proofs.YtlmgokicanlcpaaW.PrintWords Go.Proofs.YtlmgokicanlcpaaW.PrintLast Go.Proofs.YtlmgokicanlcpaaW.PrintMore
attribute [local go_sem] max2_int min2_int max_two min_two max_three min_three max_four min_four   -- for this text's walks alone
set_option linter.unusedVariables false
set_option linter.unusedSimpArgs false
theorem eqA26 (d : Nat) (w : World) (x0 y0 : Int) (x1 y1 : Int) :
    (Op.equalIn (d + 2) 26 (.agg #[.int .i64 x0, .int .i64 x1]) (.agg #[.int .i64 y0, .int .i64 y1])).run Try.prog w = .ok (x0 == y0 && (x1 == y1)) w := by
  refine eqA_of Try.underlying26 (by kernel_rfl) ?_
  refine eqf_cons (by rfl) (by go_simp; rfl) (by go_simp; rfl) (by go_simp) ?_
  exact eqf_last (by rfl) (by go_simp; rfl) (by go_simp; rfl) (by go_simp)
theorem eqA28 (d : Nat) (w : World) (x0 y0 : Int) (x1 y1 : Int) (x2 y2 : Int) (x3 y3 : Int) (x4 y4 : Int) :
    (Op.equalIn (d + 3) 28 (.agg #[.int .i64 x0, .int .i64 x1, .int .i64 x2, .int .i64 x3, .int .i64 x4]) (.agg #[.int .i64 y0, .int .i64 y1, .int .i64 y2, .int .i64 y3, .int .i64 y4])).run Try.prog w = .ok ((x0 == y0 && (x1 == y1)) && (x2 == y2 && (x3 == y3 && (x4 == y4)))) w := by
  refine eqA_of Try.underlying28 (by kernel_rfl) ?_
  refine eqf_cons (by rfl) (by go_simp) (by go_simp) (eqA26 (d + 0) w _ _ _ _) ?_
  refine eqf_cons (by rfl) (by go_simp; rfl) (by go_simp; rfl) (by go_simp) ?_
  refine eqf_cons (by rfl) (by go_simp; rfl) (by go_simp; rfl) (by go_simp) ?_
  exact eqf_last (by rfl) (by go_simp; rfl) (by go_simp; rfl) (by go_simp)
attribute [local go_sem high] eqA26 eqA28

def laws_FnMovedJet.l0 : Nat → Int → Bool → Int → Int → Int → Int → Int → Int → Int → Int → Int → Int → Int → Int → Int → Int → Int → Int → Int → Int → Option (Bool)
  | 0, _, _, _, _, _, _, _, _, _, _, _, _, _, _, _, _, _, _, _, _ => none
  | k + 1, x4, x9, x10, x349000, x349001, x349002, x349003, x349004, x358000, x358001, x372000, x372001, x372002, x372003, x372004, x379000, x379001, x379002, x379003, x379004 => (impl_FlightOf.f x349000 x349001 x349002 x349003 x349004).bind fun t379 => (if x10 ≤ t379 then ((impl_PlaceAt.f k x349000 x349001 x349002 x349003 x349004 x10).bind fun bt382 => ((impl_PlaceAt.f k x372000 x372001 x372002 x372003 x372004 x10).bind fun bt386 => ((impl_PlaceAt.f k x379000 x379001 x379002 x379003 x379004 x10).bind fun bt390 => ((impl_TurnPlace.f k bt382.1 bt382.2.1 x4).bind fun bt394 => (if (!(bt386.1 == bt394.1) || (!(bt386.2.1 == bt394.2))) = true then (some false) else ((impl_HeightAt.f x349000 x349001 x349002 x349003 x349004 x10).bind fun t396 => ((impl_HeightAt.f x372000 x372001 x372002 x372003 x372004 x10).bind fun t397 => (if t396 = t397 then (if x9 = true then (if bt390.2.2 = true then ((laws_plus.f bt382.1 bt382.2.1 x358000 x358001).bind fun bt398 => (if (!(bt390.1 == bt398.1) || (!(bt390.2.1 == bt398.2))) = true then (some false) else (laws_FnMovedJet.l0 k x4 x9 (wrap64 (x10 + 1)) x349000 x349001 x349002 x349003 x349004 x358000 x358001 x372000 x372001 x372002 x372003 x372004 x379000 x379001 x379002 x379003 x379004))) else (some false)) else (laws_FnMovedJet.l0 k x4 x9 (wrap64 (x10 + 1)) x349000 x349001 x349002 x349003 x349004 x358000 x358001 x372000 x372001 x372002 x372003 x372004 x379000 x379001 x379002 x379003 x379004)) else (some false))))))))) else ((impl_IsJet.f x372000 x372001 x372002 x372003 x372004).bind fun t380 => (if t380 = true then (if x9 = true then ((impl_IsJet.f x379000 x379001 x379002 x379003 x379004).bind fun t381 => (some t381)) else (some true)) else (some false))))
def laws_FnMovedJet.f (k : Nat) (l0 : List Int) : Option (Bool) := (laws_big.f l0).bind fun t341 => (if t341 = true then (some true) else ((spec_DrawTurnJet.f k l0).bind fun bt342 => ((spec_DrawShiftJet.f k l0).bind fun bt349 => ((impl_IsJet.f bt342.1 bt342.2.1 bt342.2.2.1 bt342.2.2.2.1 bt342.2.2.2.2.1).bind fun t358 => ((spec_IsJet.f bt342.1 bt342.2.1 bt342.2.2.1 bt342.2.2.2.1 bt342.2.2.2.2.1).bind fun t359 => (if (t358 != t359) = true then (some false) else ((impl_IsJet.f bt342.1 bt342.2.1 bt342.2.2.1 bt342.2.2.2.1 bt342.2.2.2.2.1).bind fun t360 => (if t360 = true then ((impl_TurnJet.f k bt342.1 bt342.2.1 bt342.2.2.1 bt342.2.2.2.1 bt342.2.2.2.2.1 bt342.2.2.2.2.2).bind fun bt366 => ((impl_ShiftJet.f bt342.1 bt342.2.1 bt342.2.2.1 bt342.2.2.2.1 bt342.2.2.2.2.1 bt349.2.2.2.2.2.1 bt349.2.2.2.2.2.2).bind fun bt372 => (laws_FnMovedJet.l0 k bt342.2.2.2.2.2 bt372.2.2.2.2.2 0 bt342.1 bt342.2.1 bt342.2.2.1 bt342.2.2.2.1 bt342.2.2.2.2.1 bt349.2.2.2.2.2.1 bt349.2.2.2.2.2.2 bt366.1 bt366.2.1 bt366.2.2.1 bt366.2.2.2.1 bt366.2.2.2.2 bt372.1 bt372.2.1 bt372.2.2.1 bt372.2.2.2.1 bt372.2.2.2.2.1))) else ((impl_TurnJet.f k bt342.1 bt342.2.1 bt342.2.2.1 bt342.2.2.2.1 bt342.2.2.2.2.1 bt342.2.2.2.2.2).bind fun bt361 => (some ((bt361.1 == 0 && (bt361.2.1 == 0)) && (bt361.2.2.1 == 0 && (bt361.2.2.2.1 == 0 && (bt361.2.2.2.2 == 0))))))))))))))
theorem laws_FnMovedJet.mono_l : ∀ k, (∀ y0 y1 y2 y3 y4 y5 y6 y7 y8 y9 y10 y11 y12 y13 y14 y15 y16 y17 y18 y19, LeO (laws_FnMovedJet.l0 k y0 y1 y2 y3 y4 y5 y6 y7 y8 y9 y10 y11 y12 y13 y14 y15 y16 y17 y18 y19) (laws_FnMovedJet.l0 (k + 1) y0 y1 y2 y3 y4 y5 y6 y7 y8 y9 y10 y11 y12 y13 y14 y15 y16 y17 y18 y19))
  | 0 => fun _ _ _ _ _ _ _ _ _ _ _ _ _ _ _ _ _ _ _ _ r h => by simp [laws_FnMovedJet.l0] at h
  | k + 1 => by
    have ih0 := laws_FnMovedJet.mono_l k
    · intro y0 y1 y2 y3 y4 y5 y6 y7 y8 y9 y10 y11 y12 y13 y14 y15 y16 y17 y18 y19
      unfold laws_FnMovedJet.l0
      repeat' first
      | (with_reducible exact ih0 _ _ _ _ _ _ _ _ _ _ _ _ _ _ _ _ _ _ _ _)
      | (with_reducible exact impl_PlaceAt.mono _ _ _ _ _ _ _)
      | (with_reducible exact impl_TurnJet.mono _ _ _ _ _ _ _)
      | (with_reducible exact impl_TurnPlace.mono _ _ _ _)
      | (with_reducible exact spec_DrawShiftJet.mono _ _)
      | (with_reducible exact spec_DrawTurnJet.mono _ _)
      | (with_reducible exact LeO.refl _)
      | (with_reducible exact LeO.none _)
      | (with_reducible refine LeO.ite ?_ ?_)
      | (with_reducible refine LeO.bind ?_ (fun _ => ?_))
      | exact ih0 _ _ _ _ _ _ _ _ _ _ _ _ _ _ _ _ _ _ _ _
      | exact impl_PlaceAt.mono _ _ _ _ _ _ _
      | exact impl_TurnJet.mono _ _ _ _ _ _ _
      | exact impl_TurnPlace.mono _ _ _ _
      | exact spec_DrawShiftJet.mono _ _
      | exact spec_DrawTurnJet.mono _ _
      | exact LeO.none _
      | refine LeO.ite ?_ ?_
      | refine LeO.bind ?_ (fun _ => ?_)
theorem laws_FnMovedJet.mono : ∀ a0 k, LeO (laws_FnMovedJet.f k a0) (laws_FnMovedJet.f (k + 1) a0) := by
  intro a0 k
  have ih0 := laws_FnMovedJet.mono_l k
  unfold laws_FnMovedJet.f
  repeat' first
      | (with_reducible exact ih0 _ _ _ _ _ _ _ _ _ _ _ _ _ _ _ _ _ _ _ _)
      | (with_reducible exact impl_PlaceAt.mono _ _ _ _ _ _ _)
      | (with_reducible exact impl_TurnJet.mono _ _ _ _ _ _ _)
      | (with_reducible exact impl_TurnPlace.mono _ _ _ _)
      | (with_reducible exact spec_DrawShiftJet.mono _ _)
      | (with_reducible exact spec_DrawTurnJet.mono _ _)
      | (with_reducible exact LeO.refl _)
      | (with_reducible exact LeO.none _)
      | (with_reducible refine LeO.ite ?_ ?_)
      | (with_reducible refine LeO.bind ?_ (fun _ => ?_))
      | exact ih0 _ _ _ _ _ _ _ _ _ _ _ _ _ _ _ _ _ _ _ _
      | exact impl_PlaceAt.mono _ _ _ _ _ _ _
      | exact impl_TurnJet.mono _ _ _ _ _ _ _
      | exact impl_TurnPlace.mono _ _ _ _
      | exact spec_DrawShiftJet.mono _ _
      | exact spec_DrawTurnJet.mono _ _
      | exact LeO.none _
      | refine LeO.ite ?_ ?_
      | refine LeO.bind ?_ (fun _ => ?_)
def laws_FnMovedJet.T17 : Bool × List (List Nat × List Nat) := (true, [([], []), ([], []), ([], []), ([1, 2], [1, 2]), ([0, 3], [0, 3]), ([4, 3], [4]), ([5], [5]), ([5], [5]), ([6, 7, 5, 5], [5, 6, 7]), ([5], [5]), ([5], [5]), ([9, 10, 8, 5], [5, 9, 10]), ([8, 11, 5], [5, 8, 11]), ([5, 12], [5, 12]), ([13, 11], [13]), ([14], [14]), ([15, 14, 14], [14, 15]), ([16], [16]), ([17, 16], [16, 17]), ([18, 16, 16], [16, 18]), ([19], [19]), ([19], [19]), ([19], [19]), ([21, 22, 19, 19], [19, 21, 22]), ([20, 23, 19], [19, 20, 23]), ([19, 24, 16], [16, 19, 24]), ([16, 25, 14], [14, 16, 25]), ([14, 26], [14, 26])])
def laws_FnMovedJet.B17 : List Nat := [0, 0, 0, 6, 15, 31, 63, 63, 255, 63, 63, 2047, 4095, 8191, 16383, 32767, 65535, 131071, 262143, 524287, 1048575, 1048575, 1048575, 7340031, 16777215, 33554431, 67108863, 134217727]
theorem laws_FnMovedJet.tab17 : rtab .any (opsOf Try.f14 17) = laws_FnMovedJet.T17 := by kernel_rfl
theorem laws_FnMovedJet.bits17 : waitsOk laws_FnMovedJet.T17.2 laws_FnMovedJet.B17 = true := by kernel_rfl
theorem p1 : type_of% @List.setIfInBounds_toArray := @List.setIfInBounds_toArray
theorem p2 : type_of% @List.set_cons_zero := @List.set_cons_zero
theorem p3 : type_of% @List.set_cons_succ := @List.set_cons_succ
theorem q1 : type_of% @below_alloc := @below_alloc
theorem q2 : type_of% @pw_below_drewN := @pw_below_drewN
theorem q3 : type_of% @below_drew1 := @below_drew1
theorem q4 : type_of% @below_set := @below_set
theorem q5 : type_of% @blk_drewN := @blk_drewN
theorem q6 : type_of% @blk_drew := @blk_drew
theorem q7 : type_of% @blk_alloc := @blk_alloc
theorem q8 : type_of% @blk_below := @blk_below
theorem q9 : type_of% @below_step := @below_step
theorem qa : type_of% @below_size := @below_size
theorem qb : type_of% @blk_frozen := @blk_frozen
theorem qc : type_of% @blk_cell := @blk_cell
theorem qd : type_of% @blk_lt := @blk_lt
theorem qe : type_of% @blk_far := @blk_far
theorem qf : type_of% @blk_put := @blk_put
theorem qg : type_of% @Aside0.mk := @Aside0.mk
theorem qh : type_of% @box_event := @box_event
theorem qn : type_of% @Kd.C_below := @Kd.C_below
theorem qo : type_of% @Kd.C_alloc := @Kd.C_alloc
theorem qr : type_of% @Kd.C_drewN := @Kd.C_drewN
theorem qs : type_of% @Kd.C_drew := @Kd.C_drew
theorem qt : type_of% @gate_callee := @gate_callee
theorem qu : type_of% @gate_dst := @gate_dst
theorem qv : type_of% @Nat.ne_of_lt := @Nat.ne_of_lt
theorem qw : type_of% @Nat.ne_of_gt := @Nat.ne_of_gt
set_option maxHeartbeats 8000000 in
set_option maxRecDepth 100000 in
theorem laws_FnMovedJet.calls (k : Nat) (A0 : Option Addr) (c0 : Nat) (l0 : List Int) (r : Bool) (w : World) (hr0 : Kd.C (Kd.int .u8) w A0 l0.length l0) (hc0 : l0.length ≤ c0) (h : laws_FnMovedJet.f k l0 = some r) (hr : r = true) :
 Calls Try.prog 14 #[.slice A0 l0.length c0] w fun e w' => e = .returned (.bool r) ∧ Below w.heap.size w w' := by
 have HR := qg hr
 clear hr
 have hu28 := Try.underlying28
 have hu26 := Try.underlying26
 have HR0 := qg hr0
 have HC0 := qg hc0
 clear hr0 hc0
 have HB := qg (Below.refl w.heap.size w)
 have H : ((laws_big.f l0).bind fun t341 => (if t341 = true then (some true) else ((spec_DrawTurnJet.f k l0).bind fun bt342 => ((spec_DrawShiftJet.f k l0).bind fun bt349 => ((impl_IsJet.f bt342.1 bt342.2.1 bt342.2.2.1 bt342.2.2.2.1 bt342.2.2.2.2.1).bind fun t358 => ((spec_IsJet.f bt342.1 bt342.2.1 bt342.2.2.1 bt342.2.2.2.1 bt342.2.2.2.2.1).bind fun t359 => (if (t358 != t359) = true then (some false) else ((impl_IsJet.f bt342.1 bt342.2.1 bt342.2.2.1 bt342.2.2.2.1 bt342.2.2.2.2.1).bind fun t360 => (if t360 = true then ((impl_TurnJet.f k bt342.1 bt342.2.1 bt342.2.2.1 bt342.2.2.2.1 bt342.2.2.2.2.1 bt342.2.2.2.2.2).bind fun bt366 => ((impl_ShiftJet.f bt342.1 bt342.2.1 bt342.2.2.1 bt342.2.2.2.1 bt342.2.2.2.2.1 bt349.2.2.2.2.2.1 bt349.2.2.2.2.2.2).bind fun bt372 => (laws_FnMovedJet.l0 k bt342.2.2.2.2.2 bt372.2.2.2.2.2 0 bt342.1 bt342.2.1 bt342.2.2.1 bt342.2.2.2.1 bt342.2.2.2.2.1 bt349.2.2.2.2.2.1 bt349.2.2.2.2.2.2 bt366.1 bt366.2.1 bt366.2.2.1 bt366.2.2.2.1 bt366.2.2.2.2 bt372.1 bt372.2.1 bt372.2.2.1 bt372.2.2.2.1 bt372.2.2.2.2.1))) else ((impl_TurnJet.f k bt342.1 bt342.2.1 bt342.2.2.1 bt342.2.2.2.1 bt342.2.2.2.2.1 bt342.2.2.2.2.2).bind fun bt361 => (some ((bt361.1 == 0 && (bt361.2.1 == 0)) && (bt361.2.2.1 == 0 && (bt361.2.2.2.1 == 0 && (bt361.2.2.2.2 == 0))))))))))))))) = some r := h
 clear h
 replace H := Option.bind_eq_some_iff.mp H
 obtain ⟨t341, A20, H⟩ := H
 replace H : (if t341 = true then (some true) else ((spec_DrawTurnJet.f k l0).bind fun bt342 => ((spec_DrawShiftJet.f k l0).bind fun bt349 => ((impl_IsJet.f bt342.1 bt342.2.1 bt342.2.2.1 bt342.2.2.2.1 bt342.2.2.2.2.1).bind fun t358 => ((spec_IsJet.f bt342.1 bt342.2.1 bt342.2.2.1 bt342.2.2.2.1 bt342.2.2.2.2.1).bind fun t359 => (if (t358 != t359) = true then (some false) else ((impl_IsJet.f bt342.1 bt342.2.1 bt342.2.2.1 bt342.2.2.2.1 bt342.2.2.2.2.1).bind fun t360 => (if t360 = true then ((impl_TurnJet.f k bt342.1 bt342.2.1 bt342.2.2.1 bt342.2.2.2.1 bt342.2.2.2.2.1 bt342.2.2.2.2.2).bind fun bt366 => ((impl_ShiftJet.f bt342.1 bt342.2.1 bt342.2.2.1 bt342.2.2.2.1 bt342.2.2.2.2.1 bt349.2.2.2.2.2.1 bt349.2.2.2.2.2.2).bind fun bt372 => (laws_FnMovedJet.l0 k bt342.2.2.2.2.2 bt372.2.2.2.2.2 0 bt342.1 bt342.2.1 bt342.2.2.1 bt342.2.2.2.1 bt342.2.2.2.2.1 bt349.2.2.2.2.2.1 bt349.2.2.2.2.2.2 bt366.1 bt366.2.1 bt366.2.2.1 bt366.2.2.2.1 bt366.2.2.2.2 bt372.1 bt372.2.1 bt372.2.2.1 bt372.2.2.2.1 bt372.2.2.2.2.1))) else ((impl_TurnJet.f k bt342.1 bt342.2.1 bt342.2.2.1 bt342.2.2.2.1 bt342.2.2.2.2.1 bt342.2.2.2.2.2).bind fun bt361 => (some ((bt361.1 == 0 && (bt361.2.1 == 0)) && (bt361.2.2.1 == 0 && (bt361.2.2.2.1 == 0 && (bt361.2.2.2.2 == 0)))))))))))))) = some r := H
 have A2 := qg A20
 clear A20
 by_cases c3 : t341 = true
 ·subst c3
  have H1 : (some true) = some r := by rw [if_pos rfl] at H; exact H
  clear H
  have H := H1
  clear H1
  obtain rfl := Option.some.inj H
  go_enter Try.func14, Try.ntmps14
  go_wp2_with (first | ((with_reducible refine qt (f := 50) rfl ?_); refine goesL_ (some 18) rfl rfl Try.func50 (by kernel_rfl) rfl #[.slice A0 l0.length c0] rfl (by (try simp only [List.map_toArray, List.map_cons, List.map_nil]); first | done | rfl | (simp only [List.length_drop, List.length_take]; rfl)) ?_; (with_reducible refine (laws_big.calls _ _ l0 true _ ?side1 ?side2 A2.out).mono ?_); (case side1 => repeat (first | exact HR0.out | (with_reducible refine qo ?_ _) | (with_reducible refine qr ?_ _) | (with_reducible refine qs ?_))); (case side2 => exact HC0.out); rintro e w' ⟨rfl, ⟨nd, rfl⟩⟩; refine ⟨_, rfl, ?_⟩))
  go_ret
  exact ⟨by first | rfl | (simp [errW_none, errW_some] <;> rfl) | (simp [*, errW_none, errW_some] <;> rfl), by repeat (first | (with_reducible first | exact HB.out | apply q1 | apply q2 | apply q3) | exact HB.out)⟩
 ·replace c3 := Bool.eq_false_iff.mpr c3
  subst c3
  have H1 : ((spec_DrawTurnJet.f k l0).bind fun bt342 => ((spec_DrawShiftJet.f k l0).bind fun bt349 => ((impl_IsJet.f bt342.1 bt342.2.1 bt342.2.2.1 bt342.2.2.2.1 bt342.2.2.2.2.1).bind fun t358 => ((spec_IsJet.f bt342.1 bt342.2.1 bt342.2.2.1 bt342.2.2.2.1 bt342.2.2.2.2.1).bind fun t359 => (if (t358 != t359) = true then (some false) else ((impl_IsJet.f bt342.1 bt342.2.1 bt342.2.2.1 bt342.2.2.2.1 bt342.2.2.2.2.1).bind fun t360 => (if t360 = true then ((impl_TurnJet.f k bt342.1 bt342.2.1 bt342.2.2.1 bt342.2.2.2.1 bt342.2.2.2.2.1 bt342.2.2.2.2.2).bind fun bt366 => ((impl_ShiftJet.f bt342.1 bt342.2.1 bt342.2.2.1 bt342.2.2.2.1 bt342.2.2.2.2.1 bt349.2.2.2.2.2.1 bt349.2.2.2.2.2.2).bind fun bt372 => (laws_FnMovedJet.l0 k bt342.2.2.2.2.2 bt372.2.2.2.2.2 0 bt342.1 bt342.2.1 bt342.2.2.1 bt342.2.2.2.1 bt342.2.2.2.2.1 bt349.2.2.2.2.2.1 bt349.2.2.2.2.2.2 bt366.1 bt366.2.1 bt366.2.2.1 bt366.2.2.2.1 bt366.2.2.2.2 bt372.1 bt372.2.1 bt372.2.2.1 bt372.2.2.2.1 bt372.2.2.2.2.1))) else ((impl_TurnJet.f k bt342.1 bt342.2.1 bt342.2.2.1 bt342.2.2.2.1 bt342.2.2.2.2.1 bt342.2.2.2.2.2).bind fun bt361 => (some ((bt361.1 == 0 && (bt361.2.1 == 0)) && (bt361.2.2.1 == 0 && (bt361.2.2.2.1 == 0 && (bt361.2.2.2.2 == 0))))))))))))) = some r := by rw [if_neg (show ¬ (false = true) by decide)] at H; exact H
  clear H
  have H := H1
  clear H1
  replace H := Option.bind_eq_some_iff.mp H
  obtain ⟨⟨t342, t343, t344, t345, t346, t347⟩, A40, H⟩ := H
  replace H : ((spec_DrawShiftJet.f k l0).bind fun bt349 => ((impl_IsJet.f t342 t343 t344 t345 t346).bind fun t358 => ((spec_IsJet.f t342 t343 t344 t345 t346).bind fun t359 => (if (t358 != t359) = true then (some false) else ((impl_IsJet.f t342 t343 t344 t345 t346).bind fun t360 => (if t360 = true then ((impl_TurnJet.f k t342 t343 t344 t345 t346 t347).bind fun bt366 => ((impl_ShiftJet.f t342 t343 t344 t345 t346 bt349.2.2.2.2.2.1 bt349.2.2.2.2.2.2).bind fun bt372 => (laws_FnMovedJet.l0 k t347 bt372.2.2.2.2.2 0 t342 t343 t344 t345 t346 bt349.2.2.2.2.2.1 bt349.2.2.2.2.2.2 bt366.1 bt366.2.1 bt366.2.2.1 bt366.2.2.2.1 bt366.2.2.2.2 bt372.1 bt372.2.1 bt372.2.2.1 bt372.2.2.2.1 bt372.2.2.2.2.1))) else ((impl_TurnJet.f k t342 t343 t344 t345 t346 t347).bind fun bt361 => (some ((bt361.1 == 0 && (bt361.2.1 == 0)) && (bt361.2.2.1 == 0 && (bt361.2.2.2.1 == 0 && (bt361.2.2.2.2 == 0)))))))))))) = some r := H
  have A4 := qg A40
  clear A40
  replace H := Option.bind_eq_some_iff.mp H
  obtain ⟨⟨t349, t350, t351, t352, t353, t354, t355⟩, A50, H⟩ := H
  replace H : ((impl_IsJet.f t342 t343 t344 t345 t346).bind fun t358 => ((spec_IsJet.f t342 t343 t344 t345 t346).bind fun t359 => (if (t358 != t359) = true then (some false) else ((impl_IsJet.f t342 t343 t344 t345 t346).bind fun t360 => (if t360 = true then ((impl_TurnJet.f k t342 t343 t344 t345 t346 t347).bind fun bt366 => ((impl_ShiftJet.f t342 t343 t344 t345 t346 t354 t355).bind fun bt372 => (laws_FnMovedJet.l0 k t347 bt372.2.2.2.2.2 0 t342 t343 t344 t345 t346 t354 t355 bt366.1 bt366.2.1 bt366.2.2.1 bt366.2.2.2.1 bt366.2.2.2.2 bt372.1 bt372.2.1 bt372.2.2.1 bt372.2.2.2.1 bt372.2.2.2.2.1))) else ((impl_TurnJet.f k t342 t343 t344 t345 t346 t347).bind fun bt361 => (some ((bt361.1 == 0 && (bt361.2.1 == 0)) && (bt361.2.2.1 == 0 && (bt361.2.2.2.1 == 0 && (bt361.2.2.2.2 == 0))))))))))) = some r := H
  have A5 := qg A50
  clear A50
  replace H := Option.bind_eq_some_iff.mp H
  obtain ⟨t358, A60, H⟩ := H
  replace H : ((spec_IsJet.f t342 t343 t344 t345 t346).bind fun t359 => (if (t358 != t359) = true then (some false) else ((impl_IsJet.f t342 t343 t344 t345 t346).bind fun t360 => (if t360 = true then ((impl_TurnJet.f k t342 t343 t344 t345 t346 t347).bind fun bt366 => ((impl_ShiftJet.f t342 t343 t344 t345 t346 t354 t355).bind fun bt372 => (laws_FnMovedJet.l0 k t347 bt372.2.2.2.2.2 0 t342 t343 t344 t345 t346 t354 t355 bt366.1 bt366.2.1 bt366.2.2.1 bt366.2.2.2.1 bt366.2.2.2.2 bt372.1 bt372.2.1 bt372.2.2.1 bt372.2.2.2.1 bt372.2.2.2.2.1))) else ((impl_TurnJet.f k t342 t343 t344 t345 t346 t347).bind fun bt361 => (some ((bt361.1 == 0 && (bt361.2.1 == 0)) && (bt361.2.2.1 == 0 && (bt361.2.2.2.1 == 0 && (bt361.2.2.2.2 == 0)))))))))) = some r := H
  have A6 := qg A60
  clear A60
  replace H := Option.bind_eq_some_iff.mp H
  obtain ⟨t359, A70, H⟩ := H
  replace H : (if (t358 != t359) = true then (some false) else ((impl_IsJet.f t342 t343 t344 t345 t346).bind fun t360 => (if t360 = true then ((impl_TurnJet.f k t342 t343 t344 t345 t346 t347).bind fun bt366 => ((impl_ShiftJet.f t342 t343 t344 t345 t346 t354 t355).bind fun bt372 => (laws_FnMovedJet.l0 k t347 bt372.2.2.2.2.2 0 t342 t343 t344 t345 t346 t354 t355 bt366.1 bt366.2.1 bt366.2.2.1 bt366.2.2.2.1 bt366.2.2.2.2 bt372.1 bt372.2.1 bt372.2.2.1 bt372.2.2.2.1 bt372.2.2.2.2.1))) else ((impl_TurnJet.f k t342 t343 t344 t345 t346 t347).bind fun bt361 => (some ((bt361.1 == 0 && (bt361.2.1 == 0)) && (bt361.2.2.1 == 0 && (bt361.2.2.2.1 == 0 && (bt361.2.2.2.2 == 0))))))))) = some r := H
  have A7 := qg A70
  clear A70
  by_cases c8 : (t358 != t359) = true
  ·rw [if_pos c8] at H
   have c8b0 : (t358 != t359) = true := c8
   (try (have c8b1 : decide (t358 = t359) = false := by simpa using c8))
   (try (have c8b2 : (t358 == t359) = false := by simpa using c8))
   (try (have c8b3 : ¬ (t358 = t359) := by simpa using c8))
   clear c8
   obtain rfl := Option.some.inj H
   exact absurd HR.out (by decide)
  ·rw [if_neg c8] at H
   have c8b0 : (t358 != t359) = false := by simpa using c8
   (try (have c8b1 : decide (t358 = t359) = true := by simpa using c8))
   (try (have c8b2 : (t358 == t359) = true := by simpa using c8))
   clear c8
   replace H := Option.bind_eq_some_iff.mp H
   obtain ⟨t360, A240, H⟩ := H
   replace H : (if t360 = true then ((impl_TurnJet.f k t342 t343 t344 t345 t346 t347).bind fun bt366 => ((impl_ShiftJet.f t342 t343 t344 t345 t346 t354 t355).bind fun bt372 => (laws_FnMovedJet.l0 k t347 bt372.2.2.2.2.2 0 t342 t343 t344 t345 t346 t354 t355 bt366.1 bt366.2.1 bt366.2.2.1 bt366.2.2.2.1 bt366.2.2.2.2 bt372.1 bt372.2.1 bt372.2.2.1 bt372.2.2.2.1 bt372.2.2.2.2.1))) else ((impl_TurnJet.f k t342 t343 t344 t345 t346 t347).bind fun bt361 => (some ((bt361.1 == 0 && (bt361.2.1 == 0)) && (bt361.2.2.1 == 0 && (bt361.2.2.2.1 == 0 && (bt361.2.2.2.2 == 0))))))) = some r := H
   have A24 := qg A240
   clear A240
   by_cases c25 : t360 = true
   ·subst c25
    have H1 : ((impl_TurnJet.f k t342 t343 t344 t345 t346 t347).bind fun bt366 => ((impl_ShiftJet.f t342 t343 t344 t345 t346 t354 t355).bind fun bt372 => (laws_FnMovedJet.l0 k t347 bt372.2.2.2.2.2 0 t342 t343 t344 t345 t346 t354 t355 bt366.1 bt366.2.1 bt366.2.2.1 bt366.2.2.2.1 bt366.2.2.2.2 bt372.1 bt372.2.1 bt372.2.2.1 bt372.2.2.2.1 bt372.2.2.2.2.1))) = some r := by rw [if_pos rfl] at H; exact H
    clear H
    have H := H1
    clear H1
    replace H := Option.bind_eq_some_iff.mp H
    obtain ⟨⟨t366, t367, t368, t369, t370⟩, A260, H⟩ := H
    replace H : ((impl_ShiftJet.f t342 t343 t344 t345 t346 t354 t355).bind fun bt372 => (laws_FnMovedJet.l0 k t347 bt372.2.2.2.2.2 0 t342 t343 t344 t345 t346 t354 t355 t366 t367 t368 t369 t370 bt372.1 bt372.2.1 bt372.2.2.1 bt372.2.2.2.1 bt372.2.2.2.2.1)) = some r := H
    have A26 := qg A260
    clear A260
    replace H := Option.bind_eq_some_iff.mp H
    obtain ⟨⟨t372, t373, t374, t375, t376, t377⟩, A270, H⟩ := H
    replace H : (laws_FnMovedJet.l0 k t347 t377 0 t342 t343 t344 t345 t346 t354 t355 t366 t367 t368 t369 t370 t372 t373 t374 t375 t376) = some r := H
    have A27 := qg A270
    clear A270
    have H' := qg H
    clear H
    go_enter Try.func14, Try.ntmps14
    try go_wp2_with (first | ((with_reducible refine qt (f := 50) rfl ?_); refine goesL_ (some 18) rfl rfl Try.func50 (by kernel_rfl) rfl #[.slice A0 l0.length c0] rfl (by (try simp only [List.map_toArray, List.map_cons, List.map_nil]); first | done | rfl | (simp only [List.length_drop, List.length_take]; rfl)) ?_; (with_reducible refine (laws_big.calls _ _ l0 false _ ?side1 ?side2 A2.out).mono ?_); (case side1 => repeat (first | exact HR0.out | (with_reducible refine qo ?_ _) | (with_reducible refine qr ?_ _) | (with_reducible refine qs ?_))); (case side2 => exact HC0.out); rintro e w' ⟨rfl, ⟨nd, rfl⟩⟩; refine ⟨_, rfl, ?_⟩) | ((with_reducible refine qt (f := 57) rfl ?_); refine goesL_ (some 21) rfl rfl Try.func57 (by kernel_rfl) rfl #[.slice A0 l0.length c0] rfl (by (try simp only [List.map_toArray, List.map_cons, List.map_nil]); first | done | rfl | (simp only [List.length_drop, List.length_take]; rfl)) ?_; (with_reducible refine (spec_DrawTurnJet.calls k _ _ l0 t342 t343 t344 t345 t346 t347 _ ?side1 ?side2 A4.out).mono ?_); (case side1 => repeat (first | exact HR0.out | (with_reducible refine qo ?_ _) | (with_reducible refine qr ?_ _) | (with_reducible refine qs ?_))); (case side2 => exact HC0.out); rintro e w28 ⟨rfl, hb⟩; refine ⟨_, rfl, ?_⟩; have n0_ := qg (q9 (by repeat (first | (with_reducible first | exact HB.out | apply q1 | apply q2 | apply q3) | exact HB.out)) hb); clear HB; have HB := n0_; clear n0_; (try clear hb); (try clear hb2); (try clear hk); (try clear hi)) | ((with_reducible refine qu (N := 3) rfl ?_); refine qh ?hg (N := 3) ?hd (cs := #[.int .i64 0, .int .i64 0, .int .i64 0, .int .i64 0, .int .i64 0]) (t := 28) ?hr ?_; (case hd => rfl); (case hg => rfl); (case hr => first | (go_simp; done) | (go_simp; rfl)); intro gb348 hg w29 hbox hb; have n0_ := qg (q9 (by repeat (first | (with_reducible first | exact HB.out | apply q1 | apply q2 | apply q3) | exact HB.out)) hb); have n1_ := qg (hbox); have n2_ := qg ((by rw [hg]; exact (qa (by repeat (first | (with_reducible first | exact HB.out | apply q1 | apply q2 | apply q3) | exact HB.out))) : w.heap.size ≤ gb348)); have n3_ := qg ((by rw [hg]; exact (qa (by repeat (first | (with_reducible first | exact HB.out | apply q1 | apply q2 | apply q3) | exact HB.out))) : w.heap.size ≤ gb348)); clear HB; have HB := n0_; have BK348 := n1_; have GW348 := n2_; have GE348 := n3_; clear n0_ n1_ n2_ n3_; clear hb hbox hg; have hcz30_0 : w29.cell? ⟨gb348, 0, none⟩ = some (.int .i64 0) := (qc BK348.out 0).trans rfl; have hcz30_1 : w29.cell? ⟨gb348, 1, none⟩ = some (.int .i64 0) := (qc BK348.out 1).trans rfl; have hcz30_2 : w29.cell? ⟨gb348, 2, none⟩ = some (.int .i64 0) := (qc BK348.out 2).trans rfl; have hcz30_3 : w29.cell? ⟨gb348, 3, none⟩ = some (.int .i64 0) := (qc BK348.out 3).trans rfl; have hcz30_4 : w29.cell? ⟨gb348, 4, none⟩ = some (.int .i64 0) := (qc BK348.out 4).trans rfl; have hfz30_0 := qb BK348.out 0; have hfz30_1 := qb BK348.out 1; have hfz30_2 := qb BK348.out 2; have hfz30_3 := qb BK348.out 3; have hfz30_4 := qb BK348.out 4) | ((with_reducible refine qt (f := 58) rfl ?_); refine goesL_ (some 26) rfl rfl Try.func58 (by kernel_rfl) rfl #[.slice A0 l0.length c0] rfl (by (try simp only [List.map_toArray, List.map_cons, List.map_nil]); first | done | rfl | (simp only [List.length_drop, List.length_take]; rfl)) ?_; (with_reducible refine (spec_DrawShiftJet.calls k _ _ l0 t349 t350 t351 t352 t353 t354 t355 _ ?side1 ?side2 A5.out).mono ?_); (case side1 => exact qn HR0.out (by repeat (first | (with_reducible first | exact HB.out | apply q1 | apply q2 | apply q3 | refine q4 ?_ GE348.out) | exact HB.out))); (case side2 => exact HC0.out); rintro e w31 ⟨rfl, hb⟩; refine ⟨_, rfl, ?_⟩; have n0_ := qg (q8 (g := gb348) (o := .cells #[.int .i64 t342, .int .i64 t343, .int .i64 t344, .int .i64 t345, .int .i64 t346] 28 (0, 0)) (by (with_reducible repeat (first | refine q5 ?_ _ | refine q6 ?_ | refine q7 ?_ _)); refine qf (cs := #[.int .i64 t342, .int .i64 t343, .int .i64 t344, .int .i64 t345, .int .i64 0]) ?_ 4 _ rfl; (with_reducible repeat (first | refine q5 ?_ _ | refine q6 ?_ | refine q7 ?_ _)); refine qf (cs := #[.int .i64 t342, .int .i64 t343, .int .i64 t344, .int .i64 0, .int .i64 0]) ?_ 3 _ rfl; (with_reducible repeat (first | refine q5 ?_ _ | refine q6 ?_ | refine q7 ?_ _)); refine qf (cs := #[.int .i64 t342, .int .i64 t343, .int .i64 0, .int .i64 0, .int .i64 0]) ?_ 2 _ rfl; (with_reducible repeat (first | refine q5 ?_ _ | refine q6 ?_ | refine q7 ?_ _)); refine qf (cs := #[.int .i64 t342, .int .i64 0, .int .i64 0, .int .i64 0, .int .i64 0]) ?_ 1 _ rfl; (with_reducible repeat (first | refine q5 ?_ _ | refine q6 ?_ | refine q7 ?_ _)); refine qf (cs := #[.int .i64 0, .int .i64 0, .int .i64 0, .int .i64 0, .int .i64 0]) ?_ 0 _ rfl; (with_reducible repeat (first | refine q5 ?_ _ | refine q6 ?_ | refine q7 ?_ _)); exact BK348.out) hb); have n1_ := qg (q9 (by repeat (first | (with_reducible first | exact HB.out | apply q1 | apply q2 | apply q3 | refine q4 ?_ GE348.out) | exact HB.out)) hb); clear BK348; clear HB; have BK348 := n0_; have HB := n1_; clear n0_ n1_; (try clear hb); (try clear hb2); (try clear hk); (try clear hi)) | ((with_reducible refine qu (N := 5) rfl ?_); refine qh ?hg (N := 5) ?hd (cs := #[.int .i64 0, .int .i64 0, .int .i64 0, .int .i64 0, .int .i64 0]) (t := 28) ?hr ?_; (case hd => rfl); (case hg => rfl); (case hr => first | (go_simp; done) | (go_simp; rfl)); intro gb356 hg w32 hbox hb; have n0_ := qg (q8 (g := gb348) (o := .cells #[.int .i64 t342, .int .i64 t343, .int .i64 t344, .int .i64 t345, .int .i64 t346] 28 (0, 0)) (by (with_reducible repeat (first | refine q5 ?_ _ | refine q6 ?_ | refine q7 ?_ _)); exact BK348.out) hb); have n1_ := qg (q9 (by repeat (first | (with_reducible first | exact HB.out | apply q1 | apply q2 | apply q3 | refine q4 ?_ GE348.out) | exact HB.out)) hb); have n2_ := qg (hbox); have n3_ := qg ((by rw [hg]; exact (qa (by repeat (first | (with_reducible first | exact HB.out | apply q1 | apply q2 | apply q3 | refine q4 ?_ GE348.out) | exact HB.out))) : w.heap.size ≤ gb356)); have n4_ := qg ((by rw [hg]; exact (qa (by repeat (first | (with_reducible first | exact HB.out | apply q1 | apply q2 | apply q3 | refine q4 ?_ GE348.out) | exact HB.out))) : w.heap.size ≤ gb356)); have n5_ := qg ((by rw [hg]; exact qv (qd (g := gb348) (o := .cells #[.int .i64 t342, .int .i64 t343, .int .i64 t344, .int .i64 t345, .int .i64 t346] 28 (0, 0)) (by (with_reducible repeat (first | refine q5 ?_ _ | refine q6 ?_ | refine q7 ?_ _)); exact BK348.out)) : gb348 ≠ gb356)); have n6_ := qg ((by rw [hg]; exact qw (qd (g := gb348) (o := .cells #[.int .i64 t342, .int .i64 t343, .int .i64 t344, .int .i64 t345, .int .i64 t346] 28 (0, 0)) (by (with_reducible repeat (first | refine q5 ?_ _ | refine q6 ?_ | refine q7 ?_ _)); exact BK348.out)) : gb356 ≠ gb348)); clear BK348; clear HB; have BK348 := n0_; have HB := n1_; have BK356 := n2_; have GW356 := n3_; have GE356 := n4_; have NB348_356 := n5_; have NB356_348 := n6_; clear n0_ n1_ n2_ n3_ n4_ n5_ n6_; clear hb hbox hg) | ((with_reducible refine qu (N := 6) rfl ?_); refine qh ?hg (N := 6) ?hd (cs := #[.int .i64 0, .int .i64 0]) (t := 26) ?hr ?_; (case hd => rfl); (case hg => rfl); (case hr => first | (go_simp; done) | (go_simp; rfl)); intro gb357 hg w33 hbox hb; have n0_ := qg (q8 (g := gb348) (o := .cells #[.int .i64 t342, .int .i64 t343, .int .i64 t344, .int .i64 t345, .int .i64 t346] 28 (0, 0)) (by (with_reducible repeat (first | refine q5 ?_ _ | refine q6 ?_ | refine q7 ?_ _)); exact BK348.out) hb); have n1_ := qg (q8 (g := gb356) (o := .cells #[.int .i64 0, .int .i64 0, .int .i64 0, .int .i64 0, .int .i64 0] 28 (0, 0)) (by (with_reducible repeat (first | refine q5 ?_ _ | refine q6 ?_ | refine q7 ?_ _)); exact BK356.out) hb); have n2_ := qg (q9 (by repeat (first | (with_reducible first | exact HB.out | apply q1 | apply q2 | apply q3 | refine q4 ?_ GE348.out | refine q4 ?_ GE356.out) | exact HB.out)) hb); have n3_ := qg (hbox); have n4_ := qg ((by rw [hg]; exact (qa (by repeat (first | (with_reducible first | exact HB.out | apply q1 | apply q2 | apply q3 | refine q4 ?_ GE348.out | refine q4 ?_ GE356.out) | exact HB.out))) : w.heap.size ≤ gb357)); have n5_ := qg ((by rw [hg]; exact (qa (by repeat (first | (with_reducible first | exact HB.out | apply q1 | apply q2 | apply q3 | refine q4 ?_ GE348.out | refine q4 ?_ GE356.out) | exact HB.out))) : w.heap.size ≤ gb357)); have n6_ := qg ((by rw [hg]; exact qv (qd (g := gb348) (o := .cells #[.int .i64 t342, .int .i64 t343, .int .i64 t344, .int .i64 t345, .int .i64 t346] 28 (0, 0)) (by (with_reducible repeat (first | refine q5 ?_ _ | refine q6 ?_ | refine q7 ?_ _)); exact BK348.out)) : gb348 ≠ gb357)); have n7_ := qg ((by rw [hg]; exact qw (qd (g := gb348) (o := .cells #[.int .i64 t342, .int .i64 t343, .int .i64 t344, .int .i64 t345, .int .i64 t346] 28 (0, 0)) (by (with_reducible repeat (first | refine q5 ?_ _ | refine q6 ?_ | refine q7 ?_ _)); exact BK348.out)) : gb357 ≠ gb348)); have n8_ := qg ((by rw [hg]; exact qv (qd (g := gb356) (o := .cells #[.int .i64 0, .int .i64 0, .int .i64 0, .int .i64 0, .int .i64 0] 28 (0, 0)) (by (with_reducible repeat (first | refine q5 ?_ _ | refine q6 ?_ | refine q7 ?_ _)); exact BK356.out)) : gb356 ≠ gb357)); have n9_ := qg ((by rw [hg]; exact qw (qd (g := gb356) (o := .cells #[.int .i64 0, .int .i64 0, .int .i64 0, .int .i64 0, .int .i64 0] 28 (0, 0)) (by (with_reducible repeat (first | refine q5 ?_ _ | refine q6 ?_ | refine q7 ?_ _)); exact BK356.out)) : gb357 ≠ gb356)); clear BK348; clear BK356; clear HB; have BK348 := n0_; have BK356 := n1_; have HB := n2_; have BK357 := n3_; have GW357 := n4_; have GE357 := n5_; have NB348_357 := n6_; have NB357_348 := n7_; have NB356_357 := n8_; have NB357_356 := n9_; clear n0_ n1_ n2_ n3_ n4_ n5_ n6_ n7_ n8_ n9_; clear hb hbox hg; have hnb34 := NB356_348.out; have hnc34 := NB348_356.out; have hnb35 := NB356_357.out; have hnc35 := NB357_356.out; have hcz36_0 : w33.cell? ⟨gb356, 0, none⟩ = some (.int .i64 0) := (qc BK356.out 0).trans rfl; have hcz36_1 : w33.cell? ⟨gb356, 1, none⟩ = some (.int .i64 0) := (qc BK356.out 1).trans rfl; have hcz36_2 : w33.cell? ⟨gb356, 2, none⟩ = some (.int .i64 0) := (qc BK356.out 2).trans rfl; have hcz36_3 : w33.cell? ⟨gb356, 3, none⟩ = some (.int .i64 0) := (qc BK356.out 3).trans rfl; have hcz36_4 : w33.cell? ⟨gb356, 4, none⟩ = some (.int .i64 0) := (qc BK356.out 4).trans rfl; have hfz36_0 := qb BK356.out 0; have hfz36_1 := qb BK356.out 1; have hfz36_2 := qb BK356.out 2; have hfz36_3 := qb BK356.out 3; have hfz36_4 := qb BK356.out 4; have hnb37 := NB357_348.out; have hnc37 := NB348_357.out; have hcz38_0 : w33.cell? ⟨gb357, 0, none⟩ = some (.int .i64 0) := (qc BK357.out 0).trans rfl; have hcz38_1 : w33.cell? ⟨gb357, 1, none⟩ = some (.int .i64 0) := (qc BK357.out 1).trans rfl; have hfz38_0 := qb BK357.out 0; have hfz38_1 := qb BK357.out 1))
    have n0_ : Aside0 ((((((((w33.setCell ⟨gb356, 0, none⟩ (.int .i64 t349)).setCell ⟨gb356, 1, none⟩ (.int .i64 t350)).setCell ⟨gb356, 2, none⟩ (.int .i64 t351)).setCell ⟨gb356, 3, none⟩ (.int .i64 t352)).setCell ⟨gb356, 4, none⟩ (.int .i64 t353)).setCell ⟨gb357, 0, none⟩ (.int .i64 t354)).setCell ⟨gb357, 1, none⟩ (.int .i64 t355)).heap[gb348]? = some (.cells #[.int .i64 t342, .int .i64 t343, .int .i64 t344, .int .i64 t345, .int .i64 t346] 28 (0, 0))) := ⟨by (with_reducible repeat (first | refine q5 ?_ _ | refine q6 ?_ | refine q7 ?_ _)); refine qe ?_ NB348_357.out _; (with_reducible repeat (first | refine q5 ?_ _ | refine q6 ?_ | refine q7 ?_ _)); refine qe ?_ NB348_357.out _; (with_reducible repeat (first | refine q5 ?_ _ | refine q6 ?_ | refine q7 ?_ _)); refine qe ?_ NB348_356.out _; (with_reducible repeat (first | refine q5 ?_ _ | refine q6 ?_ | refine q7 ?_ _)); refine qe ?_ NB348_356.out _; (with_reducible repeat (first | refine q5 ?_ _ | refine q6 ?_ | refine q7 ?_ _)); refine qe ?_ NB348_356.out _; (with_reducible repeat (first | refine q5 ?_ _ | refine q6 ?_ | refine q7 ?_ _)); refine qe ?_ NB348_356.out _; (with_reducible repeat (first | refine q5 ?_ _ | refine q6 ?_ | refine q7 ?_ _)); refine qe ?_ NB348_356.out _; (with_reducible repeat (first | refine q5 ?_ _ | refine q6 ?_ | refine q7 ?_ _)); exact BK348.out⟩
    have n1_ : Aside0 ((((((((w33.setCell ⟨gb356, 0, none⟩ (.int .i64 t349)).setCell ⟨gb356, 1, none⟩ (.int .i64 t350)).setCell ⟨gb356, 2, none⟩ (.int .i64 t351)).setCell ⟨gb356, 3, none⟩ (.int .i64 t352)).setCell ⟨gb356, 4, none⟩ (.int .i64 t353)).setCell ⟨gb357, 0, none⟩ (.int .i64 t354)).setCell ⟨gb357, 1, none⟩ (.int .i64 t355)).heap[gb356]? = some (.cells #[.int .i64 t349, .int .i64 t350, .int .i64 t351, .int .i64 t352, .int .i64 t353] 28 (0, 0))) := ⟨by (with_reducible repeat (first | refine q5 ?_ _ | refine q6 ?_ | refine q7 ?_ _)); refine qe ?_ NB356_357.out _; (with_reducible repeat (first | refine q5 ?_ _ | refine q6 ?_ | refine q7 ?_ _)); refine qe ?_ NB356_357.out _; (with_reducible repeat (first | refine q5 ?_ _ | refine q6 ?_ | refine q7 ?_ _)); refine qf (cs := #[.int .i64 t349, .int .i64 t350, .int .i64 t351, .int .i64 t352, .int .i64 0]) ?_ 4 _ rfl; (with_reducible repeat (first | refine q5 ?_ _ | refine q6 ?_ | refine q7 ?_ _)); refine qf (cs := #[.int .i64 t349, .int .i64 t350, .int .i64 t351, .int .i64 0, .int .i64 0]) ?_ 3 _ rfl; (with_reducible repeat (first | refine q5 ?_ _ | refine q6 ?_ | refine q7 ?_ _)); refine qf (cs := #[.int .i64 t349, .int .i64 t350, .int .i64 0, .int .i64 0, .int .i64 0]) ?_ 2 _ rfl; (with_reducible repeat (first | refine q5 ?_ _ | refine q6 ?_ | refine q7 ?_ _)); refine qf (cs := #[.int .i64 t349, .int .i64 0, .int .i64 0, .int .i64 0, .int .i64 0]) ?_ 1 _ rfl; (with_reducible repeat (first | refine q5 ?_ _ | refine q6 ?_ | refine q7 ?_ _)); refine qf (cs := #[.int .i64 0, .int .i64 0, .int .i64 0, .int .i64 0, .int .i64 0]) ?_ 0 _ rfl; (with_reducible repeat (first | refine q5 ?_ _ | refine q6 ?_ | refine q7 ?_ _)); exact BK356.out⟩
    have n2_ : Aside0 ((((((((w33.setCell ⟨gb356, 0, none⟩ (.int .i64 t349)).setCell ⟨gb356, 1, none⟩ (.int .i64 t350)).setCell ⟨gb356, 2, none⟩ (.int .i64 t351)).setCell ⟨gb356, 3, none⟩ (.int .i64 t352)).setCell ⟨gb356, 4, none⟩ (.int .i64 t353)).setCell ⟨gb357, 0, none⟩ (.int .i64 t354)).setCell ⟨gb357, 1, none⟩ (.int .i64 t355)).heap[gb357]? = some (.cells #[.int .i64 t354, .int .i64 t355] 26 (0, 0))) := ⟨by (with_reducible repeat (first | refine q5 ?_ _ | refine q6 ?_ | refine q7 ?_ _)); refine qf (cs := #[.int .i64 t354, .int .i64 0]) ?_ 1 _ rfl; (with_reducible repeat (first | refine q5 ?_ _ | refine q6 ?_ | refine q7 ?_ _)); refine qf (cs := #[.int .i64 0, .int .i64 0]) ?_ 0 _ rfl; (with_reducible repeat (first | refine q5 ?_ _ | refine q6 ?_ | refine q7 ?_ _)); refine qe ?_ NB357_356.out _; (with_reducible repeat (first | refine q5 ?_ _ | refine q6 ?_ | refine q7 ?_ _)); refine qe ?_ NB357_356.out _; (with_reducible repeat (first | refine q5 ?_ _ | refine q6 ?_ | refine q7 ?_ _)); refine qe ?_ NB357_356.out _; (with_reducible repeat (first | refine q5 ?_ _ | refine q6 ?_ | refine q7 ?_ _)); refine qe ?_ NB357_356.out _; (with_reducible repeat (first | refine q5 ?_ _ | refine q6 ?_ | refine q7 ?_ _)); refine qe ?_ NB357_356.out _; (with_reducible repeat (first | refine q5 ?_ _ | refine q6 ?_ | refine q7 ?_ _)); exact BK357.out⟩
    have n3_ : Aside0 (Below w.heap.size w (((((((w33.setCell ⟨gb356, 0, none⟩ (.int .i64 t349)).setCell ⟨gb356, 1, none⟩ (.int .i64 t350)).setCell ⟨gb356, 2, none⟩ (.int .i64 t351)).setCell ⟨gb356, 3, none⟩ (.int .i64 t352)).setCell ⟨gb356, 4, none⟩ (.int .i64 t353)).setCell ⟨gb357, 0, none⟩ (.int .i64 t354)).setCell ⟨gb357, 1, none⟩ (.int .i64 t355))) := ⟨by repeat (first | (with_reducible first | exact HB.out | apply q1 | apply q2 | apply q3 | refine q4 ?_ GE348.out | refine q4 ?_ GE356.out | refine q4 ?_ GE357.out) | exact HB.out)⟩
    (try clear BK348)
    (try clear BK356)
    (try clear BK357)
    (try clear HB)
    generalize (((((((w33.setCell ⟨gb356, 0, none⟩ (.int .i64 t349)).setCell ⟨gb356, 1, none⟩ (.int .i64 t350)).setCell ⟨gb356, 2, none⟩ (.int .i64 t351)).setCell ⟨gb356, 3, none⟩ (.int .i64 t352)).setCell ⟨gb356, 4, none⟩ (.int .i64 t353)).setCell ⟨gb357, 0, none⟩ (.int .i64 t354)).setCell ⟨gb357, 1, none⟩ (.int .i64 t355)) = w39 at n0_ n1_ n2_ n3_ ⊢
    have BK348 := n0_
    have BK356 := n1_
    have BK357 := n2_
    have HB := n3_
    clear n0_ n1_ n2_ n3_
    have n0_ := qg (q6 BK348.out)
    have n1_ := qg (q6 BK356.out)
    have n2_ := qg (q6 BK357.out)
    have n3_ := qg (q3 HB.out)
    clear BK348
    clear BK356
    clear BK357
    clear HB
    have BK348 := n0_
    have BK356 := n1_
    have BK357 := n2_
    have HB := n3_
    clear n0_ n1_ n2_ n3_
    refine start_ (n := 5) (S := fun w' => w'.cell? ⟨gb348, 0, none⟩ = some (.int .i64 t342) ∧ w'.cell? ⟨gb348, 1, none⟩ = some (.int .i64 t343) ∧ w'.cell? ⟨gb348, 2, none⟩ = some (.int .i64 t344) ∧ w'.cell? ⟨gb348, 3, none⟩ = some (.int .i64 t345) ∧ w'.cell? ⟨gb348, 4, none⟩ = some (.int .i64 t346)) (ds := []) #[false, false, false, false, false] (by kernel_rfl) rfl rfl ⟨(qc BK348.out 0).trans rfl, (qc BK348.out 1).trans rfl, (qc BK348.out 2).trans rfl, (qc BK348.out 3).trans rfl, (qc BK348.out 4).trans rfl⟩ (fun hHeld => ?_)
    generalize w39.drew = w40 at BK348 BK356 BK357 HB hHeld ⊢
    refine take_ (i := 0) (N := some 29) (v := ?_) (a' := ?_) #[true, false, false, false, false] rfl rfl (by kernel_rfl) (fun _ _ _ h => h) (Or.inl ⟨by rfl, ?_⟩) hHeld ?_ ?_
    rotate_left
    ·rintro w' ⟨s0, s1, s2, s3, s4⟩
     go_simp
     with_reducible rfl
    rotate_left
    ·simp only [Act.put, p1, p2, p3, i64_w, i32_w]
     rfl
    refine take_ (i := 2) (N := some 31) (v := ?_) (a' := ?_) #[true, false, true, false, false] rfl rfl (by kernel_rfl) (fun _ _ _ h => h) (Or.inl ⟨by rfl, ?_⟩) hHeld ?_ ?_
    rotate_left
    ·rintro w' ⟨s0, s1, s2, s3, s4⟩
     go_simp
     with_reducible rfl
    rotate_left
    ·simp only [Act.put, p1, p2, p3, i64_w, i32_w]
     rfl
    refine one_ (i := 1) (N := some 30) #[true, true, true, false, false] rfl rfl (by kernel_rfl) (by decide) (fun K hK => ?_)
    refine goes_ Try.func54 (by kernel_rfl) rfl #[.agg #[.int .i64 t342, .int .i64 t343, .int .i64 t344, .int .i64 t345, .int .i64 t346]] (by rfl) rfl rfl (by (try simp only [List.map_toArray, List.map_cons, List.map_nil]); first | done | rfl | (simp only [List.length_drop, List.length_take]; rfl)) ?_
    with_reducible refine (impl_IsJet.calls t342 t343 t344 t345 t346 t358 _ A6.out).mono ?_
    rintro e w41 ⟨rfl, hb⟩
    refine ⟨_, rfl, ?_⟩
    have n0_ := qg (q8 (g := gb348) (o := .cells #[.int .i64 t342, .int .i64 t343, .int .i64 t344, .int .i64 t345, .int .i64 t346] 28 (0, 0)) (by (with_reducible repeat (first | refine q5 ?_ _ | refine q6 ?_ | refine q7 ?_ _)); exact BK348.out) hb)
    have n1_ := qg (q8 (g := gb356) (o := .cells #[.int .i64 t349, .int .i64 t350, .int .i64 t351, .int .i64 t352, .int .i64 t353] 28 (0, 0)) (by (with_reducible repeat (first | refine q5 ?_ _ | refine q6 ?_ | refine q7 ?_ _)); exact BK356.out) hb)
    have n2_ := qg (q8 (g := gb357) (o := .cells #[.int .i64 t354, .int .i64 t355] 26 (0, 0)) (by (with_reducible repeat (first | refine q5 ?_ _ | refine q6 ?_ | refine q7 ?_ _)); exact BK357.out) hb)
    have n3_ := qg (q9 (by repeat (first | (with_reducible first | exact HB.out | apply q1 | apply q2 | apply q3 | refine q4 ?_ GE348.out | refine q4 ?_ GE356.out | refine q4 ?_ GE357.out) | exact HB.out)) hb)
    clear BK348
    clear BK356
    clear BK357
    clear HB
    have BK348 := n0_
    have BK356 := n1_
    have BK357 := n2_
    have HB := n3_
    clear n0_ n1_ n2_ n3_
    (try clear hb)
    (try clear hb2)
    (try clear hk)
    (try clear hi)
    refine hK.out _ _ ⟨(qc BK348.out 0).trans rfl, (qc BK348.out 1).trans rfl, (qc BK348.out 2).trans rfl, (qc BK348.out 3).trans rfl, (qc BK348.out 4).trans rfl⟩ (fun hHeld => ?_)
    clear hK K
    refine norm_ (a' := ?_) ?_ ?_
    rotate_left
    ·show Act.put _ (some 30) _ = _
     simp only [Act.put, p1, p2, p3, i64_w, i32_w]
     rfl
    refine one_ (i := 3) (N := some 32) #[true, true, true, true, false] rfl rfl (by kernel_rfl) (by decide) (fun K hK => ?_)
    refine goes_ Try.func55 (by kernel_rfl) rfl #[.agg #[.int .i64 t342, .int .i64 t343, .int .i64 t344, .int .i64 t345, .int .i64 t346]] (by rfl) rfl rfl (by (try simp only [List.map_toArray, List.map_cons, List.map_nil]); first | done | rfl | (simp only [List.length_drop, List.length_take]; rfl)) ?_
    with_reducible refine (spec_IsJet.calls t342 t343 t344 t345 t346 t359 _ A7.out).mono ?_
    rintro e w42 ⟨rfl, hb⟩
    refine ⟨_, rfl, ?_⟩
    have n0_ := qg (q8 (g := gb348) (o := .cells #[.int .i64 t342, .int .i64 t343, .int .i64 t344, .int .i64 t345, .int .i64 t346] 28 (0, 0)) (by (with_reducible repeat (first | refine q5 ?_ _ | refine q6 ?_ | refine q7 ?_ _)); exact BK348.out) hb)
    have n1_ := qg (q8 (g := gb356) (o := .cells #[.int .i64 t349, .int .i64 t350, .int .i64 t351, .int .i64 t352, .int .i64 t353] 28 (0, 0)) (by (with_reducible repeat (first | refine q5 ?_ _ | refine q6 ?_ | refine q7 ?_ _)); exact BK356.out) hb)
    have n2_ := qg (q8 (g := gb357) (o := .cells #[.int .i64 t354, .int .i64 t355] 26 (0, 0)) (by (with_reducible repeat (first | refine q5 ?_ _ | refine q6 ?_ | refine q7 ?_ _)); exact BK357.out) hb)
    have n3_ := qg (q9 (by repeat (first | (with_reducible first | exact HB.out | apply q1 | apply q2 | apply q3 | refine q4 ?_ GE348.out | refine q4 ?_ GE356.out | refine q4 ?_ GE357.out) | exact HB.out)) hb)
    clear BK348
    clear BK356
    clear BK357
    clear HB
    have BK348 := n0_
    have BK356 := n1_
    have BK357 := n2_
    have HB := n3_
    clear n0_ n1_ n2_ n3_
    (try clear hb)
    (try clear hb2)
    (try clear hk)
    (try clear hi)
    refine hK.out _ _ ⟨(qc BK348.out 0).trans rfl, (qc BK348.out 1).trans rfl, (qc BK348.out 2).trans rfl, (qc BK348.out 3).trans rfl, (qc BK348.out 4).trans rfl⟩ (fun hHeld => ?_)
    clear hK K
    refine norm_ (a' := ?_) ?_ ?_
    rotate_left
    ·show Act.put _ (some 32) _ = _
     simp only [Act.put, p1, p2, p3, i64_w, i32_w]
     rfl
    refine pure_ (i := 4) (N := some 33) (v := ?_) (a' := ?_) #[true, true, true, true, true] rfl rfl (by kernel_rfl) (fun _ _ _ h => h) (Or.inl ⟨by rfl, ?_⟩) ?_ ?_
    rotate_left
    ·intro w'
     go_simp
     with_reducible rfl
    rotate_left
    ·simp only [Act.put, p1, p2, p3, i64_w, i32_w]
     rfl
    refine done_ (by kernel_rfl) ?_
    have hcz43_0 : w42.cell? ⟨gb348, 0, none⟩ = some (.int .i64 t342) := (qc BK348.out 0).trans rfl
    have hcz43_1 : w42.cell? ⟨gb348, 1, none⟩ = some (.int .i64 t343) := (qc BK348.out 1).trans rfl
    have hcz43_2 : w42.cell? ⟨gb348, 2, none⟩ = some (.int .i64 t344) := (qc BK348.out 2).trans rfl
    have hcz43_3 : w42.cell? ⟨gb348, 3, none⟩ = some (.int .i64 t345) := (qc BK348.out 3).trans rfl
    have hcz43_4 : w42.cell? ⟨gb348, 4, none⟩ = some (.int .i64 t346) := (qc BK348.out 4).trans rfl
    have hfz43_0 := qb BK348.out 0
    have hfz43_1 := qb BK348.out 1
    have hfz43_2 := qb BK348.out 2
    have hfz43_3 := qb BK348.out 3
    have hfz43_4 := qb BK348.out 4
    try go_wp2_with (first | ((with_reducible refine qt (f := 54) rfl ?_); refine goesL_ (some 35) rfl rfl Try.func54 (by kernel_rfl) rfl #[.agg #[.int .i64 t342, .int .i64 t343, .int .i64 t344, .int .i64 t345, .int .i64 t346]] rfl (by (try simp only [List.map_toArray, List.map_cons, List.map_nil]); first | done | rfl | (simp only [List.length_drop, List.length_take]; rfl)) ?_; (with_reducible refine (impl_IsJet.calls t342 t343 t344 t345 t346 true _ A24.out).mono ?_); rintro e w44 ⟨rfl, hb⟩; refine ⟨_, rfl, ?_⟩; have n0_ := qg (q8 (g := gb348) (o := .cells #[.int .i64 t342, .int .i64 t343, .int .i64 t344, .int .i64 t345, .int .i64 t346] 28 (0, 0)) (by (with_reducible repeat (first | refine q5 ?_ _ | refine q6 ?_ | refine q7 ?_ _)); exact BK348.out) hb); have n1_ := qg (q8 (g := gb356) (o := .cells #[.int .i64 t349, .int .i64 t350, .int .i64 t351, .int .i64 t352, .int .i64 t353] 28 (0, 0)) (by (with_reducible repeat (first | refine q5 ?_ _ | refine q6 ?_ | refine q7 ?_ _)); exact BK356.out) hb); have n2_ := qg (q8 (g := gb357) (o := .cells #[.int .i64 t354, .int .i64 t355] 26 (0, 0)) (by (with_reducible repeat (first | refine q5 ?_ _ | refine q6 ?_ | refine q7 ?_ _)); exact BK357.out) hb); have n3_ := qg (q9 (by repeat (first | (with_reducible first | exact HB.out | apply q1 | apply q2 | apply q3 | refine q4 ?_ GE348.out | refine q4 ?_ GE356.out | refine q4 ?_ GE357.out) | exact HB.out)) hb); clear BK348; clear BK356; clear BK357; clear HB; have BK348 := n0_; have BK356 := n1_; have BK357 := n2_; have HB := n3_; clear n0_ n1_ n2_ n3_; (try clear hb); (try clear hb2); (try clear hk); (try clear hi); have hcz45_0 : w44.cell? ⟨gb348, 0, none⟩ = some (.int .i64 t342) := (qc BK348.out 0).trans rfl; have hcz45_1 : w44.cell? ⟨gb348, 1, none⟩ = some (.int .i64 t343) := (qc BK348.out 1).trans rfl; have hcz45_2 : w44.cell? ⟨gb348, 2, none⟩ = some (.int .i64 t344) := (qc BK348.out 2).trans rfl; have hcz45_3 : w44.cell? ⟨gb348, 3, none⟩ = some (.int .i64 t345) := (qc BK348.out 3).trans rfl; have hcz45_4 : w44.cell? ⟨gb348, 4, none⟩ = some (.int .i64 t346) := (qc BK348.out 4).trans rfl; have hfz45_0 := qb BK348.out 0; have hfz45_1 := qb BK348.out 1; have hfz45_2 := qb BK348.out 2; have hfz45_3 := qb BK348.out 3; have hfz45_4 := qb BK348.out 4) | ((with_reducible refine qt (f := 17) rfl ?_); refine goesL_ (some 44) rfl rfl Try.func17 (by kernel_rfl) rfl #[.agg #[.int .i64 t342, .int .i64 t343, .int .i64 t344, .int .i64 t345, .int .i64 t346], .int .i64 t347] rfl (by (try simp only [List.map_toArray, List.map_cons, List.map_nil]); first | done | rfl | (simp only [List.length_drop, List.length_take]; rfl)) ?_; (with_reducible refine (impl_TurnJet.calls k t342 t343 t344 t345 t346 t347 t366 t367 t368 t369 t370 _ A26.out).mono ?_); rintro e w46 ⟨rfl, hb⟩; refine ⟨_, rfl, ?_⟩; have n0_ := qg (q8 (g := gb348) (o := .cells #[.int .i64 t342, .int .i64 t343, .int .i64 t344, .int .i64 t345, .int .i64 t346] 28 (0, 0)) (by (with_reducible repeat (first | refine q5 ?_ _ | refine q6 ?_ | refine q7 ?_ _)); exact BK348.out) hb); have n1_ := qg (q8 (g := gb356) (o := .cells #[.int .i64 t349, .int .i64 t350, .int .i64 t351, .int .i64 t352, .int .i64 t353] 28 (0, 0)) (by (with_reducible repeat (first | refine q5 ?_ _ | refine q6 ?_ | refine q7 ?_ _)); exact BK356.out) hb); have n2_ := qg (q8 (g := gb357) (o := .cells #[.int .i64 t354, .int .i64 t355] 26 (0, 0)) (by (with_reducible repeat (first | refine q5 ?_ _ | refine q6 ?_ | refine q7 ?_ _)); exact BK357.out) hb); have n3_ := qg (q9 (by repeat (first | (with_reducible first | exact HB.out | apply q1 | apply q2 | apply q3 | refine q4 ?_ GE348.out | refine q4 ?_ GE356.out | refine q4 ?_ GE357.out) | exact HB.out)) hb); clear BK348; clear BK356; clear BK357; clear HB; have BK348 := n0_; have BK356 := n1_; have BK357 := n2_; have HB := n3_; clear n0_ n1_ n2_ n3_; (try clear hb); (try clear hb2); (try clear hk); (try clear hi)) | ((with_reducible refine qu (N := 7) rfl ?_); refine qh ?hg (N := 7) ?hd (cs := #[.int .i64 0, .int .i64 0, .int .i64 0, .int .i64 0, .int .i64 0]) (t := 28) ?hr ?_; (case hd => rfl); (case hg => rfl); (case hr => first | (go_simp; done) | (go_simp; rfl)); intro gb371 hg w47 hbox hb; have n0_ := qg (q8 (g := gb348) (o := .cells #[.int .i64 t342, .int .i64 t343, .int .i64 t344, .int .i64 t345, .int .i64 t346] 28 (0, 0)) (by (with_reducible repeat (first | refine q5 ?_ _ | refine q6 ?_ | refine q7 ?_ _)); exact BK348.out) hb); have n1_ := qg (q8 (g := gb356) (o := .cells #[.int .i64 t349, .int .i64 t350, .int .i64 t351, .int .i64 t352, .int .i64 t353] 28 (0, 0)) (by (with_reducible repeat (first | refine q5 ?_ _ | refine q6 ?_ | refine q7 ?_ _)); exact BK356.out) hb); have n2_ := qg (q8 (g := gb357) (o := .cells #[.int .i64 t354, .int .i64 t355] 26 (0, 0)) (by (with_reducible repeat (first | refine q5 ?_ _ | refine q6 ?_ | refine q7 ?_ _)); exact BK357.out) hb); have n3_ := qg (q9 (by repeat (first | (with_reducible first | exact HB.out | apply q1 | apply q2 | apply q3 | refine q4 ?_ GE348.out | refine q4 ?_ GE356.out | refine q4 ?_ GE357.out) | exact HB.out)) hb); have n4_ := qg (hbox); have n5_ := qg ((by rw [hg]; exact (qa (by repeat (first | (with_reducible first | exact HB.out | apply q1 | apply q2 | apply q3 | refine q4 ?_ GE348.out | refine q4 ?_ GE356.out | refine q4 ?_ GE357.out) | exact HB.out))) : w.heap.size ≤ gb371)); have n6_ := qg ((by rw [hg]; exact (qa (by repeat (first | (with_reducible first | exact HB.out | apply q1 | apply q2 | apply q3 | refine q4 ?_ GE348.out | refine q4 ?_ GE356.out | refine q4 ?_ GE357.out) | exact HB.out))) : w.heap.size ≤ gb371)); have n7_ := qg ((by rw [hg]; exact qv (qd (g := gb348) (o := .cells #[.int .i64 t342, .int .i64 t343, .int .i64 t344, .int .i64 t345, .int .i64 t346] 28 (0, 0)) (by (with_reducible repeat (first | refine q5 ?_ _ | refine q6 ?_ | refine q7 ?_ _)); exact BK348.out)) : gb348 ≠ gb371)); have n8_ := qg ((by rw [hg]; exact qw (qd (g := gb348) (o := .cells #[.int .i64 t342, .int .i64 t343, .int .i64 t344, .int .i64 t345, .int .i64 t346] 28 (0, 0)) (by (with_reducible repeat (first | refine q5 ?_ _ | refine q6 ?_ | refine q7 ?_ _)); exact BK348.out)) : gb371 ≠ gb348)); have n9_ := qg ((by rw [hg]; exact qv (qd (g := gb356) (o := .cells #[.int .i64 t349, .int .i64 t350, .int .i64 t351, .int .i64 t352, .int .i64 t353] 28 (0, 0)) (by (with_reducible repeat (first | refine q5 ?_ _ | refine q6 ?_ | refine q7 ?_ _)); exact BK356.out)) : gb356 ≠ gb371)); have n10_ := qg ((by rw [hg]; exact qw (qd (g := gb356) (o := .cells #[.int .i64 t349, .int .i64 t350, .int .i64 t351, .int .i64 t352, .int .i64 t353] 28 (0, 0)) (by (with_reducible repeat (first | refine q5 ?_ _ | refine q6 ?_ | refine q7 ?_ _)); exact BK356.out)) : gb371 ≠ gb356)); have n11_ := qg ((by rw [hg]; exact qv (qd (g := gb357) (o := .cells #[.int .i64 t354, .int .i64 t355] 26 (0, 0)) (by (with_reducible repeat (first | refine q5 ?_ _ | refine q6 ?_ | refine q7 ?_ _)); exact BK357.out)) : gb357 ≠ gb371)); have n12_ := qg ((by rw [hg]; exact qw (qd (g := gb357) (o := .cells #[.int .i64 t354, .int .i64 t355] 26 (0, 0)) (by (with_reducible repeat (first | refine q5 ?_ _ | refine q6 ?_ | refine q7 ?_ _)); exact BK357.out)) : gb371 ≠ gb357)); clear BK348; clear BK356; clear BK357; clear HB; have BK348 := n0_; have BK356 := n1_; have BK357 := n2_; have HB := n3_; have BK371 := n4_; have GW371 := n5_; have GE371 := n6_; have NB348_371 := n7_; have NB371_348 := n8_; have NB356_371 := n9_; have NB371_356 := n10_; have NB357_371 := n11_; have NB371_357 := n12_; clear n0_ n1_ n2_ n3_ n4_ n5_ n6_ n7_ n8_ n9_ n10_ n11_ n12_; clear hb hbox hg; have hnb48 := NB371_348.out; have hnc48 := NB348_371.out; have hnb49 := NB371_356.out; have hnc49 := NB356_371.out; have hnb50 := NB371_357.out; have hnc50 := NB357_371.out; have hcz51_0 : w47.cell? ⟨gb371, 0, none⟩ = some (.int .i64 0) := (qc BK371.out 0).trans rfl; have hcz51_1 : w47.cell? ⟨gb371, 1, none⟩ = some (.int .i64 0) := (qc BK371.out 1).trans rfl; have hcz51_2 : w47.cell? ⟨gb371, 2, none⟩ = some (.int .i64 0) := (qc BK371.out 2).trans rfl; have hcz51_3 : w47.cell? ⟨gb371, 3, none⟩ = some (.int .i64 0) := (qc BK371.out 3).trans rfl; have hcz51_4 : w47.cell? ⟨gb371, 4, none⟩ = some (.int .i64 0) := (qc BK371.out 4).trans rfl; have hfz51_0 := qb BK371.out 0; have hfz51_1 := qb BK371.out 1; have hfz51_2 := qb BK371.out 2; have hfz51_3 := qb BK371.out 3; have hfz51_4 := qb BK371.out 4; have hcz52_0 : w47.cell? ⟨gb348, 0, none⟩ = some (.int .i64 t342) := (qc BK348.out 0).trans rfl; have hcz52_1 : w47.cell? ⟨gb348, 1, none⟩ = some (.int .i64 t343) := (qc BK348.out 1).trans rfl; have hcz52_2 : w47.cell? ⟨gb348, 2, none⟩ = some (.int .i64 t344) := (qc BK348.out 2).trans rfl; have hcz52_3 : w47.cell? ⟨gb348, 3, none⟩ = some (.int .i64 t345) := (qc BK348.out 3).trans rfl; have hcz52_4 : w47.cell? ⟨gb348, 4, none⟩ = some (.int .i64 t346) := (qc BK348.out 4).trans rfl; have hfz52_0 := qb BK348.out 0; have hfz52_1 := qb BK348.out 1; have hfz52_2 := qb BK348.out 2; have hfz52_3 := qb BK348.out 3; have hfz52_4 := qb BK348.out 4; have hcz53_0 : w47.cell? ⟨gb357, 0, none⟩ = some (.int .i64 t354) := (qc BK357.out 0).trans rfl; have hcz53_1 : w47.cell? ⟨gb357, 1, none⟩ = some (.int .i64 t355) := (qc BK357.out 1).trans rfl; have hfz53_0 := qb BK357.out 0; have hfz53_1 := qb BK357.out 1) | ((with_reducible refine qt (f := 59) rfl ?_); refine goesL_ (some 48) rfl rfl Try.func59 (by kernel_rfl) rfl #[.agg #[.int .i64 t342, .int .i64 t343, .int .i64 t344, .int .i64 t345, .int .i64 t346], .agg #[.int .i64 t354, .int .i64 t355]] rfl (by (try simp only [List.map_toArray, List.map_cons, List.map_nil]); first | done | rfl | (simp only [List.length_drop, List.length_take]; rfl)) ?_; (with_reducible refine (impl_ShiftJet.calls t342 t343 t344 t345 t346 t354 t355 t372 t373 t374 t375 t376 t377 _ A27.out).mono ?_); rintro e w54 ⟨rfl, hb⟩; refine ⟨_, rfl, ?_⟩; have n0_ := qg (q8 (g := gb348) (o := .cells #[.int .i64 t342, .int .i64 t343, .int .i64 t344, .int .i64 t345, .int .i64 t346] 28 (0, 0)) (by (with_reducible repeat (first | refine q5 ?_ _ | refine q6 ?_ | refine q7 ?_ _)); refine qe ?_ NB348_371.out _; (with_reducible repeat (first | refine q5 ?_ _ | refine q6 ?_ | refine q7 ?_ _)); refine qe ?_ NB348_371.out _; (with_reducible repeat (first | refine q5 ?_ _ | refine q6 ?_ | refine q7 ?_ _)); refine qe ?_ NB348_371.out _; (with_reducible repeat (first | refine q5 ?_ _ | refine q6 ?_ | refine q7 ?_ _)); refine qe ?_ NB348_371.out _; (with_reducible repeat (first | refine q5 ?_ _ | refine q6 ?_ | refine q7 ?_ _)); refine qe ?_ NB348_371.out _; (with_reducible repeat (first | refine q5 ?_ _ | refine q6 ?_ | refine q7 ?_ _)); exact BK348.out) hb); have n1_ := qg (q8 (g := gb356) (o := .cells #[.int .i64 t349, .int .i64 t350, .int .i64 t351, .int .i64 t352, .int .i64 t353] 28 (0, 0)) (by (with_reducible repeat (first | refine q5 ?_ _ | refine q6 ?_ | refine q7 ?_ _)); refine qe ?_ NB356_371.out _; (with_reducible repeat (first | refine q5 ?_ _ | refine q6 ?_ | refine q7 ?_ _)); refine qe ?_ NB356_371.out _; (with_reducible repeat (first | refine q5 ?_ _ | refine q6 ?_ | refine q7 ?_ _)); refine qe ?_ NB356_371.out _; (with_reducible repeat (first | refine q5 ?_ _ | refine q6 ?_ | refine q7 ?_ _)); refine qe ?_ NB356_371.out _; (with_reducible repeat (first | refine q5 ?_ _ | refine q6 ?_ | refine q7 ?_ _)); refine qe ?_ NB356_371.out _; (with_reducible repeat (first | refine q5 ?_ _ | refine q6 ?_ | refine q7 ?_ _)); exact BK356.out) hb); have n2_ := qg (q8 (g := gb357) (o := .cells #[.int .i64 t354, .int .i64 t355] 26 (0, 0)) (by (with_reducible repeat (first | refine q5 ?_ _ | refine q6 ?_ | refine q7 ?_ _)); refine qe ?_ NB357_371.out _; (with_reducible repeat (first | refine q5 ?_ _ | refine q6 ?_ | refine q7 ?_ _)); refine qe ?_ NB357_371.out _; (with_reducible repeat (first | refine q5 ?_ _ | refine q6 ?_ | refine q7 ?_ _)); refine qe ?_ NB357_371.out _; (with_reducible repeat (first | refine q5 ?_ _ | refine q6 ?_ | refine q7 ?_ _)); refine qe ?_ NB357_371.out _; (with_reducible repeat (first | refine q5 ?_ _ | refine q6 ?_ | refine q7 ?_ _)); refine qe ?_ NB357_371.out _; (with_reducible repeat (first | refine q5 ?_ _ | refine q6 ?_ | refine q7 ?_ _)); exact BK357.out) hb); have n3_ := qg (q8 (g := gb371) (o := .cells #[.int .i64 t366, .int .i64 t367, .int .i64 t368, .int .i64 t369, .int .i64 t370] 28 (0, 0)) (by (with_reducible repeat (first | refine q5 ?_ _ | refine q6 ?_ | refine q7 ?_ _)); refine qf (cs := #[.int .i64 t366, .int .i64 t367, .int .i64 t368, .int .i64 t369, .int .i64 0]) ?_ 4 _ rfl; (with_reducible repeat (first | refine q5 ?_ _ | refine q6 ?_ | refine q7 ?_ _)); refine qf (cs := #[.int .i64 t366, .int .i64 t367, .int .i64 t368, .int .i64 0, .int .i64 0]) ?_ 3 _ rfl; (with_reducible repeat (first | refine q5 ?_ _ | refine q6 ?_ | refine q7 ?_ _)); refine qf (cs := #[.int .i64 t366, .int .i64 t367, .int .i64 0, .int .i64 0, .int .i64 0]) ?_ 2 _ rfl; (with_reducible repeat (first | refine q5 ?_ _ | refine q6 ?_ | refine q7 ?_ _)); refine qf (cs := #[.int .i64 t366, .int .i64 0, .int .i64 0, .int .i64 0, .int .i64 0]) ?_ 1 _ rfl; (with_reducible repeat (first | refine q5 ?_ _ | refine q6 ?_ | refine q7 ?_ _)); refine qf (cs := #[.int .i64 0, .int .i64 0, .int .i64 0, .int .i64 0, .int .i64 0]) ?_ 0 _ rfl; (with_reducible repeat (first | refine q5 ?_ _ | refine q6 ?_ | refine q7 ?_ _)); exact BK371.out) hb); have n4_ := qg (q9 (by repeat (first | (with_reducible first | exact HB.out | apply q1 | apply q2 | apply q3 | refine q4 ?_ GE348.out | refine q4 ?_ GE356.out | refine q4 ?_ GE357.out | refine q4 ?_ GE371.out) | exact HB.out)) hb); clear BK348; clear BK356; clear BK357; clear BK371; clear HB; have BK348 := n0_; have BK356 := n1_; have BK357 := n2_; have BK371 := n3_; have HB := n4_; clear n0_ n1_ n2_ n3_ n4_; (try clear hb); (try clear hb2); (try clear hk); (try clear hi)) | ((with_reducible refine qu (N := 8) rfl ?_); refine qh ?hg (N := 8) ?hd (cs := #[.int .i64 0, .int .i64 0, .int .i64 0, .int .i64 0, .int .i64 0]) (t := 28) ?hr ?_; (case hd => rfl); (case hg => rfl); (case hr => first | (go_simp; done) | (go_simp; rfl)); intro gb378 hg w55 hbox hb; have n0_ := qg (q8 (g := gb348) (o := .cells #[.int .i64 t342, .int .i64 t343, .int .i64 t344, .int .i64 t345, .int .i64 t346] 28 (0, 0)) (by (with_reducible repeat (first | refine q5 ?_ _ | refine q6 ?_ | refine q7 ?_ _)); exact BK348.out) hb); have n1_ := qg (q8 (g := gb356) (o := .cells #[.int .i64 t349, .int .i64 t350, .int .i64 t351, .int .i64 t352, .int .i64 t353] 28 (0, 0)) (by (with_reducible repeat (first | refine q5 ?_ _ | refine q6 ?_ | refine q7 ?_ _)); exact BK356.out) hb); have n2_ := qg (q8 (g := gb357) (o := .cells #[.int .i64 t354, .int .i64 t355] 26 (0, 0)) (by (with_reducible repeat (first | refine q5 ?_ _ | refine q6 ?_ | refine q7 ?_ _)); exact BK357.out) hb); have n3_ := qg (q8 (g := gb371) (o := .cells #[.int .i64 t366, .int .i64 t367, .int .i64 t368, .int .i64 t369, .int .i64 t370] 28 (0, 0)) (by (with_reducible repeat (first | refine q5 ?_ _ | refine q6 ?_ | refine q7 ?_ _)); exact BK371.out) hb); have n4_ := qg (q9 (by repeat (first | (with_reducible first | exact HB.out | apply q1 | apply q2 | apply q3 | refine q4 ?_ GE348.out | refine q4 ?_ GE356.out | refine q4 ?_ GE357.out | refine q4 ?_ GE371.out) | exact HB.out)) hb); have n5_ := qg (hbox); have n6_ := qg ((by rw [hg]; exact (qa (by repeat (first | (with_reducible first | exact HB.out | apply q1 | apply q2 | apply q3 | refine q4 ?_ GE348.out | refine q4 ?_ GE356.out | refine q4 ?_ GE357.out | refine q4 ?_ GE371.out) | exact HB.out))) : w.heap.size ≤ gb378)); have n7_ := qg ((by rw [hg]; exact (qa (by repeat (first | (with_reducible first | exact HB.out | apply q1 | apply q2 | apply q3 | refine q4 ?_ GE348.out | refine q4 ?_ GE356.out | refine q4 ?_ GE357.out | refine q4 ?_ GE371.out) | exact HB.out))) : w.heap.size ≤ gb378)); have n8_ := qg ((by rw [hg]; exact qv (qd (g := gb348) (o := .cells #[.int .i64 t342, .int .i64 t343, .int .i64 t344, .int .i64 t345, .int .i64 t346] 28 (0, 0)) (by (with_reducible repeat (first | refine q5 ?_ _ | refine q6 ?_ | refine q7 ?_ _)); exact BK348.out)) : gb348 ≠ gb378)); have n9_ := qg ((by rw [hg]; exact qw (qd (g := gb348) (o := .cells #[.int .i64 t342, .int .i64 t343, .int .i64 t344, .int .i64 t345, .int .i64 t346] 28 (0, 0)) (by (with_reducible repeat (first | refine q5 ?_ _ | refine q6 ?_ | refine q7 ?_ _)); exact BK348.out)) : gb378 ≠ gb348)); have n10_ := qg ((by rw [hg]; exact qv (qd (g := gb356) (o := .cells #[.int .i64 t349, .int .i64 t350, .int .i64 t351, .int .i64 t352, .int .i64 t353] 28 (0, 0)) (by (with_reducible repeat (first | refine q5 ?_ _ | refine q6 ?_ | refine q7 ?_ _)); exact BK356.out)) : gb356 ≠ gb378)); have n11_ := qg ((by rw [hg]; exact qw (qd (g := gb356) (o := .cells #[.int .i64 t349, .int .i64 t350, .int .i64 t351, .int .i64 t352, .int .i64 t353] 28 (0, 0)) (by (with_reducible repeat (first | refine q5 ?_ _ | refine q6 ?_ | refine q7 ?_ _)); exact BK356.out)) : gb378 ≠ gb356)); have n12_ := qg ((by rw [hg]; exact qv (qd (g := gb357) (o := .cells #[.int .i64 t354, .int .i64 t355] 26 (0, 0)) (by (with_reducible repeat (first | refine q5 ?_ _ | refine q6 ?_ | refine q7 ?_ _)); exact BK357.out)) : gb357 ≠ gb378)); have n13_ := qg ((by rw [hg]; exact qw (qd (g := gb357) (o := .cells #[.int .i64 t354, .int .i64 t355] 26 (0, 0)) (by (with_reducible repeat (first | refine q5 ?_ _ | refine q6 ?_ | refine q7 ?_ _)); exact BK357.out)) : gb378 ≠ gb357)); have n14_ := qg ((by rw [hg]; exact qv (qd (g := gb371) (o := .cells #[.int .i64 t366, .int .i64 t367, .int .i64 t368, .int .i64 t369, .int .i64 t370] 28 (0, 0)) (by (with_reducible repeat (first | refine q5 ?_ _ | refine q6 ?_ | refine q7 ?_ _)); exact BK371.out)) : gb371 ≠ gb378)); have n15_ := qg ((by rw [hg]; exact qw (qd (g := gb371) (o := .cells #[.int .i64 t366, .int .i64 t367, .int .i64 t368, .int .i64 t369, .int .i64 t370] 28 (0, 0)) (by (with_reducible repeat (first | refine q5 ?_ _ | refine q6 ?_ | refine q7 ?_ _)); exact BK371.out)) : gb378 ≠ gb371)); clear BK348; clear BK356; clear BK357; clear BK371; clear HB; have BK348 := n0_; have BK356 := n1_; have BK357 := n2_; have BK371 := n3_; have HB := n4_; have BK378 := n5_; have GW378 := n6_; have GE378 := n7_; have NB348_378 := n8_; have NB378_348 := n9_; have NB356_378 := n10_; have NB378_356 := n11_; have NB357_378 := n12_; have NB378_357 := n13_; have NB371_378 := n14_; have NB378_371 := n15_; clear n0_ n1_ n2_ n3_ n4_ n5_ n6_ n7_ n8_ n9_ n10_ n11_ n12_ n13_ n14_ n15_; clear hb hbox hg; have hnb56 := NB378_348.out; have hnc56 := NB348_378.out; have hnb57 := NB378_356.out; have hnc57 := NB356_378.out; have hnb58 := NB378_357.out; have hnc58 := NB357_378.out; have hnb59 := NB378_371.out; have hnc59 := NB371_378.out; have hcz60_0 : w55.cell? ⟨gb378, 0, none⟩ = some (.int .i64 0) := (qc BK378.out 0).trans rfl; have hcz60_1 : w55.cell? ⟨gb378, 1, none⟩ = some (.int .i64 0) := (qc BK378.out 1).trans rfl; have hcz60_2 : w55.cell? ⟨gb378, 2, none⟩ = some (.int .i64 0) := (qc BK378.out 2).trans rfl; have hcz60_3 : w55.cell? ⟨gb378, 3, none⟩ = some (.int .i64 0) := (qc BK378.out 3).trans rfl; have hcz60_4 : w55.cell? ⟨gb378, 4, none⟩ = some (.int .i64 0) := (qc BK378.out 4).trans rfl; have hfz60_0 := qb BK378.out 0; have hfz60_1 := qb BK378.out 1; have hfz60_2 := qb BK378.out 2; have hfz60_3 := qb BK378.out 3; have hfz60_4 := qb BK378.out 4))
    go_loopg [10] k (fun kq v10 w' => ∃ (x10_1 : Int), v10 = .int .i64 x10_1 ∧ Aside0 (laws_FnMovedJet.l0 kq t347 t377 x10_1 t342 t343 t344 t345 t346 t354 t355 t366 t367 t368 t369 t370 t372 t373 t374 t375 t376 = some r) ∧ Aside0 (kq ≤ k) ∧ Aside0 (w'.heap[gb348]? = some (.cells #[.int .i64 t342, .int .i64 t343, .int .i64 t344, .int .i64 t345, .int .i64 t346] 28 (0, 0))) ∧ Aside0 (w'.heap[gb356]? = some (.cells #[.int .i64 t349, .int .i64 t350, .int .i64 t351, .int .i64 t352, .int .i64 t353] 28 (0, 0))) ∧ Aside0 (w'.heap[gb357]? = some (.cells #[.int .i64 t354, .int .i64 t355] 26 (0, 0))) ∧ Aside0 (w'.heap[gb371]? = some (.cells #[.int .i64 t366, .int .i64 t367, .int .i64 t368, .int .i64 t369, .int .i64 t370] 28 (0, 0))) ∧ Aside0 (w'.heap[gb378]? = some (.cells #[.int .i64 t372, .int .i64 t373, .int .i64 t374, .int .i64 t375, .int .i64 t376] 28 (0, 0))) ∧ Aside0 (Below w.heap.size w w'))
    case atStart => exact ⟨(0), (by first | rfl | (simp; done) | (simp [*]; done)), H', ⟨Nat.le_refl _⟩, ⟨by (with_reducible repeat (first | refine q5 ?_ _ | refine q6 ?_ | refine q7 ?_ _)); refine qe ?_ NB348_378.out _; (with_reducible repeat (first | refine q5 ?_ _ | refine q6 ?_ | refine q7 ?_ _)); refine qe ?_ NB348_378.out _; (with_reducible repeat (first | refine q5 ?_ _ | refine q6 ?_ | refine q7 ?_ _)); refine qe ?_ NB348_378.out _; (with_reducible repeat (first | refine q5 ?_ _ | refine q6 ?_ | refine q7 ?_ _)); refine qe ?_ NB348_378.out _; (with_reducible repeat (first | refine q5 ?_ _ | refine q6 ?_ | refine q7 ?_ _)); refine qe ?_ NB348_378.out _; (with_reducible repeat (first | refine q5 ?_ _ | refine q6 ?_ | refine q7 ?_ _)); exact BK348.out⟩, ⟨by (with_reducible repeat (first | refine q5 ?_ _ | refine q6 ?_ | refine q7 ?_ _)); refine qe ?_ NB356_378.out _; (with_reducible repeat (first | refine q5 ?_ _ | refine q6 ?_ | refine q7 ?_ _)); refine qe ?_ NB356_378.out _; (with_reducible repeat (first | refine q5 ?_ _ | refine q6 ?_ | refine q7 ?_ _)); refine qe ?_ NB356_378.out _; (with_reducible repeat (first | refine q5 ?_ _ | refine q6 ?_ | refine q7 ?_ _)); refine qe ?_ NB356_378.out _; (with_reducible repeat (first | refine q5 ?_ _ | refine q6 ?_ | refine q7 ?_ _)); refine qe ?_ NB356_378.out _; (with_reducible repeat (first | refine q5 ?_ _ | refine q6 ?_ | refine q7 ?_ _)); exact BK356.out⟩, ⟨by (with_reducible repeat (first | refine q5 ?_ _ | refine q6 ?_ | refine q7 ?_ _)); refine qe ?_ NB357_378.out _; (with_reducible repeat (first | refine q5 ?_ _ | refine q6 ?_ | refine q7 ?_ _)); refine qe ?_ NB357_378.out _; (with_reducible repeat (first | refine q5 ?_ _ | refine q6 ?_ | refine q7 ?_ _)); refine qe ?_ NB357_378.out _; (with_reducible repeat (first | refine q5 ?_ _ | refine q6 ?_ | refine q7 ?_ _)); refine qe ?_ NB357_378.out _; (with_reducible repeat (first | refine q5 ?_ _ | refine q6 ?_ | refine q7 ?_ _)); refine qe ?_ NB357_378.out _; (with_reducible repeat (first | refine q5 ?_ _ | refine q6 ?_ | refine q7 ?_ _)); exact BK357.out⟩, ⟨by (with_reducible repeat (first | refine q5 ?_ _ | refine q6 ?_ | refine q7 ?_ _)); refine qe ?_ NB371_378.out _; (with_reducible repeat (first | refine q5 ?_ _ | refine q6 ?_ | refine q7 ?_ _)); refine qe ?_ NB371_378.out _; (with_reducible repeat (first | refine q5 ?_ _ | refine q6 ?_ | refine q7 ?_ _)); refine qe ?_ NB371_378.out _; (with_reducible repeat (first | refine q5 ?_ _ | refine q6 ?_ | refine q7 ?_ _)); refine qe ?_ NB371_378.out _; (with_reducible repeat (first | refine q5 ?_ _ | refine q6 ?_ | refine q7 ?_ _)); refine qe ?_ NB371_378.out _; (with_reducible repeat (first | refine q5 ?_ _ | refine q6 ?_ | refine q7 ?_ _)); exact BK371.out⟩, ⟨by (with_reducible repeat (first | refine q5 ?_ _ | refine q6 ?_ | refine q7 ?_ _)); refine qf (cs := #[.int .i64 t372, .int .i64 t373, .int .i64 t374, .int .i64 t375, .int .i64 0]) ?_ 4 _ rfl; (with_reducible repeat (first | refine q5 ?_ _ | refine q6 ?_ | refine q7 ?_ _)); refine qf (cs := #[.int .i64 t372, .int .i64 t373, .int .i64 t374, .int .i64 0, .int .i64 0]) ?_ 3 _ rfl; (with_reducible repeat (first | refine q5 ?_ _ | refine q6 ?_ | refine q7 ?_ _)); refine qf (cs := #[.int .i64 t372, .int .i64 t373, .int .i64 0, .int .i64 0, .int .i64 0]) ?_ 2 _ rfl; (with_reducible repeat (first | refine q5 ?_ _ | refine q6 ?_ | refine q7 ?_ _)); refine qf (cs := #[.int .i64 t372, .int .i64 0, .int .i64 0, .int .i64 0, .int .i64 0]) ?_ 1 _ rfl; (with_reducible repeat (first | refine q5 ?_ _ | refine q6 ?_ | refine q7 ?_ _)); refine qf (cs := #[.int .i64 0, .int .i64 0, .int .i64 0, .int .i64 0, .int .i64 0]) ?_ 0 _ rfl; (with_reducible repeat (first | refine q5 ?_ _ | refine q6 ?_ | refine q7 ?_ _)); exact BK378.out⟩, ⟨by repeat (first | (with_reducible first | exact HB.out | apply q1 | apply q2 | apply q3 | refine q4 ?_ GE348.out | refine q4 ?_ GE356.out | refine q4 ?_ GE357.out | refine q4 ?_ GE371.out | refine q4 ?_ GE378.out) | exact HB.out)⟩⟩
    case round =>
     clear H'
     try clear c1
     try clear c2
     try clear p2
     try clear c3
     try clear c4
     try clear c5
     try clear c8
     try clear c8b0
     try clear c8b1
     try clear c8b2
     try clear c14
     try clear c15
     try clear c16
     try clear c17
     try clear c18
     try clear c25
     try clear c34
     try clear c35
     try clear c37
     try clear c48
     try clear c49
     try clear c50
     try clear c54
     try clear c55
     try clear c56
     try clear c57
     try clear c58
     try clear c59
     try clear hcz11_0
     try clear hcz11_1
     try clear hcz11_2
     try clear hcz11_3
     try clear hcz11_4
     try clear hcz17_0
     try clear hcz17_1
     try clear hcz17_2
     try clear hcz17_3
     try clear hcz17_4
     try clear hcz19_0
     try clear hcz19_1
     try clear hcz30_0
     try clear hcz30_1
     try clear hcz30_2
     try clear hcz30_3
     try clear hcz30_4
     try clear hcz36_0
     try clear hcz36_1
     try clear hcz36_2
     try clear hcz36_3
     try clear hcz36_4
     try clear hcz38_0
     try clear hcz38_1
     try clear hcz43_0
     try clear hcz43_1
     try clear hcz43_2
     try clear hcz43_3
     try clear hcz43_4
     try clear hcz45_0
     try clear hcz45_1
     try clear hcz45_2
     try clear hcz45_3
     try clear hcz45_4
     try clear hcz51_0
     try clear hcz51_1
     try clear hcz51_2
     try clear hcz51_3
     try clear hcz51_4
     try clear hcz52_0
     try clear hcz52_1
     try clear hcz52_2
     try clear hcz52_3
     try clear hcz52_4
     try clear hcz53_0
     try clear hcz53_1
     try clear hcz60_0
     try clear hcz60_1
     try clear hcz60_2
     try clear hcz60_3
     try clear hcz60_4
     try clear hfz11_0
     try clear hfz11_1
     try clear hfz11_2
     try clear hfz11_3
     try clear hfz11_4
     try clear hfz17_0
     try clear hfz17_1
     try clear hfz17_2
     try clear hfz17_3
     try clear hfz17_4
     try clear hfz19_0
     try clear hfz19_1
     try clear hfz30_0
     try clear hfz30_1
     try clear hfz30_2
     try clear hfz30_3
     try clear hfz30_4
     try clear hfz36_0
     try clear hfz36_1
     try clear hfz36_2
     try clear hfz36_3
     try clear hfz36_4
     try clear hfz38_0
     try clear hfz38_1
     try clear hfz43_0
     try clear hfz43_1
     try clear hfz43_2
     try clear hfz43_3
     try clear hfz43_4
     try clear hfz45_0
     try clear hfz45_1
     try clear hfz45_2
     try clear hfz45_3
     try clear hfz45_4
     try clear hfz51_0
     try clear hfz51_1
     try clear hfz51_2
     try clear hfz51_3
     try clear hfz51_4
     try clear hfz52_0
     try clear hfz52_1
     try clear hfz52_2
     try clear hfz52_3
     try clear hfz52_4
     try clear hfz53_0
     try clear hfz53_1
     try clear hfz60_0
     try clear hfz60_1
     try clear hfz60_2
     try clear hfz60_3
     try clear hfz60_4
     obtain ⟨x10_1, rfl, HA, HK1, BK348, BK356, BK357, BK371, BK378, HB⟩ := hrel
     cases gk with
     | zero => exact absurd HA.out (by simp [laws_FnMovedJet.l0])
     | succ k1 =>
      have H := HA.out
      clear HA
      simp only [laws_FnMovedJet.l0] at H
      replace H := Option.bind_eq_some_iff.mp H
      obtain ⟨t379, A610, H⟩ := H
      replace H : (if x10_1 ≤ t379 then ((impl_PlaceAt.f k1 t342 t343 t344 t345 t346 x10_1).bind fun bt382 => ((impl_PlaceAt.f k1 t366 t367 t368 t369 t370 x10_1).bind fun bt386 => ((impl_PlaceAt.f k1 t372 t373 t374 t375 t376 x10_1).bind fun bt390 => ((impl_TurnPlace.f k1 bt382.1 bt382.2.1 t347).bind fun bt394 => (if (!(bt386.1 == bt394.1) || (!(bt386.2.1 == bt394.2))) = true then (some false) else ((impl_HeightAt.f t342 t343 t344 t345 t346 x10_1).bind fun t396 => ((impl_HeightAt.f t366 t367 t368 t369 t370 x10_1).bind fun t397 => (if t396 = t397 then (if t377 = true then (if bt390.2.2 = true then ((laws_plus.f bt382.1 bt382.2.1 t354 t355).bind fun bt398 => (if (!(bt390.1 == bt398.1) || (!(bt390.2.1 == bt398.2))) = true then (some false) else (laws_FnMovedJet.l0 k1 t347 t377 (wrap64 (x10_1 + 1)) t342 t343 t344 t345 t346 t354 t355 t366 t367 t368 t369 t370 t372 t373 t374 t375 t376))) else (some false)) else (laws_FnMovedJet.l0 k1 t347 t377 (wrap64 (x10_1 + 1)) t342 t343 t344 t345 t346 t354 t355 t366 t367 t368 t369 t370 t372 t373 t374 t375 t376)) else (some false))))))))) else ((impl_IsJet.f t366 t367 t368 t369 t370).bind fun t380 => (if t380 = true then (if t377 = true then ((impl_IsJet.f t372 t373 t374 t375 t376).bind fun t381 => (some t381)) else (some true)) else (some false)))) = some r := H
      have A61 := qg A610
      clear A610
      by_cases c62 : x10_1 ≤ t379
      ·rw [if_pos c62] at H
       have c62b0 : decide (x10_1 ≤ t379) = true := decide_eq_true c62
       clear c62
       replace H := Option.bind_eq_some_iff.mp H
       obtain ⟨⟨t382, t383, t384⟩, A630, H⟩ := H
       replace H : ((impl_PlaceAt.f k1 t366 t367 t368 t369 t370 x10_1).bind fun bt386 => ((impl_PlaceAt.f k1 t372 t373 t374 t375 t376 x10_1).bind fun bt390 => ((impl_TurnPlace.f k1 t382 t383 t347).bind fun bt394 => (if (!(bt386.1 == bt394.1) || (!(bt386.2.1 == bt394.2))) = true then (some false) else ((impl_HeightAt.f t342 t343 t344 t345 t346 x10_1).bind fun t396 => ((impl_HeightAt.f t366 t367 t368 t369 t370 x10_1).bind fun t397 => (if t396 = t397 then (if t377 = true then (if bt390.2.2 = true then ((laws_plus.f t382 t383 t354 t355).bind fun bt398 => (if (!(bt390.1 == bt398.1) || (!(bt390.2.1 == bt398.2))) = true then (some false) else (laws_FnMovedJet.l0 k1 t347 t377 (wrap64 (x10_1 + 1)) t342 t343 t344 t345 t346 t354 t355 t366 t367 t368 t369 t370 t372 t373 t374 t375 t376))) else (some false)) else (laws_FnMovedJet.l0 k1 t347 t377 (wrap64 (x10_1 + 1)) t342 t343 t344 t345 t346 t354 t355 t366 t367 t368 t369 t370 t372 t373 t374 t375 t376)) else (some false)))))))) = some r := H
       have A63 := qg A630
       clear A630
       replace H := Option.bind_eq_some_iff.mp H
       obtain ⟨⟨t386, t387, t388⟩, A640, H⟩ := H
       replace H : ((impl_PlaceAt.f k1 t372 t373 t374 t375 t376 x10_1).bind fun bt390 => ((impl_TurnPlace.f k1 t382 t383 t347).bind fun bt394 => (if (!(t386 == bt394.1) || (!(t387 == bt394.2))) = true then (some false) else ((impl_HeightAt.f t342 t343 t344 t345 t346 x10_1).bind fun t396 => ((impl_HeightAt.f t366 t367 t368 t369 t370 x10_1).bind fun t397 => (if t396 = t397 then (if t377 = true then (if bt390.2.2 = true then ((laws_plus.f t382 t383 t354 t355).bind fun bt398 => (if (!(bt390.1 == bt398.1) || (!(bt390.2.1 == bt398.2))) = true then (some false) else (laws_FnMovedJet.l0 k1 t347 t377 (wrap64 (x10_1 + 1)) t342 t343 t344 t345 t346 t354 t355 t366 t367 t368 t369 t370 t372 t373 t374 t375 t376))) else (some false)) else (laws_FnMovedJet.l0 k1 t347 t377 (wrap64 (x10_1 + 1)) t342 t343 t344 t345 t346 t354 t355 t366 t367 t368 t369 t370 t372 t373 t374 t375 t376)) else (some false))))))) = some r := H
       have A64 := qg A640
       clear A640
       replace H := Option.bind_eq_some_iff.mp H
       obtain ⟨⟨t390, t391, t392⟩, A650, H⟩ := H
       replace H : ((impl_TurnPlace.f k1 t382 t383 t347).bind fun bt394 => (if (!(t386 == bt394.1) || (!(t387 == bt394.2))) = true then (some false) else ((impl_HeightAt.f t342 t343 t344 t345 t346 x10_1).bind fun t396 => ((impl_HeightAt.f t366 t367 t368 t369 t370 x10_1).bind fun t397 => (if t396 = t397 then (if t377 = true then (if t392 = true then ((laws_plus.f t382 t383 t354 t355).bind fun bt398 => (if (!(t390 == bt398.1) || (!(t391 == bt398.2))) = true then (some false) else (laws_FnMovedJet.l0 k1 t347 t377 (wrap64 (x10_1 + 1)) t342 t343 t344 t345 t346 t354 t355 t366 t367 t368 t369 t370 t372 t373 t374 t375 t376))) else (some false)) else (laws_FnMovedJet.l0 k1 t347 t377 (wrap64 (x10_1 + 1)) t342 t343 t344 t345 t346 t354 t355 t366 t367 t368 t369 t370 t372 t373 t374 t375 t376)) else (some false)))))) = some r := H
       have A65 := qg A650
       clear A650
       replace H := Option.bind_eq_some_iff.mp H
       obtain ⟨⟨t394, t395⟩, A660, H⟩ := H
       replace H : (if (!(t386 == t394) || (!(t387 == t395))) = true then (some false) else ((impl_HeightAt.f t342 t343 t344 t345 t346 x10_1).bind fun t396 => ((impl_HeightAt.f t366 t367 t368 t369 t370 x10_1).bind fun t397 => (if t396 = t397 then (if t377 = true then (if t392 = true then ((laws_plus.f t382 t383 t354 t355).bind fun bt398 => (if (!(t390 == bt398.1) || (!(t391 == bt398.2))) = true then (some false) else (laws_FnMovedJet.l0 k1 t347 t377 (wrap64 (x10_1 + 1)) t342 t343 t344 t345 t346 t354 t355 t366 t367 t368 t369 t370 t372 t373 t374 t375 t376))) else (some false)) else (laws_FnMovedJet.l0 k1 t347 t377 (wrap64 (x10_1 + 1)) t342 t343 t344 t345 t346 t354 t355 t366 t367 t368 t369 t370 t372 t373 t374 t375 t376)) else (some false))))) = some r := H
       have A66 := qg A660
       clear A660
       by_cases c67 : (!(t386 == t394) || (!(t387 == t395))) = true
       ·rw [if_pos c67] at H
        have c67b0 : (!(t386 == t394) || (!(t387 == t395))) = true := c67
        clear c67
        obtain rfl := Option.some.inj H
        exact absurd HR.out (by decide)
       ·rw [if_neg c67] at H
        have c67b0 : (!(t386 == t394) || (!(t387 == t395))) = false := by simpa using c67
        clear c67
        replace H := Option.bind_eq_some_iff.mp H
        obtain ⟨t396, A1120, H⟩ := H
        replace H : ((impl_HeightAt.f t366 t367 t368 t369 t370 x10_1).bind fun t397 => (if t396 = t397 then (if t377 = true then (if t392 = true then ((laws_plus.f t382 t383 t354 t355).bind fun bt398 => (if (!(t390 == bt398.1) || (!(t391 == bt398.2))) = true then (some false) else (laws_FnMovedJet.l0 k1 t347 t377 (wrap64 (x10_1 + 1)) t342 t343 t344 t345 t346 t354 t355 t366 t367 t368 t369 t370 t372 t373 t374 t375 t376))) else (some false)) else (laws_FnMovedJet.l0 k1 t347 t377 (wrap64 (x10_1 + 1)) t342 t343 t344 t345 t346 t354 t355 t366 t367 t368 t369 t370 t372 t373 t374 t375 t376)) else (some false))) = some r := H
        have A112 := qg A1120
        clear A1120
        replace H := Option.bind_eq_some_iff.mp H
        obtain ⟨t397, A1130, H⟩ := H
        replace H : (if t396 = t397 then (if t377 = true then (if t392 = true then ((laws_plus.f t382 t383 t354 t355).bind fun bt398 => (if (!(t390 == bt398.1) || (!(t391 == bt398.2))) = true then (some false) else (laws_FnMovedJet.l0 k1 t347 t377 (wrap64 (x10_1 + 1)) t342 t343 t344 t345 t346 t354 t355 t366 t367 t368 t369 t370 t372 t373 t374 t375 t376))) else (some false)) else (laws_FnMovedJet.l0 k1 t347 t377 (wrap64 (x10_1 + 1)) t342 t343 t344 t345 t346 t354 t355 t366 t367 t368 t369 t370 t372 t373 t374 t375 t376)) else (some false)) = some r := H
        have A113 := qg A1130
        clear A1130
        by_cases c114 : t396 = t397
        ·rw [if_pos c114] at H
         have c114b0 : (t396 == t397) = true := beq_iff_eq.mpr c114
         have c114b1 : (t396 != t397) = false := bne_eq_false_iff_eq.mpr c114
         clear c114
         by_cases c115 : t377 = true
         ·subst c115
          have H1 : (if t392 = true then ((laws_plus.f t382 t383 t354 t355).bind fun bt398 => (if (!(t390 == bt398.1) || (!(t391 == bt398.2))) = true then (some false) else (laws_FnMovedJet.l0 k1 t347 true (wrap64 (x10_1 + 1)) t342 t343 t344 t345 t346 t354 t355 t366 t367 t368 t369 t370 t372 t373 t374 t375 t376))) else (some false)) = some r := by rw [if_pos rfl] at H; exact H
          clear H
          have H := H1
          clear H1
          by_cases c116 : t392 = true
          ·subst c116
           have H1 : ((laws_plus.f t382 t383 t354 t355).bind fun bt398 => (if (!(t390 == bt398.1) || (!(t391 == bt398.2))) = true then (some false) else (laws_FnMovedJet.l0 k1 t347 true (wrap64 (x10_1 + 1)) t342 t343 t344 t345 t346 t354 t355 t366 t367 t368 t369 t370 t372 t373 t374 t375 t376))) = some r := by rw [if_pos rfl] at H; exact H
           clear H
           have H := H1
           clear H1
           replace H := Option.bind_eq_some_iff.mp H
           obtain ⟨⟨t398, t399⟩, A1170, H⟩ := H
           replace H : (if (!(t390 == t398) || (!(t391 == t399))) = true then (some false) else (laws_FnMovedJet.l0 k1 t347 true (wrap64 (x10_1 + 1)) t342 t343 t344 t345 t346 t354 t355 t366 t367 t368 t369 t370 t372 t373 t374 t375 t376)) = some r := H
           have A117 := qg A1170
           clear A1170
           by_cases c118 : (!(t390 == t398) || (!(t391 == t399))) = true
           ·rw [if_pos c118] at H
            have c118b0 : (!(t390 == t398) || (!(t391 == t399))) = true := c118
            clear c118
            obtain rfl := Option.some.inj H
            exact absurd HR.out (by decide)
           ·rw [if_neg c118] at H
            have c118b0 : (!(t390 == t398) || (!(t391 == t399))) = false := by simpa using c118
            clear c118
            have H' := qg H
            clear H
            have hnb166 := NB348_356.out
            have hnc166 := NB356_348.out
            have hnb167 := NB348_357.out
            have hnc167 := NB357_348.out
            have hnb168 := NB348_371.out
            have hnc168 := NB371_348.out
            have hnb169 := NB348_378.out
            have hnc169 := NB378_348.out
            have hcz170_0 : wr.cell? ⟨gb348, 0, none⟩ = some (.int .i64 t342) := (qc BK348.out 0).trans rfl
            have hcz170_1 : wr.cell? ⟨gb348, 1, none⟩ = some (.int .i64 t343) := (qc BK348.out 1).trans rfl
            have hcz170_2 : wr.cell? ⟨gb348, 2, none⟩ = some (.int .i64 t344) := (qc BK348.out 2).trans rfl
            have hcz170_3 : wr.cell? ⟨gb348, 3, none⟩ = some (.int .i64 t345) := (qc BK348.out 3).trans rfl
            have hcz170_4 : wr.cell? ⟨gb348, 4, none⟩ = some (.int .i64 t346) := (qc BK348.out 4).trans rfl
            have hfz170_0 := qb BK348.out 0
            have hfz170_1 := qb BK348.out 1
            have hfz170_2 := qb BK348.out 2
            have hfz170_3 := qb BK348.out 3
            have hfz170_4 := qb BK348.out 4
            try go_wp2_with (first | ((with_reducible refine qt (f := 56) rfl ?_); refine goesL_ (some 53) rfl rfl Try.func56 (by kernel_rfl) rfl #[.agg #[.int .i64 t342, .int .i64 t343, .int .i64 t344, .int .i64 t345, .int .i64 t346]] rfl (by (try simp only [List.map_toArray, List.map_cons, List.map_nil]); first | done | rfl | (simp only [List.length_drop, List.length_take]; rfl)) ?_; (with_reducible refine (impl_FlightOf.calls t342 t343 t344 t345 t346 t379 _ A61.out).mono ?_); rintro e w171 ⟨rfl, hb⟩; refine ⟨_, rfl, ?_⟩; have n0_ := qg (q8 (g := gb348) (o := .cells #[.int .i64 t342, .int .i64 t343, .int .i64 t344, .int .i64 t345, .int .i64 t346] 28 (0, 0)) (by (with_reducible repeat (first | refine q5 ?_ _ | refine q6 ?_ | refine q7 ?_ _)); exact BK348.out) hb); have n1_ := qg (q8 (g := gb356) (o := .cells #[.int .i64 t349, .int .i64 t350, .int .i64 t351, .int .i64 t352, .int .i64 t353] 28 (0, 0)) (by (with_reducible repeat (first | refine q5 ?_ _ | refine q6 ?_ | refine q7 ?_ _)); exact BK356.out) hb); have n2_ := qg (q8 (g := gb357) (o := .cells #[.int .i64 t354, .int .i64 t355] 26 (0, 0)) (by (with_reducible repeat (first | refine q5 ?_ _ | refine q6 ?_ | refine q7 ?_ _)); exact BK357.out) hb); have n3_ := qg (q8 (g := gb371) (o := .cells #[.int .i64 t366, .int .i64 t367, .int .i64 t368, .int .i64 t369, .int .i64 t370] 28 (0, 0)) (by (with_reducible repeat (first | refine q5 ?_ _ | refine q6 ?_ | refine q7 ?_ _)); exact BK371.out) hb); have n4_ := qg (q8 (g := gb378) (o := .cells #[.int .i64 t372, .int .i64 t373, .int .i64 t374, .int .i64 t375, .int .i64 t376] 28 (0, 0)) (by (with_reducible repeat (first | refine q5 ?_ _ | refine q6 ?_ | refine q7 ?_ _)); exact BK378.out) hb); have n5_ := qg (q9 (by repeat (first | (with_reducible first | exact HB.out | apply q1 | apply q2 | apply q3 | refine q4 ?_ GE348.out | refine q4 ?_ GE356.out | refine q4 ?_ GE357.out | refine q4 ?_ GE371.out | refine q4 ?_ GE378.out) | exact HB.out)) hb); clear BK348; clear BK356; clear BK357; clear BK371; clear BK378; clear HB; have BK348 := n0_; have BK356 := n1_; have BK357 := n2_; have BK371 := n3_; have BK378 := n4_; have HB := n5_; clear n0_ n1_ n2_ n3_ n4_ n5_; (try clear hb); (try clear hb2); (try clear hk); (try clear hi); have hcz172_0 : w171.cell? ⟨gb348, 0, none⟩ = some (.int .i64 t342) := (qc BK348.out 0).trans rfl; have hcz172_1 : w171.cell? ⟨gb348, 1, none⟩ = some (.int .i64 t343) := (qc BK348.out 1).trans rfl; have hcz172_2 : w171.cell? ⟨gb348, 2, none⟩ = some (.int .i64 t344) := (qc BK348.out 2).trans rfl; have hcz172_3 : w171.cell? ⟨gb348, 3, none⟩ = some (.int .i64 t345) := (qc BK348.out 3).trans rfl; have hcz172_4 : w171.cell? ⟨gb348, 4, none⟩ = some (.int .i64 t346) := (qc BK348.out 4).trans rfl; have hfz172_0 := qb BK348.out 0; have hfz172_1 := qb BK348.out 1; have hfz172_2 := qb BK348.out 2; have hfz172_3 := qb BK348.out 3; have hfz172_4 := qb BK348.out 4) | ((with_reducible refine qt (f := 26) rfl ?_); refine goesL_ (some 60) rfl rfl Try.func26 (by kernel_rfl) rfl #[.agg #[.int .i64 t342, .int .i64 t343, .int .i64 t344, .int .i64 t345, .int .i64 t346], .int .i64 x10_1] rfl (by (try simp only [List.map_toArray, List.map_cons, List.map_nil]); first | done | rfl | (simp only [List.length_drop, List.length_take]; rfl)) ?_; (with_reducible refine (impl_PlaceAt.calls k1 t342 t343 t344 t345 t346 x10_1 t382 t383 t384 _ A63.out).mono ?_); rintro e w173 ⟨rfl, hb⟩; refine ⟨_, rfl, ?_⟩; have n0_ := qg (q8 (g := gb348) (o := .cells #[.int .i64 t342, .int .i64 t343, .int .i64 t344, .int .i64 t345, .int .i64 t346] 28 (0, 0)) (by (with_reducible repeat (first | refine q5 ?_ _ | refine q6 ?_ | refine q7 ?_ _)); exact BK348.out) hb); have n1_ := qg (q8 (g := gb356) (o := .cells #[.int .i64 t349, .int .i64 t350, .int .i64 t351, .int .i64 t352, .int .i64 t353] 28 (0, 0)) (by (with_reducible repeat (first | refine q5 ?_ _ | refine q6 ?_ | refine q7 ?_ _)); exact BK356.out) hb); have n2_ := qg (q8 (g := gb357) (o := .cells #[.int .i64 t354, .int .i64 t355] 26 (0, 0)) (by (with_reducible repeat (first | refine q5 ?_ _ | refine q6 ?_ | refine q7 ?_ _)); exact BK357.out) hb); have n3_ := qg (q8 (g := gb371) (o := .cells #[.int .i64 t366, .int .i64 t367, .int .i64 t368, .int .i64 t369, .int .i64 t370] 28 (0, 0)) (by (with_reducible repeat (first | refine q5 ?_ _ | refine q6 ?_ | refine q7 ?_ _)); exact BK371.out) hb); have n4_ := qg (q8 (g := gb378) (o := .cells #[.int .i64 t372, .int .i64 t373, .int .i64 t374, .int .i64 t375, .int .i64 t376] 28 (0, 0)) (by (with_reducible repeat (first | refine q5 ?_ _ | refine q6 ?_ | refine q7 ?_ _)); exact BK378.out) hb); have n5_ := qg (q9 (by repeat (first | (with_reducible first | exact HB.out | apply q1 | apply q2 | apply q3 | refine q4 ?_ GE348.out | refine q4 ?_ GE356.out | refine q4 ?_ GE357.out | refine q4 ?_ GE371.out | refine q4 ?_ GE378.out) | exact HB.out)) hb); clear BK348; clear BK356; clear BK357; clear BK371; clear BK378; clear HB; have BK348 := n0_; have BK356 := n1_; have BK357 := n2_; have BK371 := n3_; have BK378 := n4_; have HB := n5_; clear n0_ n1_ n2_ n3_ n4_ n5_; (try clear hb); (try clear hb2); (try clear hk); (try clear hi)) | ((with_reducible refine qu (N := 11) rfl ?_); refine qh ?hg (N := 11) ?hd (cs := #[.int .i64 0, .int .i64 0]) (t := 26) ?hr ?_; (case hd => rfl); (case hg => rfl); (case hr => first | (go_simp; done) | (go_simp; rfl)); intro gb385 hg w174 hbox hb; have n0_ := qg (q8 (g := gb348) (o := .cells #[.int .i64 t342, .int .i64 t343, .int .i64 t344, .int .i64 t345, .int .i64 t346] 28 (0, 0)) (by (with_reducible repeat (first | refine q5 ?_ _ | refine q6 ?_ | refine q7 ?_ _)); exact BK348.out) hb); have n1_ := qg (q8 (g := gb356) (o := .cells #[.int .i64 t349, .int .i64 t350, .int .i64 t351, .int .i64 t352, .int .i64 t353] 28 (0, 0)) (by (with_reducible repeat (first | refine q5 ?_ _ | refine q6 ?_ | refine q7 ?_ _)); exact BK356.out) hb); have n2_ := qg (q8 (g := gb357) (o := .cells #[.int .i64 t354, .int .i64 t355] 26 (0, 0)) (by (with_reducible repeat (first | refine q5 ?_ _ | refine q6 ?_ | refine q7 ?_ _)); exact BK357.out) hb); have n3_ := qg (q8 (g := gb371) (o := .cells #[.int .i64 t366, .int .i64 t367, .int .i64 t368, .int .i64 t369, .int .i64 t370] 28 (0, 0)) (by (with_reducible repeat (first | refine q5 ?_ _ | refine q6 ?_ | refine q7 ?_ _)); exact BK371.out) hb); have n4_ := qg (q8 (g := gb378) (o := .cells #[.int .i64 t372, .int .i64 t373, .int .i64 t374, .int .i64 t375, .int .i64 t376] 28 (0, 0)) (by (with_reducible repeat (first | refine q5 ?_ _ | refine q6 ?_ | refine q7 ?_ _)); exact BK378.out) hb); have n5_ := qg (q9 (by repeat (first | (with_reducible first | exact HB.out | apply q1 | apply q2 | apply q3 | refine q4 ?_ GE348.out | refine q4 ?_ GE356.out | refine q4 ?_ GE357.out | refine q4 ?_ GE371.out | refine q4 ?_ GE378.out) | exact HB.out)) hb); have n6_ := qg (hbox); have n7_ := qg ((by rw [hg]; exact (qa (by repeat (first | (with_reducible first | exact HB.out | apply q1 | apply q2 | apply q3 | refine q4 ?_ GE348.out | refine q4 ?_ GE356.out | refine q4 ?_ GE357.out | refine q4 ?_ GE371.out | refine q4 ?_ GE378.out) | exact HB.out))) : w.heap.size ≤ gb385)); have n8_ := qg ((by rw [hg]; exact (qa (by repeat (first | (with_reducible first | exact HB.out | apply q1 | apply q2 | apply q3 | refine q4 ?_ GE348.out | refine q4 ?_ GE356.out | refine q4 ?_ GE357.out | refine q4 ?_ GE371.out | refine q4 ?_ GE378.out) | exact HB.out))) : w.heap.size ≤ gb385)); have n9_ := qg ((by rw [hg]; exact qv (qd (g := gb348) (o := .cells #[.int .i64 t342, .int .i64 t343, .int .i64 t344, .int .i64 t345, .int .i64 t346] 28 (0, 0)) (by (with_reducible repeat (first | refine q5 ?_ _ | refine q6 ?_ | refine q7 ?_ _)); exact BK348.out)) : gb348 ≠ gb385)); have n10_ := qg ((by rw [hg]; exact qw (qd (g := gb348) (o := .cells #[.int .i64 t342, .int .i64 t343, .int .i64 t344, .int .i64 t345, .int .i64 t346] 28 (0, 0)) (by (with_reducible repeat (first | refine q5 ?_ _ | refine q6 ?_ | refine q7 ?_ _)); exact BK348.out)) : gb385 ≠ gb348)); have n11_ := qg ((by rw [hg]; exact qv (qd (g := gb356) (o := .cells #[.int .i64 t349, .int .i64 t350, .int .i64 t351, .int .i64 t352, .int .i64 t353] 28 (0, 0)) (by (with_reducible repeat (first | refine q5 ?_ _ | refine q6 ?_ | refine q7 ?_ _)); exact BK356.out)) : gb356 ≠ gb385)); have n12_ := qg ((by rw [hg]; exact qw (qd (g := gb356) (o := .cells #[.int .i64 t349, .int .i64 t350, .int .i64 t351, .int .i64 t352, .int .i64 t353] 28 (0, 0)) (by (with_reducible repeat (first | refine q5 ?_ _ | refine q6 ?_ | refine q7 ?_ _)); exact BK356.out)) : gb385 ≠ gb356)); have n13_ := qg ((by rw [hg]; exact qv (qd (g := gb357) (o := .cells #[.int .i64 t354, .int .i64 t355] 26 (0, 0)) (by (with_reducible repeat (first | refine q5 ?_ _ | refine q6 ?_ | refine q7 ?_ _)); exact BK357.out)) : gb357 ≠ gb385)); have n14_ := qg ((by rw [hg]; exact qw (qd (g := gb357) (o := .cells #[.int .i64 t354, .int .i64 t355] 26 (0, 0)) (by (with_reducible repeat (first | refine q5 ?_ _ | refine q6 ?_ | refine q7 ?_ _)); exact BK357.out)) : gb385 ≠ gb357)); have n15_ := qg ((by rw [hg]; exact qv (qd (g := gb371) (o := .cells #[.int .i64 t366, .int .i64 t367, .int .i64 t368, .int .i64 t369, .int .i64 t370] 28 (0, 0)) (by (with_reducible repeat (first | refine q5 ?_ _ | refine q6 ?_ | refine q7 ?_ _)); exact BK371.out)) : gb371 ≠ gb385)); have n16_ := qg ((by rw [hg]; exact qw (qd (g := gb371) (o := .cells #[.int .i64 t366, .int .i64 t367, .int .i64 t368, .int .i64 t369, .int .i64 t370] 28 (0, 0)) (by (with_reducible repeat (first | refine q5 ?_ _ | refine q6 ?_ | refine q7 ?_ _)); exact BK371.out)) : gb385 ≠ gb371)); have n17_ := qg ((by rw [hg]; exact qv (qd (g := gb378) (o := .cells #[.int .i64 t372, .int .i64 t373, .int .i64 t374, .int .i64 t375, .int .i64 t376] 28 (0, 0)) (by (with_reducible repeat (first | refine q5 ?_ _ | refine q6 ?_ | refine q7 ?_ _)); exact BK378.out)) : gb378 ≠ gb385)); have n18_ := qg ((by rw [hg]; exact qw (qd (g := gb378) (o := .cells #[.int .i64 t372, .int .i64 t373, .int .i64 t374, .int .i64 t375, .int .i64 t376] 28 (0, 0)) (by (with_reducible repeat (first | refine q5 ?_ _ | refine q6 ?_ | refine q7 ?_ _)); exact BK378.out)) : gb385 ≠ gb378)); clear BK348; clear BK356; clear BK357; clear BK371; clear BK378; clear HB; have BK348 := n0_; have BK356 := n1_; have BK357 := n2_; have BK371 := n3_; have BK378 := n4_; have HB := n5_; have BK385 := n6_; have GW385 := n7_; have GE385 := n8_; have NB348_385 := n9_; have NB385_348 := n10_; have NB356_385 := n11_; have NB385_356 := n12_; have NB357_385 := n13_; have NB385_357 := n14_; have NB371_385 := n15_; have NB385_371 := n16_; have NB378_385 := n17_; have NB385_378 := n18_; clear n0_ n1_ n2_ n3_ n4_ n5_ n6_ n7_ n8_ n9_ n10_ n11_ n12_ n13_ n14_ n15_ n16_ n17_ n18_; clear hb hbox hg; have hnb175 := NB385_348.out; have hnc175 := NB348_385.out; have hnb176 := NB385_356.out; have hnc176 := NB356_385.out; have hnb177 := NB385_357.out; have hnc177 := NB357_385.out; have hnb178 := NB385_371.out; have hnc178 := NB371_385.out; have hnb179 := NB385_378.out; have hnc179 := NB378_385.out; have hcz180_0 : w174.cell? ⟨gb385, 0, none⟩ = some (.int .i64 0) := (qc BK385.out 0).trans rfl; have hcz180_1 : w174.cell? ⟨gb385, 1, none⟩ = some (.int .i64 0) := (qc BK385.out 1).trans rfl; have hfz180_0 := qb BK385.out 0; have hfz180_1 := qb BK385.out 1; have hnb181 := NB371_356.out; have hnc181 := NB356_371.out; have hnb182 := NB371_357.out; have hnc182 := NB357_371.out; have hnb183 := NB371_378.out; have hnc183 := NB378_371.out; have hcz184_0 : w174.cell? ⟨gb371, 0, none⟩ = some (.int .i64 t366) := (qc BK371.out 0).trans rfl; have hcz184_1 : w174.cell? ⟨gb371, 1, none⟩ = some (.int .i64 t367) := (qc BK371.out 1).trans rfl; have hcz184_2 : w174.cell? ⟨gb371, 2, none⟩ = some (.int .i64 t368) := (qc BK371.out 2).trans rfl; have hcz184_3 : w174.cell? ⟨gb371, 3, none⟩ = some (.int .i64 t369) := (qc BK371.out 3).trans rfl; have hcz184_4 : w174.cell? ⟨gb371, 4, none⟩ = some (.int .i64 t370) := (qc BK371.out 4).trans rfl; have hfz184_0 := qb BK371.out 0; have hfz184_1 := qb BK371.out 1; have hfz184_2 := qb BK371.out 2; have hfz184_3 := qb BK371.out 3; have hfz184_4 := qb BK371.out 4) | ((with_reducible refine qt (f := 26) rfl ?_); refine goesL_ (some 66) rfl rfl Try.func26 (by kernel_rfl) rfl #[.agg #[.int .i64 t366, .int .i64 t367, .int .i64 t368, .int .i64 t369, .int .i64 t370], .int .i64 x10_1] rfl (by (try simp only [List.map_toArray, List.map_cons, List.map_nil]); first | done | rfl | (simp only [List.length_drop, List.length_take]; rfl)) ?_; (with_reducible refine (impl_PlaceAt.calls k1 t366 t367 t368 t369 t370 x10_1 t386 t387 t388 _ A64.out).mono ?_); rintro e w185 ⟨rfl, hb⟩; refine ⟨_, rfl, ?_⟩; have n0_ := qg (q8 (g := gb348) (o := .cells #[.int .i64 t342, .int .i64 t343, .int .i64 t344, .int .i64 t345, .int .i64 t346] 28 (0, 0)) (by (with_reducible repeat (first | refine q5 ?_ _ | refine q6 ?_ | refine q7 ?_ _)); refine qe ?_ NB348_385.out _; (with_reducible repeat (first | refine q5 ?_ _ | refine q6 ?_ | refine q7 ?_ _)); refine qe ?_ NB348_385.out _; (with_reducible repeat (first | refine q5 ?_ _ | refine q6 ?_ | refine q7 ?_ _)); exact BK348.out) hb); have n1_ := qg (q8 (g := gb356) (o := .cells #[.int .i64 t349, .int .i64 t350, .int .i64 t351, .int .i64 t352, .int .i64 t353] 28 (0, 0)) (by (with_reducible repeat (first | refine q5 ?_ _ | refine q6 ?_ | refine q7 ?_ _)); refine qe ?_ NB356_385.out _; (with_reducible repeat (first | refine q5 ?_ _ | refine q6 ?_ | refine q7 ?_ _)); refine qe ?_ NB356_385.out _; (with_reducible repeat (first | refine q5 ?_ _ | refine q6 ?_ | refine q7 ?_ _)); exact BK356.out) hb); have n2_ := qg (q8 (g := gb357) (o := .cells #[.int .i64 t354, .int .i64 t355] 26 (0, 0)) (by (with_reducible repeat (first | refine q5 ?_ _ | refine q6 ?_ | refine q7 ?_ _)); refine qe ?_ NB357_385.out _; (with_reducible repeat (first | refine q5 ?_ _ | refine q6 ?_ | refine q7 ?_ _)); refine qe ?_ NB357_385.out _; (with_reducible repeat (first | refine q5 ?_ _ | refine q6 ?_ | refine q7 ?_ _)); exact BK357.out) hb); have n3_ := qg (q8 (g := gb371) (o := .cells #[.int .i64 t366, .int .i64 t367, .int .i64 t368, .int .i64 t369, .int .i64 t370] 28 (0, 0)) (by (with_reducible repeat (first | refine q5 ?_ _ | refine q6 ?_ | refine q7 ?_ _)); refine qe ?_ NB371_385.out _; (with_reducible repeat (first | refine q5 ?_ _ | refine q6 ?_ | refine q7 ?_ _)); refine qe ?_ NB371_385.out _; (with_reducible repeat (first | refine q5 ?_ _ | refine q6 ?_ | refine q7 ?_ _)); exact BK371.out) hb); have n4_ := qg (q8 (g := gb378) (o := .cells #[.int .i64 t372, .int .i64 t373, .int .i64 t374, .int .i64 t375, .int .i64 t376] 28 (0, 0)) (by (with_reducible repeat (first | refine q5 ?_ _ | refine q6 ?_ | refine q7 ?_ _)); refine qe ?_ NB378_385.out _; (with_reducible repeat (first | refine q5 ?_ _ | refine q6 ?_ | refine q7 ?_ _)); refine qe ?_ NB378_385.out _; (with_reducible repeat (first | refine q5 ?_ _ | refine q6 ?_ | refine q7 ?_ _)); exact BK378.out) hb); have n5_ := qg (q8 (g := gb385) (o := .cells #[.int .i64 t382, .int .i64 t383] 26 (0, 0)) (by (with_reducible repeat (first | refine q5 ?_ _ | refine q6 ?_ | refine q7 ?_ _)); refine qf (cs := #[.int .i64 t382, .int .i64 0]) ?_ 1 _ rfl; (with_reducible repeat (first | refine q5 ?_ _ | refine q6 ?_ | refine q7 ?_ _)); refine qf (cs := #[.int .i64 0, .int .i64 0]) ?_ 0 _ rfl; (with_reducible repeat (first | refine q5 ?_ _ | refine q6 ?_ | refine q7 ?_ _)); exact BK385.out) hb); have n6_ := qg (q9 (by repeat (first | (with_reducible first | exact HB.out | apply q1 | apply q2 | apply q3 | refine q4 ?_ GE348.out | refine q4 ?_ GE356.out | refine q4 ?_ GE357.out | refine q4 ?_ GE371.out | refine q4 ?_ GE378.out | refine q4 ?_ GE385.out) | exact HB.out)) hb); clear BK348; clear BK356; clear BK357; clear BK371; clear BK378; clear BK385; clear HB; have BK348 := n0_; have BK356 := n1_; have BK357 := n2_; have BK371 := n3_; have BK378 := n4_; have BK385 := n5_; have HB := n6_; clear n0_ n1_ n2_ n3_ n4_ n5_ n6_; (try clear hb); (try clear hb2); (try clear hk); (try clear hi)) | ((with_reducible refine qu (N := 13) rfl ?_); refine qh ?hg (N := 13) ?hd (cs := #[.int .i64 0, .int .i64 0]) (t := 26) ?hr ?_; (case hd => rfl); (case hg => rfl); (case hr => first | (go_simp; done) | (go_simp; rfl)); intro gb389 hg w186 hbox hb; have n0_ := qg (q8 (g := gb348) (o := .cells #[.int .i64 t342, .int .i64 t343, .int .i64 t344, .int .i64 t345, .int .i64 t346] 28 (0, 0)) (by (with_reducible repeat (first | refine q5 ?_ _ | refine q6 ?_ | refine q7 ?_ _)); exact BK348.out) hb); have n1_ := qg (q8 (g := gb356) (o := .cells #[.int .i64 t349, .int .i64 t350, .int .i64 t351, .int .i64 t352, .int .i64 t353] 28 (0, 0)) (by (with_reducible repeat (first | refine q5 ?_ _ | refine q6 ?_ | refine q7 ?_ _)); exact BK356.out) hb); have n2_ := qg (q8 (g := gb357) (o := .cells #[.int .i64 t354, .int .i64 t355] 26 (0, 0)) (by (with_reducible repeat (first | refine q5 ?_ _ | refine q6 ?_ | refine q7 ?_ _)); exact BK357.out) hb); have n3_ := qg (q8 (g := gb371) (o := .cells #[.int .i64 t366, .int .i64 t367, .int .i64 t368, .int .i64 t369, .int .i64 t370] 28 (0, 0)) (by (with_reducible repeat (first | refine q5 ?_ _ | refine q6 ?_ | refine q7 ?_ _)); exact BK371.out) hb); have n4_ := qg (q8 (g := gb378) (o := .cells #[.int .i64 t372, .int .i64 t373, .int .i64 t374, .int .i64 t375, .int .i64 t376] 28 (0, 0)) (by (with_reducible repeat (first | refine q5 ?_ _ | refine q6 ?_ | refine q7 ?_ _)); exact BK378.out) hb); have n5_ := qg (q8 (g := gb385) (o := .cells #[.int .i64 t382, .int .i64 t383] 26 (0, 0)) (by (with_reducible repeat (first | refine q5 ?_ _ | refine q6 ?_ | refine q7 ?_ _)); exact BK385.out) hb); have n6_ := qg (q9 (by repeat (first | (with_reducible first | exact HB.out | apply q1 | apply q2 | apply q3 | refine q4 ?_ GE348.out | refine q4 ?_ GE356.out | refine q4 ?_ GE357.out | refine q4 ?_ GE371.out | refine q4 ?_ GE378.out | refine q4 ?_ GE385.out) | exact HB.out)) hb); have n7_ := qg (hbox); have n8_ := qg ((by rw [hg]; exact (qa (by repeat (first | (with_reducible first | exact HB.out | apply q1 | apply q2 | apply q3 | refine q4 ?_ GE348.out | refine q4 ?_ GE356.out | refine q4 ?_ GE357.out | refine q4 ?_ GE371.out | refine q4 ?_ GE378.out | refine q4 ?_ GE385.out) | exact HB.out))) : w.heap.size ≤ gb389)); have n9_ := qg ((by rw [hg]; exact (qa (by repeat (first | (with_reducible first | exact HB.out | apply q1 | apply q2 | apply q3 | refine q4 ?_ GE348.out | refine q4 ?_ GE356.out | refine q4 ?_ GE357.out | refine q4 ?_ GE371.out | refine q4 ?_ GE378.out | refine q4 ?_ GE385.out) | exact HB.out))) : w.heap.size ≤ gb389)); have n10_ := qg ((by rw [hg]; exact qv (qd (g := gb348) (o := .cells #[.int .i64 t342, .int .i64 t343, .int .i64 t344, .int .i64 t345, .int .i64 t346] 28 (0, 0)) (by (with_reducible repeat (first | refine q5 ?_ _ | refine q6 ?_ | refine q7 ?_ _)); exact BK348.out)) : gb348 ≠ gb389)); have n11_ := qg ((by rw [hg]; exact qw (qd (g := gb348) (o := .cells #[.int .i64 t342, .int .i64 t343, .int .i64 t344, .int .i64 t345, .int .i64 t346] 28 (0, 0)) (by (with_reducible repeat (first | refine q5 ?_ _ | refine q6 ?_ | refine q7 ?_ _)); exact BK348.out)) : gb389 ≠ gb348)); have n12_ := qg ((by rw [hg]; exact qv (qd (g := gb356) (o := .cells #[.int .i64 t349, .int .i64 t350, .int .i64 t351, .int .i64 t352, .int .i64 t353] 28 (0, 0)) (by (with_reducible repeat (first | refine q5 ?_ _ | refine q6 ?_ | refine q7 ?_ _)); exact BK356.out)) : gb356 ≠ gb389)); have n13_ := qg ((by rw [hg]; exact qw (qd (g := gb356) (o := .cells #[.int .i64 t349, .int .i64 t350, .int .i64 t351, .int .i64 t352, .int .i64 t353] 28 (0, 0)) (by (with_reducible repeat (first | refine q5 ?_ _ | refine q6 ?_ | refine q7 ?_ _)); exact BK356.out)) : gb389 ≠ gb356)); have n14_ := qg ((by rw [hg]; exact qv (qd (g := gb357) (o := .cells #[.int .i64 t354, .int .i64 t355] 26 (0, 0)) (by (with_reducible repeat (first | refine q5 ?_ _ | refine q6 ?_ | refine q7 ?_ _)); exact BK357.out)) : gb357 ≠ gb389)); have n15_ := qg ((by rw [hg]; exact qw (qd (g := gb357) (o := .cells #[.int .i64 t354, .int .i64 t355] 26 (0, 0)) (by (with_reducible repeat (first | refine q5 ?_ _ | refine q6 ?_ | refine q7 ?_ _)); exact BK357.out)) : gb389 ≠ gb357)); have n16_ := qg ((by rw [hg]; exact qv (qd (g := gb371) (o := .cells #[.int .i64 t366, .int .i64 t367, .int .i64 t368, .int .i64 t369, .int .i64 t370] 28 (0, 0)) (by (with_reducible repeat (first | refine q5 ?_ _ | refine q6 ?_ | refine q7 ?_ _)); exact BK371.out)) : gb371 ≠ gb389)); have n17_ := qg ((by rw [hg]; exact qw (qd (g := gb371) (o := .cells #[.int .i64 t366, .int .i64 t367, .int .i64 t368, .int .i64 t369, .int .i64 t370] 28 (0, 0)) (by (with_reducible repeat (first | refine q5 ?_ _ | refine q6 ?_ | refine q7 ?_ _)); exact BK371.out)) : gb389 ≠ gb371)); have n18_ := qg ((by rw [hg]; exact qv (qd (g := gb378) (o := .cells #[.int .i64 t372, .int .i64 t373, .int .i64 t374, .int .i64 t375, .int .i64 t376] 28 (0, 0)) (by (with_reducible repeat (first | refine q5 ?_ _ | refine q6 ?_ | refine q7 ?_ _)); exact BK378.out)) : gb378 ≠ gb389)); have n19_ := qg ((by rw [hg]; exact qw (qd (g := gb378) (o := .cells #[.int .i64 t372, .int .i64 t373, .int .i64 t374, .int .i64 t375, .int .i64 t376] 28 (0, 0)) (by (with_reducible repeat (first | refine q5 ?_ _ | refine q6 ?_ | refine q7 ?_ _)); exact BK378.out)) : gb389 ≠ gb378)); have n20_ := qg ((by rw [hg]; exact qv (qd (g := gb385) (o := .cells #[.int .i64 t382, .int .i64 t383] 26 (0, 0)) (by (with_reducible repeat (first | refine q5 ?_ _ | refine q6 ?_ | refine q7 ?_ _)); exact BK385.out)) : gb385 ≠ gb389)); have n21_ := qg ((by rw [hg]; exact qw (qd (g := gb385) (o := .cells #[.int .i64 t382, .int .i64 t383] 26 (0, 0)) (by (with_reducible repeat (first | refine q5 ?_ _ | refine q6 ?_ | refine q7 ?_ _)); exact BK385.out)) : gb389 ≠ gb385)); clear BK348; clear BK356; clear BK357; clear BK371; clear BK378; clear BK385; clear HB; have BK348 := n0_; have BK356 := n1_; have BK357 := n2_; have BK371 := n3_; have BK378 := n4_; have BK385 := n5_; have HB := n6_; have BK389 := n7_; have GW389 := n8_; have GE389 := n9_; have NB348_389 := n10_; have NB389_348 := n11_; have NB356_389 := n12_; have NB389_356 := n13_; have NB357_389 := n14_; have NB389_357 := n15_; have NB371_389 := n16_; have NB389_371 := n17_; have NB378_389 := n18_; have NB389_378 := n19_; have NB385_389 := n20_; have NB389_385 := n21_; clear n0_ n1_ n2_ n3_ n4_ n5_ n6_ n7_ n8_ n9_ n10_ n11_ n12_ n13_ n14_ n15_ n16_ n17_ n18_ n19_ n20_ n21_; clear hb hbox hg; have hnb187 := NB389_348.out; have hnc187 := NB348_389.out; have hnb188 := NB389_356.out; have hnc188 := NB356_389.out; have hnb189 := NB389_357.out; have hnc189 := NB357_389.out; have hnb190 := NB389_371.out; have hnc190 := NB371_389.out; have hnb191 := NB389_378.out; have hnc191 := NB378_389.out; have hnb192 := NB389_385.out; have hnc192 := NB385_389.out; have hcz193_0 : w186.cell? ⟨gb389, 0, none⟩ = some (.int .i64 0) := (qc BK389.out 0).trans rfl; have hcz193_1 : w186.cell? ⟨gb389, 1, none⟩ = some (.int .i64 0) := (qc BK389.out 1).trans rfl; have hfz193_0 := qb BK389.out 0; have hfz193_1 := qb BK389.out 1; have hnb194 := NB378_356.out; have hnc194 := NB356_378.out; have hnb195 := NB378_357.out; have hnc195 := NB357_378.out; have hcz196_0 : w186.cell? ⟨gb378, 0, none⟩ = some (.int .i64 t372) := (qc BK378.out 0).trans rfl; have hcz196_1 : w186.cell? ⟨gb378, 1, none⟩ = some (.int .i64 t373) := (qc BK378.out 1).trans rfl; have hcz196_2 : w186.cell? ⟨gb378, 2, none⟩ = some (.int .i64 t374) := (qc BK378.out 2).trans rfl; have hcz196_3 : w186.cell? ⟨gb378, 3, none⟩ = some (.int .i64 t375) := (qc BK378.out 3).trans rfl; have hcz196_4 : w186.cell? ⟨gb378, 4, none⟩ = some (.int .i64 t376) := (qc BK378.out 4).trans rfl; have hfz196_0 := qb BK378.out 0; have hfz196_1 := qb BK378.out 1; have hfz196_2 := qb BK378.out 2; have hfz196_3 := qb BK378.out 3; have hfz196_4 := qb BK378.out 4) | ((with_reducible refine qt (f := 26) rfl ?_); refine goesL_ (some 72) rfl rfl Try.func26 (by kernel_rfl) rfl #[.agg #[.int .i64 t372, .int .i64 t373, .int .i64 t374, .int .i64 t375, .int .i64 t376], .int .i64 x10_1] rfl (by (try simp only [List.map_toArray, List.map_cons, List.map_nil]); first | done | rfl | (simp only [List.length_drop, List.length_take]; rfl)) ?_; (with_reducible refine (impl_PlaceAt.calls k1 t372 t373 t374 t375 t376 x10_1 t390 t391 true _ A65.out).mono ?_); rintro e w197 ⟨rfl, hb⟩; refine ⟨_, rfl, ?_⟩; have n0_ := qg (q8 (g := gb348) (o := .cells #[.int .i64 t342, .int .i64 t343, .int .i64 t344, .int .i64 t345, .int .i64 t346] 28 (0, 0)) (by (with_reducible repeat (first | refine q5 ?_ _ | refine q6 ?_ | refine q7 ?_ _)); refine qe ?_ NB348_389.out _; (with_reducible repeat (first | refine q5 ?_ _ | refine q6 ?_ | refine q7 ?_ _)); refine qe ?_ NB348_389.out _; (with_reducible repeat (first | refine q5 ?_ _ | refine q6 ?_ | refine q7 ?_ _)); exact BK348.out) hb); have n1_ := qg (q8 (g := gb356) (o := .cells #[.int .i64 t349, .int .i64 t350, .int .i64 t351, .int .i64 t352, .int .i64 t353] 28 (0, 0)) (by (with_reducible repeat (first | refine q5 ?_ _ | refine q6 ?_ | refine q7 ?_ _)); refine qe ?_ NB356_389.out _; (with_reducible repeat (first | refine q5 ?_ _ | refine q6 ?_ | refine q7 ?_ _)); refine qe ?_ NB356_389.out _; (with_reducible repeat (first | refine q5 ?_ _ | refine q6 ?_ | refine q7 ?_ _)); exact BK356.out) hb); have n2_ := qg (q8 (g := gb357) (o := .cells #[.int .i64 t354, .int .i64 t355] 26 (0, 0)) (by (with_reducible repeat (first | refine q5 ?_ _ | refine q6 ?_ | refine q7 ?_ _)); refine qe ?_ NB357_389.out _; (with_reducible repeat (first | refine q5 ?_ _ | refine q6 ?_ | refine q7 ?_ _)); refine qe ?_ NB357_389.out _; (with_reducible repeat (first | refine q5 ?_ _ | refine q6 ?_ | refine q7 ?_ _)); exact BK357.out) hb); have n3_ := qg (q8 (g := gb371) (o := .cells #[.int .i64 t366, .int .i64 t367, .int .i64 t368, .int .i64 t369, .int .i64 t370] 28 (0, 0)) (by (with_reducible repeat (first | refine q5 ?_ _ | refine q6 ?_ | refine q7 ?_ _)); refine qe ?_ NB371_389.out _; (with_reducible repeat (first | refine q5 ?_ _ | refine q6 ?_ | refine q7 ?_ _)); refine qe ?_ NB371_389.out _; (with_reducible repeat (first | refine q5 ?_ _ | refine q6 ?_ | refine q7 ?_ _)); exact BK371.out) hb); have n4_ := qg (q8 (g := gb378) (o := .cells #[.int .i64 t372, .int .i64 t373, .int .i64 t374, .int .i64 t375, .int .i64 t376] 28 (0, 0)) (by (with_reducible repeat (first | refine q5 ?_ _ | refine q6 ?_ | refine q7 ?_ _)); refine qe ?_ NB378_389.out _; (with_reducible repeat (first | refine q5 ?_ _ | refine q6 ?_ | refine q7 ?_ _)); refine qe ?_ NB378_389.out _; (with_reducible repeat (first | refine q5 ?_ _ | refine q6 ?_ | refine q7 ?_ _)); exact BK378.out) hb); have n5_ := qg (q8 (g := gb385) (o := .cells #[.int .i64 t382, .int .i64 t383] 26 (0, 0)) (by (with_reducible repeat (first | refine q5 ?_ _ | refine q6 ?_ | refine q7 ?_ _)); refine qe ?_ NB385_389.out _; (with_reducible repeat (first | refine q5 ?_ _ | refine q6 ?_ | refine q7 ?_ _)); refine qe ?_ NB385_389.out _; (with_reducible repeat (first | refine q5 ?_ _ | refine q6 ?_ | refine q7 ?_ _)); exact BK385.out) hb); have n6_ := qg (q8 (g := gb389) (o := .cells #[.int .i64 t386, .int .i64 t387] 26 (0, 0)) (by (with_reducible repeat (first | refine q5 ?_ _ | refine q6 ?_ | refine q7 ?_ _)); refine qf (cs := #[.int .i64 t386, .int .i64 0]) ?_ 1 _ rfl; (with_reducible repeat (first | refine q5 ?_ _ | refine q6 ?_ | refine q7 ?_ _)); refine qf (cs := #[.int .i64 0, .int .i64 0]) ?_ 0 _ rfl; (with_reducible repeat (first | refine q5 ?_ _ | refine q6 ?_ | refine q7 ?_ _)); exact BK389.out) hb); have n7_ := qg (q9 (by repeat (first | (with_reducible first | exact HB.out | apply q1 | apply q2 | apply q3 | refine q4 ?_ GE348.out | refine q4 ?_ GE356.out | refine q4 ?_ GE357.out | refine q4 ?_ GE371.out | refine q4 ?_ GE378.out | refine q4 ?_ GE385.out | refine q4 ?_ GE389.out) | exact HB.out)) hb); clear BK348; clear BK356; clear BK357; clear BK371; clear BK378; clear BK385; clear BK389; clear HB; have BK348 := n0_; have BK356 := n1_; have BK357 := n2_; have BK371 := n3_; have BK378 := n4_; have BK385 := n5_; have BK389 := n6_; have HB := n7_; clear n0_ n1_ n2_ n3_ n4_ n5_ n6_ n7_; (try clear hb); (try clear hb2); (try clear hk); (try clear hi)) | ((with_reducible refine qu (N := 15) rfl ?_); refine qh ?hg (N := 15) ?hd (cs := #[.int .i64 0, .int .i64 0]) (t := 26) ?hr ?_; (case hd => rfl); (case hg => rfl); (case hr => first | (go_simp; done) | (go_simp; rfl)); intro gb393 hg w198 hbox hb; have n0_ := qg (q8 (g := gb348) (o := .cells #[.int .i64 t342, .int .i64 t343, .int .i64 t344, .int .i64 t345, .int .i64 t346] 28 (0, 0)) (by (with_reducible repeat (first | refine q5 ?_ _ | refine q6 ?_ | refine q7 ?_ _)); exact BK348.out) hb); have n1_ := qg (q8 (g := gb356) (o := .cells #[.int .i64 t349, .int .i64 t350, .int .i64 t351, .int .i64 t352, .int .i64 t353] 28 (0, 0)) (by (with_reducible repeat (first | refine q5 ?_ _ | refine q6 ?_ | refine q7 ?_ _)); exact BK356.out) hb); have n2_ := qg (q8 (g := gb357) (o := .cells #[.int .i64 t354, .int .i64 t355] 26 (0, 0)) (by (with_reducible repeat (first | refine q5 ?_ _ | refine q6 ?_ | refine q7 ?_ _)); exact BK357.out) hb); have n3_ := qg (q8 (g := gb371) (o := .cells #[.int .i64 t366, .int .i64 t367, .int .i64 t368, .int .i64 t369, .int .i64 t370] 28 (0, 0)) (by (with_reducible repeat (first | refine q5 ?_ _ | refine q6 ?_ | refine q7 ?_ _)); exact BK371.out) hb); have n4_ := qg (q8 (g := gb378) (o := .cells #[.int .i64 t372, .int .i64 t373, .int .i64 t374, .int .i64 t375, .int .i64 t376] 28 (0, 0)) (by (with_reducible repeat (first | refine q5 ?_ _ | refine q6 ?_ | refine q7 ?_ _)); exact BK378.out) hb); have n5_ := qg (q8 (g := gb385) (o := .cells #[.int .i64 t382, .int .i64 t383] 26 (0, 0)) (by (with_reducible repeat (first | refine q5 ?_ _ | refine q6 ?_ | refine q7 ?_ _)); exact BK385.out) hb); have n6_ := qg (q8 (g := gb389) (o := .cells #[.int .i64 t386, .int .i64 t387] 26 (0, 0)) (by (with_reducible repeat (first | refine q5 ?_ _ | refine q6 ?_ | refine q7 ?_ _)); exact BK389.out) hb); have n7_ := qg (q9 (by repeat (first | (with_reducible first | exact HB.out | apply q1 | apply q2 | apply q3 | refine q4 ?_ GE348.out | refine q4 ?_ GE356.out | refine q4 ?_ GE357.out | refine q4 ?_ GE371.out | refine q4 ?_ GE378.out | refine q4 ?_ GE385.out | refine q4 ?_ GE389.out) | exact HB.out)) hb); have n8_ := qg (hbox); have n9_ := qg ((by rw [hg]; exact (qa (by repeat (first | (with_reducible first | exact HB.out | apply q1 | apply q2 | apply q3 | refine q4 ?_ GE348.out | refine q4 ?_ GE356.out | refine q4 ?_ GE357.out | refine q4 ?_ GE371.out | refine q4 ?_ GE378.out | refine q4 ?_ GE385.out | refine q4 ?_ GE389.out) | exact HB.out))) : w.heap.size ≤ gb393)); have n10_ := qg ((by rw [hg]; exact (qa (by repeat (first | (with_reducible first | exact HB.out | apply q1 | apply q2 | apply q3 | refine q4 ?_ GE348.out | refine q4 ?_ GE356.out | refine q4 ?_ GE357.out | refine q4 ?_ GE371.out | refine q4 ?_ GE378.out | refine q4 ?_ GE385.out | refine q4 ?_ GE389.out) | exact HB.out))) : w.heap.size ≤ gb393)); have n11_ := qg ((by rw [hg]; exact qv (qd (g := gb348) (o := .cells #[.int .i64 t342, .int .i64 t343, .int .i64 t344, .int .i64 t345, .int .i64 t346] 28 (0, 0)) (by (with_reducible repeat (first | refine q5 ?_ _ | refine q6 ?_ | refine q7 ?_ _)); exact BK348.out)) : gb348 ≠ gb393)); have n12_ := qg ((by rw [hg]; exact qw (qd (g := gb348) (o := .cells #[.int .i64 t342, .int .i64 t343, .int .i64 t344, .int .i64 t345, .int .i64 t346] 28 (0, 0)) (by (with_reducible repeat (first | refine q5 ?_ _ | refine q6 ?_ | refine q7 ?_ _)); exact BK348.out)) : gb393 ≠ gb348)); have n13_ := qg ((by rw [hg]; exact qv (qd (g := gb356) (o := .cells #[.int .i64 t349, .int .i64 t350, .int .i64 t351, .int .i64 t352, .int .i64 t353] 28 (0, 0)) (by (with_reducible repeat (first | refine q5 ?_ _ | refine q6 ?_ | refine q7 ?_ _)); exact BK356.out)) : gb356 ≠ gb393)); have n14_ := qg ((by rw [hg]; exact qw (qd (g := gb356) (o := .cells #[.int .i64 t349, .int .i64 t350, .int .i64 t351, .int .i64 t352, .int .i64 t353] 28 (0, 0)) (by (with_reducible repeat (first | refine q5 ?_ _ | refine q6 ?_ | refine q7 ?_ _)); exact BK356.out)) : gb393 ≠ gb356)); have n15_ := qg ((by rw [hg]; exact qv (qd (g := gb357) (o := .cells #[.int .i64 t354, .int .i64 t355] 26 (0, 0)) (by (with_reducible repeat (first | refine q5 ?_ _ | refine q6 ?_ | refine q7 ?_ _)); exact BK357.out)) : gb357 ≠ gb393)); have n16_ := qg ((by rw [hg]; exact qw (qd (g := gb357) (o := .cells #[.int .i64 t354, .int .i64 t355] 26 (0, 0)) (by (with_reducible repeat (first | refine q5 ?_ _ | refine q6 ?_ | refine q7 ?_ _)); exact BK357.out)) : gb393 ≠ gb357)); have n17_ := qg ((by rw [hg]; exact qv (qd (g := gb371) (o := .cells #[.int .i64 t366, .int .i64 t367, .int .i64 t368, .int .i64 t369, .int .i64 t370] 28 (0, 0)) (by (with_reducible repeat (first | refine q5 ?_ _ | refine q6 ?_ | refine q7 ?_ _)); exact BK371.out)) : gb371 ≠ gb393)); have n18_ := qg ((by rw [hg]; exact qw (qd (g := gb371) (o := .cells #[.int .i64 t366, .int .i64 t367, .int .i64 t368, .int .i64 t369, .int .i64 t370] 28 (0, 0)) (by (with_reducible repeat (first | refine q5 ?_ _ | refine q6 ?_ | refine q7 ?_ _)); exact BK371.out)) : gb393 ≠ gb371)); have n19_ := qg ((by rw [hg]; exact qv (qd (g := gb378) (o := .cells #[.int .i64 t372, .int .i64 t373, .int .i64 t374, .int .i64 t375, .int .i64 t376] 28 (0, 0)) (by (with_reducible repeat (first | refine q5 ?_ _ | refine q6 ?_ | refine q7 ?_ _)); exact BK378.out)) : gb378 ≠ gb393)); have n20_ := qg ((by rw [hg]; exact qw (qd (g := gb378) (o := .cells #[.int .i64 t372, .int .i64 t373, .int .i64 t374, .int .i64 t375, .int .i64 t376] 28 (0, 0)) (by (with_reducible repeat (first | refine q5 ?_ _ | refine q6 ?_ | refine q7 ?_ _)); exact BK378.out)) : gb393 ≠ gb378)); have n21_ := qg ((by rw [hg]; exact qv (qd (g := gb385) (o := .cells #[.int .i64 t382, .int .i64 t383] 26 (0, 0)) (by (with_reducible repeat (first | refine q5 ?_ _ | refine q6 ?_ | refine q7 ?_ _)); exact BK385.out)) : gb385 ≠ gb393)); have n22_ := qg ((by rw [hg]; exact qw (qd (g := gb385) (o := .cells #[.int .i64 t382, .int .i64 t383] 26 (0, 0)) (by (with_reducible repeat (first | refine q5 ?_ _ | refine q6 ?_ | refine q7 ?_ _)); exact BK385.out)) : gb393 ≠ gb385)); have n23_ := qg ((by rw [hg]; exact qv (qd (g := gb389) (o := .cells #[.int .i64 t386, .int .i64 t387] 26 (0, 0)) (by (with_reducible repeat (first | refine q5 ?_ _ | refine q6 ?_ | refine q7 ?_ _)); exact BK389.out)) : gb389 ≠ gb393)); have n24_ := qg ((by rw [hg]; exact qw (qd (g := gb389) (o := .cells #[.int .i64 t386, .int .i64 t387] 26 (0, 0)) (by (with_reducible repeat (first | refine q5 ?_ _ | refine q6 ?_ | refine q7 ?_ _)); exact BK389.out)) : gb393 ≠ gb389)); clear BK348; clear BK356; clear BK357; clear BK371; clear BK378; clear BK385; clear BK389; clear HB; have BK348 := n0_; have BK356 := n1_; have BK357 := n2_; have BK371 := n3_; have BK378 := n4_; have BK385 := n5_; have BK389 := n6_; have HB := n7_; have BK393 := n8_; have GW393 := n9_; have GE393 := n10_; have NB348_393 := n11_; have NB393_348 := n12_; have NB356_393 := n13_; have NB393_356 := n14_; have NB357_393 := n15_; have NB393_357 := n16_; have NB371_393 := n17_; have NB393_371 := n18_; have NB378_393 := n19_; have NB393_378 := n20_; have NB385_393 := n21_; have NB393_385 := n22_; have NB389_393 := n23_; have NB393_389 := n24_; clear n0_ n1_ n2_ n3_ n4_ n5_ n6_ n7_ n8_ n9_ n10_ n11_ n12_ n13_ n14_ n15_ n16_ n17_ n18_ n19_ n20_ n21_ n22_ n23_ n24_; clear hb hbox hg; have hnb199 := NB393_348.out; have hnc199 := NB348_393.out; have hnb200 := NB393_356.out; have hnc200 := NB356_393.out; have hnb201 := NB393_357.out; have hnc201 := NB357_393.out; have hnb202 := NB393_371.out; have hnc202 := NB371_393.out; have hnb203 := NB393_378.out; have hnc203 := NB378_393.out; have hnb204 := NB393_385.out; have hnc204 := NB385_393.out; have hnb205 := NB393_389.out; have hnc205 := NB389_393.out; have hcz206_0 : w198.cell? ⟨gb393, 0, none⟩ = some (.int .i64 0) := (qc BK393.out 0).trans rfl; have hcz206_1 : w198.cell? ⟨gb393, 1, none⟩ = some (.int .i64 0) := (qc BK393.out 1).trans rfl; have hfz206_0 := qb BK393.out 0; have hfz206_1 := qb BK393.out 1))
            have n0_ : Aside0 (((w198.setCell ⟨gb393, 0, none⟩ (.int .i64 t390)).setCell ⟨gb393, 1, none⟩ (.int .i64 t391)).heap[gb348]? = some (.cells #[.int .i64 t342, .int .i64 t343, .int .i64 t344, .int .i64 t345, .int .i64 t346] 28 (0, 0))) := ⟨by (with_reducible repeat (first | refine q5 ?_ _ | refine q6 ?_ | refine q7 ?_ _)); refine qe ?_ NB348_393.out _; (with_reducible repeat (first | refine q5 ?_ _ | refine q6 ?_ | refine q7 ?_ _)); refine qe ?_ NB348_393.out _; (with_reducible repeat (first | refine q5 ?_ _ | refine q6 ?_ | refine q7 ?_ _)); exact BK348.out⟩
            have n1_ : Aside0 (((w198.setCell ⟨gb393, 0, none⟩ (.int .i64 t390)).setCell ⟨gb393, 1, none⟩ (.int .i64 t391)).heap[gb356]? = some (.cells #[.int .i64 t349, .int .i64 t350, .int .i64 t351, .int .i64 t352, .int .i64 t353] 28 (0, 0))) := ⟨by (with_reducible repeat (first | refine q5 ?_ _ | refine q6 ?_ | refine q7 ?_ _)); refine qe ?_ NB356_393.out _; (with_reducible repeat (first | refine q5 ?_ _ | refine q6 ?_ | refine q7 ?_ _)); refine qe ?_ NB356_393.out _; (with_reducible repeat (first | refine q5 ?_ _ | refine q6 ?_ | refine q7 ?_ _)); exact BK356.out⟩
            have n2_ : Aside0 (((w198.setCell ⟨gb393, 0, none⟩ (.int .i64 t390)).setCell ⟨gb393, 1, none⟩ (.int .i64 t391)).heap[gb357]? = some (.cells #[.int .i64 t354, .int .i64 t355] 26 (0, 0))) := ⟨by (with_reducible repeat (first | refine q5 ?_ _ | refine q6 ?_ | refine q7 ?_ _)); refine qe ?_ NB357_393.out _; (with_reducible repeat (first | refine q5 ?_ _ | refine q6 ?_ | refine q7 ?_ _)); refine qe ?_ NB357_393.out _; (with_reducible repeat (first | refine q5 ?_ _ | refine q6 ?_ | refine q7 ?_ _)); exact BK357.out⟩
            have n3_ : Aside0 (((w198.setCell ⟨gb393, 0, none⟩ (.int .i64 t390)).setCell ⟨gb393, 1, none⟩ (.int .i64 t391)).heap[gb371]? = some (.cells #[.int .i64 t366, .int .i64 t367, .int .i64 t368, .int .i64 t369, .int .i64 t370] 28 (0, 0))) := ⟨by (with_reducible repeat (first | refine q5 ?_ _ | refine q6 ?_ | refine q7 ?_ _)); refine qe ?_ NB371_393.out _; (with_reducible repeat (first | refine q5 ?_ _ | refine q6 ?_ | refine q7 ?_ _)); refine qe ?_ NB371_393.out _; (with_reducible repeat (first | refine q5 ?_ _ | refine q6 ?_ | refine q7 ?_ _)); exact BK371.out⟩
            have n4_ : Aside0 (((w198.setCell ⟨gb393, 0, none⟩ (.int .i64 t390)).setCell ⟨gb393, 1, none⟩ (.int .i64 t391)).heap[gb378]? = some (.cells #[.int .i64 t372, .int .i64 t373, .int .i64 t374, .int .i64 t375, .int .i64 t376] 28 (0, 0))) := ⟨by (with_reducible repeat (first | refine q5 ?_ _ | refine q6 ?_ | refine q7 ?_ _)); refine qe ?_ NB378_393.out _; (with_reducible repeat (first | refine q5 ?_ _ | refine q6 ?_ | refine q7 ?_ _)); refine qe ?_ NB378_393.out _; (with_reducible repeat (first | refine q5 ?_ _ | refine q6 ?_ | refine q7 ?_ _)); exact BK378.out⟩
            have n5_ : Aside0 (((w198.setCell ⟨gb393, 0, none⟩ (.int .i64 t390)).setCell ⟨gb393, 1, none⟩ (.int .i64 t391)).heap[gb385]? = some (.cells #[.int .i64 t382, .int .i64 t383] 26 (0, 0))) := ⟨by (with_reducible repeat (first | refine q5 ?_ _ | refine q6 ?_ | refine q7 ?_ _)); refine qe ?_ NB385_393.out _; (with_reducible repeat (first | refine q5 ?_ _ | refine q6 ?_ | refine q7 ?_ _)); refine qe ?_ NB385_393.out _; (with_reducible repeat (first | refine q5 ?_ _ | refine q6 ?_ | refine q7 ?_ _)); exact BK385.out⟩
            have n6_ : Aside0 (((w198.setCell ⟨gb393, 0, none⟩ (.int .i64 t390)).setCell ⟨gb393, 1, none⟩ (.int .i64 t391)).heap[gb389]? = some (.cells #[.int .i64 t386, .int .i64 t387] 26 (0, 0))) := ⟨by (with_reducible repeat (first | refine q5 ?_ _ | refine q6 ?_ | refine q7 ?_ _)); refine qe ?_ NB389_393.out _; (with_reducible repeat (first | refine q5 ?_ _ | refine q6 ?_ | refine q7 ?_ _)); refine qe ?_ NB389_393.out _; (with_reducible repeat (first | refine q5 ?_ _ | refine q6 ?_ | refine q7 ?_ _)); exact BK389.out⟩
            have n7_ : Aside0 (((w198.setCell ⟨gb393, 0, none⟩ (.int .i64 t390)).setCell ⟨gb393, 1, none⟩ (.int .i64 t391)).heap[gb393]? = some (.cells #[.int .i64 t390, .int .i64 t391] 26 (0, 0))) := ⟨by (with_reducible repeat (first | refine q5 ?_ _ | refine q6 ?_ | refine q7 ?_ _)); refine qf (cs := #[.int .i64 t390, .int .i64 0]) ?_ 1 _ rfl; (with_reducible repeat (first | refine q5 ?_ _ | refine q6 ?_ | refine q7 ?_ _)); refine qf (cs := #[.int .i64 0, .int .i64 0]) ?_ 0 _ rfl; (with_reducible repeat (first | refine q5 ?_ _ | refine q6 ?_ | refine q7 ?_ _)); exact BK393.out⟩
            have n8_ : Aside0 (Below w.heap.size w ((w198.setCell ⟨gb393, 0, none⟩ (.int .i64 t390)).setCell ⟨gb393, 1, none⟩ (.int .i64 t391))) := ⟨by repeat (first | (with_reducible first | exact HB.out | apply q1 | apply q2 | apply q3 | refine q4 ?_ GE348.out | refine q4 ?_ GE356.out | refine q4 ?_ GE357.out | refine q4 ?_ GE371.out | refine q4 ?_ GE378.out | refine q4 ?_ GE385.out | refine q4 ?_ GE389.out | refine q4 ?_ GE393.out) | exact HB.out)⟩
            (try clear BK348)
            (try clear BK356)
            (try clear BK357)
            (try clear BK371)
            (try clear BK378)
            (try clear BK385)
            (try clear BK389)
            (try clear BK393)
            (try clear HB)
            generalize ((w198.setCell ⟨gb393, 0, none⟩ (.int .i64 t390)).setCell ⟨gb393, 1, none⟩ (.int .i64 t391)) = w207 at n0_ n1_ n2_ n3_ n4_ n5_ n6_ n7_ n8_ ⊢
            have BK348 := n0_
            have BK356 := n1_
            have BK357 := n2_
            have BK371 := n3_
            have BK378 := n4_
            have BK385 := n5_
            have BK389 := n6_
            have BK393 := n7_
            have HB := n8_
            clear n0_ n1_ n2_ n3_ n4_ n5_ n6_ n7_ n8_
            have n0_ := qg (q6 BK348.out)
            have n1_ := qg (q6 BK356.out)
            have n2_ := qg (q6 BK357.out)
            have n3_ := qg (q6 BK371.out)
            have n4_ := qg (q6 BK378.out)
            have n5_ := qg (q6 BK385.out)
            have n6_ := qg (q6 BK389.out)
            have n7_ := qg (q6 BK393.out)
            have n8_ := qg (q3 HB.out)
            clear BK348
            clear BK356
            clear BK357
            clear BK371
            clear BK378
            clear BK385
            clear BK389
            clear BK393
            clear HB
            have BK348 := n0_
            have BK356 := n1_
            have BK357 := n2_
            have BK371 := n3_
            have BK378 := n4_
            have BK385 := n5_
            have BK389 := n6_
            have BK393 := n7_
            have HB := n8_
            clear n0_ n1_ n2_ n3_ n4_ n5_ n6_ n7_ n8_
            refine start_ (n := 28) (S := fun w' => w'.cell? ⟨gb389, 0, none⟩ = some (.int .i64 t386) ∧ w'.cell? ⟨gb389, 1, none⟩ = some (.int .i64 t387) ∧ w'.cell? ⟨gb385, 0, none⟩ = some (.int .i64 t382) ∧ w'.cell? ⟨gb385, 1, none⟩ = some (.int .i64 t383) ∧ w'.cell? ⟨gb348, 0, none⟩ = some (.int .i64 t342) ∧ w'.cell? ⟨gb348, 1, none⟩ = some (.int .i64 t343) ∧ w'.cell? ⟨gb348, 2, none⟩ = some (.int .i64 t344) ∧ w'.cell? ⟨gb348, 3, none⟩ = some (.int .i64 t345) ∧ w'.cell? ⟨gb348, 4, none⟩ = some (.int .i64 t346) ∧ w'.cell? ⟨gb371, 0, none⟩ = some (.int .i64 t366) ∧ w'.cell? ⟨gb371, 1, none⟩ = some (.int .i64 t367) ∧ w'.cell? ⟨gb371, 2, none⟩ = some (.int .i64 t368) ∧ w'.cell? ⟨gb371, 3, none⟩ = some (.int .i64 t369) ∧ w'.cell? ⟨gb371, 4, none⟩ = some (.int .i64 t370) ∧ w'.cell? ⟨gb393, 0, none⟩ = some (.int .i64 t390) ∧ w'.cell? ⟨gb393, 1, none⟩ = some (.int .i64 t391) ∧ w'.cell? ⟨gb357, 0, none⟩ = some (.int .i64 t354) ∧ w'.cell? ⟨gb357, 1, none⟩ = some (.int .i64 t355)) (ds := []) #[false, false, false, false, false, false, false, false, false, false, false, false, false, false, false, false, false, false, false, false, false, false, false, false, false, false, false, false] (by kernel_rfl) rfl rfl ⟨(qc BK389.out 0).trans rfl, (qc BK389.out 1).trans rfl, (qc BK385.out 0).trans rfl, (qc BK385.out 1).trans rfl, (qc BK348.out 0).trans rfl, (qc BK348.out 1).trans rfl, (qc BK348.out 2).trans rfl, (qc BK348.out 3).trans rfl, (qc BK348.out 4).trans rfl, (qc BK371.out 0).trans rfl, (qc BK371.out 1).trans rfl, (qc BK371.out 2).trans rfl, (qc BK371.out 3).trans rfl, (qc BK371.out 4).trans rfl, (qc BK393.out 0).trans rfl, (qc BK393.out 1).trans rfl, (qc BK357.out 0).trans rfl, (qc BK357.out 1).trans rfl⟩ (fun hHeld => ?_); refine with_tabW laws_FnMovedJet.tab17 laws_FnMovedJet.bits17 (fun HT_ HW_ => ?_)
            generalize w207.drew = w208 at BK348 BK356 BK357 BK371 BK378 BK385 BK389 BK393 HB hHeld ⊢
            refine pure_ (i := 2) (N := some 77) (v := ?_) (a' := ?_) #[false, false, true, false, false, false, false, false, false, false, false, false, false, false, false, false, false, false, false, false, false, false, false, false, false, false, false, false] rfl rfl (any_of HT_.out (by kernel_rfl)) (fun _ _ _ h => h) (Or.inl ⟨by rfl, ?_⟩) ?_ ?_
            rotate_left
            ·intro w'
             go_simp
             with_reducible rfl
            rotate_left
            ·simp only [Act.put, p1, p2, p3, i64_w, i32_w]
             rfl
            refine take_ (i := 0) (N := some 75) (v := ?_) (a' := ?_) #[true, false, true, false, false, false, false, false, false, false, false, false, false, false, false, false, false, false, false, false, false, false, false, false, false, false, false, false] rfl rfl (take_ofW HT_.out HW_.out (by kernel_rfl)) (fun _ _ _ h => h) (Or.inl ⟨by rfl, ?_⟩) hHeld ?_ ?_
            rotate_left
            ·rintro w' ⟨s0, s1, s2, s3, s4, s5, s6, s7, s8, s9, s10, s11, s12, s13, s14, s15, s16, s17⟩
             go_simp
             with_reducible rfl
            rotate_left
            ·simp only [Act.put, p1, p2, p3, i64_w, i32_w]
             rfl
            refine take_ (i := 1) (N := some 76) (v := ?_) (a' := ?_) #[true, true, true, false, false, false, false, false, false, false, false, false, false, false, false, false, false, false, false, false, false, false, false, false, false, false, false, false] rfl rfl (take_ofW HT_.out HW_.out (by kernel_rfl)) (fun _ _ _ h => h) (Or.inl ⟨by rfl, ?_⟩) hHeld ?_ ?_
            rotate_left
            ·rintro w' ⟨s0, s1, s2, s3, s4, s5, s6, s7, s8, s9, s10, s11, s12, s13, s14, s15, s16, s17⟩
             go_simp
             with_reducible rfl
            rotate_left
            ·simp only [Act.put, p1, p2, p3, i64_w, i32_w]
             rfl
            refine one_ (i := 3) (N := some 78) #[true, true, true, true, false, false, false, false, false, false, false, false, false, false, false, false, false, false, false, false, false, false, false, false, false, false, false, false] rfl rfl (one_of HT_.out (by kernel_rfl)) (by decide) (fun K hK => ?_)
            refine goes_ Try.func60 (by kernel_rfl) rfl #[.agg #[.int .i64 t382, .int .i64 t383], .int .i64 t347] (by rfl) rfl rfl (by (try simp only [List.map_toArray, List.map_cons, List.map_nil]); first | done | rfl | (simp only [List.length_drop, List.length_take]; rfl)) ?_
            with_reducible refine (impl_TurnPlace.calls k1 t382 t383 t347 t394 t395 _ A66.out).mono ?_
            rintro e w209 ⟨rfl, hb⟩
            refine ⟨_, rfl, ?_⟩
            have n0_ := qg (q8 (g := gb348) (o := .cells #[.int .i64 t342, .int .i64 t343, .int .i64 t344, .int .i64 t345, .int .i64 t346] 28 (0, 0)) (by (with_reducible repeat (first | refine q5 ?_ _ | refine q6 ?_ | refine q7 ?_ _)); exact BK348.out) hb)
            have n1_ := qg (q8 (g := gb356) (o := .cells #[.int .i64 t349, .int .i64 t350, .int .i64 t351, .int .i64 t352, .int .i64 t353] 28 (0, 0)) (by (with_reducible repeat (first | refine q5 ?_ _ | refine q6 ?_ | refine q7 ?_ _)); exact BK356.out) hb)
            have n2_ := qg (q8 (g := gb357) (o := .cells #[.int .i64 t354, .int .i64 t355] 26 (0, 0)) (by (with_reducible repeat (first | refine q5 ?_ _ | refine q6 ?_ | refine q7 ?_ _)); exact BK357.out) hb)
            have n3_ := qg (q8 (g := gb371) (o := .cells #[.int .i64 t366, .int .i64 t367, .int .i64 t368, .int .i64 t369, .int .i64 t370] 28 (0, 0)) (by (with_reducible repeat (first | refine q5 ?_ _ | refine q6 ?_ | refine q7 ?_ _)); exact BK371.out) hb)
            have n4_ := qg (q8 (g := gb378) (o := .cells #[.int .i64 t372, .int .i64 t373, .int .i64 t374, .int .i64 t375, .int .i64 t376] 28 (0, 0)) (by (with_reducible repeat (first | refine q5 ?_ _ | refine q6 ?_ | refine q7 ?_ _)); exact BK378.out) hb)
            have n5_ := qg (q8 (g := gb385) (o := .cells #[.int .i64 t382, .int .i64 t383] 26 (0, 0)) (by (with_reducible repeat (first | refine q5 ?_ _ | refine q6 ?_ | refine q7 ?_ _)); exact BK385.out) hb)
            have n6_ := qg (q8 (g := gb389) (o := .cells #[.int .i64 t386, .int .i64 t387] 26 (0, 0)) (by (with_reducible repeat (first | refine q5 ?_ _ | refine q6 ?_ | refine q7 ?_ _)); exact BK389.out) hb)
            have n7_ := qg (q8 (g := gb393) (o := .cells #[.int .i64 t390, .int .i64 t391] 26 (0, 0)) (by (with_reducible repeat (first | refine q5 ?_ _ | refine q6 ?_ | refine q7 ?_ _)); exact BK393.out) hb)
            have n8_ := qg (q9 (by repeat (first | (with_reducible first | exact HB.out | apply q1 | apply q2 | apply q3 | refine q4 ?_ GE348.out | refine q4 ?_ GE356.out | refine q4 ?_ GE357.out | refine q4 ?_ GE371.out | refine q4 ?_ GE378.out | refine q4 ?_ GE385.out | refine q4 ?_ GE389.out | refine q4 ?_ GE393.out) | exact HB.out)) hb)
            clear BK348
            clear BK356
            clear BK357
            clear BK371
            clear BK378
            clear BK385
            clear BK389
            clear BK393
            clear HB
            have BK348 := n0_
            have BK356 := n1_
            have BK357 := n2_
            have BK371 := n3_
            have BK378 := n4_
            have BK385 := n5_
            have BK389 := n6_
            have BK393 := n7_
            have HB := n8_
            clear n0_ n1_ n2_ n3_ n4_ n5_ n6_ n7_ n8_
            (try clear hb)
            (try clear hb2)
            (try clear hk)
            (try clear hi)
            refine hK.out _ _ ⟨(qc BK389.out 0).trans rfl, (qc BK389.out 1).trans rfl, (qc BK385.out 0).trans rfl, (qc BK385.out 1).trans rfl, (qc BK348.out 0).trans rfl, (qc BK348.out 1).trans rfl, (qc BK348.out 2).trans rfl, (qc BK348.out 3).trans rfl, (qc BK348.out 4).trans rfl, (qc BK371.out 0).trans rfl, (qc BK371.out 1).trans rfl, (qc BK371.out 2).trans rfl, (qc BK371.out 3).trans rfl, (qc BK371.out 4).trans rfl, (qc BK393.out 0).trans rfl, (qc BK393.out 1).trans rfl, (qc BK357.out 0).trans rfl, (qc BK357.out 1).trans rfl⟩ (fun hHeld => ?_)
            clear hK K
            refine norm_ (a' := ?_) ?_ ?_
            rotate_left
            ·show Act.put _ (some 78) _ = _
             simp only [Act.put, p1, p2, p3, i64_w, i32_w]
             rfl
            refine pure_ (i := 4) (N := some 79) (v := ?_) (a' := ?_) #[true, true, true, true, true, false, false, false, false, false, false, false, false, false, false, false, false, false, false, false, false, false, false, false, false, false, false, false] rfl rfl (any_of HT_.out (by kernel_rfl)) (fun _ _ _ h => h) (Or.inl ⟨by rfl, ?_⟩) ?_ ?_
            rotate_left
            ·intro w'
             go_simp
             with_reducible rfl
            rotate_left
            ·simp only [Act.put, p1, p2, p3, i64_w, i32_w]
             rfl
            refine pure_ (i := 5) (N := some 80) (v := ?_) (a' := ?_) #[true, true, true, true, true, true, false, false, false, false, false, false, false, false, false, false, false, false, false, false, false, false, false, false, false, false, false, false] rfl rfl (any_of HT_.out (by kernel_rfl)) (fun _ _ _ h => h) (Or.inl ⟨by rfl, ?_⟩) ?_ ?_
            rotate_left
            ·intro w'
             go_simp
             with_reducible rfl
            rotate_left
            ·simp only [Act.put, p1, p2, p3, i64_w, i32_w]
             rfl
            refine pure_ (i := 7) (N := some 82) (v := ?_) (a' := ?_) #[true, true, true, true, true, true, false, true, false, false, false, false, false, false, false, false, false, false, false, false, false, false, false, false, false, false, false, false] rfl rfl (any_of HT_.out (by kernel_rfl)) (fun _ _ _ h => h) (Or.inl ⟨by rfl, ?_⟩) ?_ ?_
            rotate_left
            ·intro w'
             go_simp
             with_reducible rfl
            rotate_left
            ·simp only [Act.put, p1, p2, p3, i64_w, i32_w]
             rfl
            refine pure_ (i := 10) (N := some 85) (v := ?_) (a' := ?_) #[true, true, true, true, true, true, false, true, false, false, true, false, false, false, false, false, false, false, false, false, false, false, false, false, false, false, false, false] rfl rfl (any_of HT_.out (by kernel_rfl)) (fun _ _ _ h => h) (Or.inl ⟨by rfl, ?_⟩) ?_ ?_
            rotate_left
            ·intro w'
             go_simp
             with_reducible rfl
            rotate_left
            ·simp only [Act.put, p1, p2, p3, i64_w, i32_w]
             rfl
            refine take_ (i := 6) (N := some 81) (v := ?_) (a' := ?_) #[true, true, true, true, true, true, true, true, false, false, true, false, false, false, false, false, false, false, false, false, false, false, false, false, false, false, false, false] rfl rfl (take_ofW HT_.out HW_.out (by kernel_rfl)) (fun _ _ _ h => h) (Or.inl ⟨by rfl, ?_⟩) hHeld ?_ ?_
            rotate_left
            ·rintro w' ⟨s0, s1, s2, s3, s4, s5, s6, s7, s8, s9, s10, s11, s12, s13, s14, s15, s16, s17⟩
             go_simp
             with_reducible rfl
            rotate_left
            ·simp only [Act.put, p1, p2, p3, i64_w, i32_w]
             rfl
            refine take_ (i := 9) (N := some 84) (v := ?_) (a' := ?_) #[true, true, true, true, true, true, true, true, false, true, true, false, false, false, false, false, false, false, false, false, false, false, false, false, false, false, false, false] rfl rfl (take_ofW HT_.out HW_.out (by kernel_rfl)) (fun _ _ _ h => h) (Or.inl ⟨by rfl, ?_⟩) hHeld ?_ ?_
            rotate_left
            ·rintro w' ⟨s0, s1, s2, s3, s4, s5, s6, s7, s8, s9, s10, s11, s12, s13, s14, s15, s16, s17⟩
             go_simp
             with_reducible rfl
            rotate_left
            ·simp only [Act.put, p1, p2, p3, i64_w, i32_w]
             rfl
            refine one_ (i := 8) (N := some 83) #[true, true, true, true, true, true, true, true, true, true, true, false, false, false, false, false, false, false, false, false, false, false, false, false, false, false, false, false] rfl rfl (one_of HT_.out (by kernel_rfl)) (by decide) (fun K hK => ?_)
            refine goes_ Try.func53 (by kernel_rfl) rfl #[.agg #[.int .i64 t342, .int .i64 t343, .int .i64 t344, .int .i64 t345, .int .i64 t346], .int .i64 x10_1] (by rfl) rfl rfl (by (try simp only [List.map_toArray, List.map_cons, List.map_nil]); first | done | rfl | (simp only [List.length_drop, List.length_take]; rfl)) ?_
            with_reducible refine (impl_HeightAt.calls t342 t343 t344 t345 t346 x10_1 t396 _ A112.out).mono ?_
            rintro e w210 ⟨rfl, hb⟩
            refine ⟨_, rfl, ?_⟩
            have n0_ := qg (q8 (g := gb348) (o := .cells #[.int .i64 t342, .int .i64 t343, .int .i64 t344, .int .i64 t345, .int .i64 t346] 28 (0, 0)) (by (with_reducible repeat (first | refine q5 ?_ _ | refine q6 ?_ | refine q7 ?_ _)); exact BK348.out) hb)
            have n1_ := qg (q8 (g := gb356) (o := .cells #[.int .i64 t349, .int .i64 t350, .int .i64 t351, .int .i64 t352, .int .i64 t353] 28 (0, 0)) (by (with_reducible repeat (first | refine q5 ?_ _ | refine q6 ?_ | refine q7 ?_ _)); exact BK356.out) hb)
            have n2_ := qg (q8 (g := gb357) (o := .cells #[.int .i64 t354, .int .i64 t355] 26 (0, 0)) (by (with_reducible repeat (first | refine q5 ?_ _ | refine q6 ?_ | refine q7 ?_ _)); exact BK357.out) hb)
            have n3_ := qg (q8 (g := gb371) (o := .cells #[.int .i64 t366, .int .i64 t367, .int .i64 t368, .int .i64 t369, .int .i64 t370] 28 (0, 0)) (by (with_reducible repeat (first | refine q5 ?_ _ | refine q6 ?_ | refine q7 ?_ _)); exact BK371.out) hb)
            have n4_ := qg (q8 (g := gb378) (o := .cells #[.int .i64 t372, .int .i64 t373, .int .i64 t374, .int .i64 t375, .int .i64 t376] 28 (0, 0)) (by (with_reducible repeat (first | refine q5 ?_ _ | refine q6 ?_ | refine q7 ?_ _)); exact BK378.out) hb)
            have n5_ := qg (q8 (g := gb385) (o := .cells #[.int .i64 t382, .int .i64 t383] 26 (0, 0)) (by (with_reducible repeat (first | refine q5 ?_ _ | refine q6 ?_ | refine q7 ?_ _)); exact BK385.out) hb)
            have n6_ := qg (q8 (g := gb389) (o := .cells #[.int .i64 t386, .int .i64 t387] 26 (0, 0)) (by (with_reducible repeat (first | refine q5 ?_ _ | refine q6 ?_ | refine q7 ?_ _)); exact BK389.out) hb)
            have n7_ := qg (q8 (g := gb393) (o := .cells #[.int .i64 t390, .int .i64 t391] 26 (0, 0)) (by (with_reducible repeat (first | refine q5 ?_ _ | refine q6 ?_ | refine q7 ?_ _)); exact BK393.out) hb)
            have n8_ := qg (q9 (by repeat (first | (with_reducible first | exact HB.out | apply q1 | apply q2 | apply q3 | refine q4 ?_ GE348.out | refine q4 ?_ GE356.out | refine q4 ?_ GE357.out | refine q4 ?_ GE371.out | refine q4 ?_ GE378.out | refine q4 ?_ GE385.out | refine q4 ?_ GE389.out | refine q4 ?_ GE393.out) | exact HB.out)) hb)
            clear BK348
            clear BK356
            clear BK357
            clear BK371
            clear BK378
            clear BK385
            clear BK389
            clear BK393
            clear HB
            have BK348 := n0_
            have BK356 := n1_
            have BK357 := n2_
            have BK371 := n3_
            have BK378 := n4_
            have BK385 := n5_
            have BK389 := n6_
            have BK393 := n7_
            have HB := n8_
            clear n0_ n1_ n2_ n3_ n4_ n5_ n6_ n7_ n8_
            (try clear hb)
            (try clear hb2)
            (try clear hk)
            (try clear hi)
            refine hK.out _ _ ⟨(qc BK389.out 0).trans rfl, (qc BK389.out 1).trans rfl, (qc BK385.out 0).trans rfl, (qc BK385.out 1).trans rfl, (qc BK348.out 0).trans rfl, (qc BK348.out 1).trans rfl, (qc BK348.out 2).trans rfl, (qc BK348.out 3).trans rfl, (qc BK348.out 4).trans rfl, (qc BK371.out 0).trans rfl, (qc BK371.out 1).trans rfl, (qc BK371.out 2).trans rfl, (qc BK371.out 3).trans rfl, (qc BK371.out 4).trans rfl, (qc BK393.out 0).trans rfl, (qc BK393.out 1).trans rfl, (qc BK357.out 0).trans rfl, (qc BK357.out 1).trans rfl⟩ (fun hHeld => ?_)
            clear hK K
            refine norm_ (a' := ?_) ?_ ?_
            rotate_left
            ·show Act.put _ (some 83) _ = _
             simp only [Act.put, p1, p2, p3, i64_w, i32_w]
             rfl
            refine one_ (i := 11) (N := some 86) #[true, true, true, true, true, true, true, true, true, true, true, true, false, false, false, false, false, false, false, false, false, false, false, false, false, false, false, false] rfl rfl (one_of HT_.out (by kernel_rfl)) (by decide) (fun K hK => ?_)
            refine goes_ Try.func53 (by kernel_rfl) rfl #[.agg #[.int .i64 t366, .int .i64 t367, .int .i64 t368, .int .i64 t369, .int .i64 t370], .int .i64 x10_1] (by rfl) rfl rfl (by (try simp only [List.map_toArray, List.map_cons, List.map_nil]); first | done | rfl | (simp only [List.length_drop, List.length_take]; rfl)) ?_
            with_reducible refine (impl_HeightAt.calls t366 t367 t368 t369 t370 x10_1 t397 _ A113.out).mono ?_
            rintro e w211 ⟨rfl, hb⟩
            refine ⟨_, rfl, ?_⟩
            have n0_ := qg (q8 (g := gb348) (o := .cells #[.int .i64 t342, .int .i64 t343, .int .i64 t344, .int .i64 t345, .int .i64 t346] 28 (0, 0)) (by (with_reducible repeat (first | refine q5 ?_ _ | refine q6 ?_ | refine q7 ?_ _)); exact BK348.out) hb)
            have n1_ := qg (q8 (g := gb356) (o := .cells #[.int .i64 t349, .int .i64 t350, .int .i64 t351, .int .i64 t352, .int .i64 t353] 28 (0, 0)) (by (with_reducible repeat (first | refine q5 ?_ _ | refine q6 ?_ | refine q7 ?_ _)); exact BK356.out) hb)
            have n2_ := qg (q8 (g := gb357) (o := .cells #[.int .i64 t354, .int .i64 t355] 26 (0, 0)) (by (with_reducible repeat (first | refine q5 ?_ _ | refine q6 ?_ | refine q7 ?_ _)); exact BK357.out) hb)
            have n3_ := qg (q8 (g := gb371) (o := .cells #[.int .i64 t366, .int .i64 t367, .int .i64 t368, .int .i64 t369, .int .i64 t370] 28 (0, 0)) (by (with_reducible repeat (first | refine q5 ?_ _ | refine q6 ?_ | refine q7 ?_ _)); exact BK371.out) hb)
            have n4_ := qg (q8 (g := gb378) (o := .cells #[.int .i64 t372, .int .i64 t373, .int .i64 t374, .int .i64 t375, .int .i64 t376] 28 (0, 0)) (by (with_reducible repeat (first | refine q5 ?_ _ | refine q6 ?_ | refine q7 ?_ _)); exact BK378.out) hb)
            have n5_ := qg (q8 (g := gb385) (o := .cells #[.int .i64 t382, .int .i64 t383] 26 (0, 0)) (by (with_reducible repeat (first | refine q5 ?_ _ | refine q6 ?_ | refine q7 ?_ _)); exact BK385.out) hb)
            have n6_ := qg (q8 (g := gb389) (o := .cells #[.int .i64 t386, .int .i64 t387] 26 (0, 0)) (by (with_reducible repeat (first | refine q5 ?_ _ | refine q6 ?_ | refine q7 ?_ _)); exact BK389.out) hb)
            have n7_ := qg (q8 (g := gb393) (o := .cells #[.int .i64 t390, .int .i64 t391] 26 (0, 0)) (by (with_reducible repeat (first | refine q5 ?_ _ | refine q6 ?_ | refine q7 ?_ _)); exact BK393.out) hb)
            have n8_ := qg (q9 (by repeat (first | (with_reducible first | exact HB.out | apply q1 | apply q2 | apply q3 | refine q4 ?_ GE348.out | refine q4 ?_ GE356.out | refine q4 ?_ GE357.out | refine q4 ?_ GE371.out | refine q4 ?_ GE378.out | refine q4 ?_ GE385.out | refine q4 ?_ GE389.out | refine q4 ?_ GE393.out) | exact HB.out)) hb)
            clear BK348
            clear BK356
            clear BK357
            clear BK371
            clear BK378
            clear BK385
            clear BK389
            clear BK393
            clear HB
            have BK348 := n0_
            have BK356 := n1_
            have BK357 := n2_
            have BK371 := n3_
            have BK378 := n4_
            have BK385 := n5_
            have BK389 := n6_
            have BK393 := n7_
            have HB := n8_
            clear n0_ n1_ n2_ n3_ n4_ n5_ n6_ n7_ n8_
            (try clear hb)
            (try clear hb2)
            (try clear hk)
            (try clear hi)
            refine hK.out _ _ ⟨(qc BK389.out 0).trans rfl, (qc BK389.out 1).trans rfl, (qc BK385.out 0).trans rfl, (qc BK385.out 1).trans rfl, (qc BK348.out 0).trans rfl, (qc BK348.out 1).trans rfl, (qc BK348.out 2).trans rfl, (qc BK348.out 3).trans rfl, (qc BK348.out 4).trans rfl, (qc BK371.out 0).trans rfl, (qc BK371.out 1).trans rfl, (qc BK371.out 2).trans rfl, (qc BK371.out 3).trans rfl, (qc BK371.out 4).trans rfl, (qc BK393.out 0).trans rfl, (qc BK393.out 1).trans rfl, (qc BK357.out 0).trans rfl, (qc BK357.out 1).trans rfl⟩ (fun hHeld => ?_)
            clear hK K
            refine norm_ (a' := ?_) ?_ ?_
            rotate_left
            ·show Act.put _ (some 86) _ = _
             simp only [Act.put, p1, p2, p3, i64_w, i32_w]
             rfl
            refine pure_ (i := 12) (N := some 87) (v := ?_) (a' := ?_) #[true, true, true, true, true, true, true, true, true, true, true, true, true, false, false, false, false, false, false, false, false, false, false, false, false, false, false, false] rfl rfl (any_of HT_.out (by kernel_rfl)) (fun _ _ _ h => h) (Or.inl ⟨by rfl, ?_⟩) ?_ ?_
            rotate_left
            ·intro w'
             go_simp
             with_reducible rfl
            rotate_left
            ·simp only [Act.put, p1, p2, p3, i64_w, i32_w]
             rfl
            refine pure_ (i := 13) (N := some 88) (v := ?_) (a' := ?_) #[true, true, true, true, true, true, true, true, true, true, true, true, true, true, false, false, false, false, false, false, false, false, false, false, false, false, false, false] rfl rfl (any_of HT_.out (by kernel_rfl)) (fun _ _ _ h => h) (Or.inl ⟨by rfl, ?_⟩) ?_ ?_
            rotate_left
            ·intro w'
             go_simp
             with_reducible rfl
            rotate_left
            ·simp only [Act.put, p1, p2, p3, i64_w, i32_w]
             rfl
            refine pure_ (i := 14) (N := some 89) (v := ?_) (a' := ?_) #[true, true, true, true, true, true, true, true, true, true, true, true, true, true, true, false, false, false, false, false, false, false, false, false, false, false, false, false] rfl rfl (any_of HT_.out (by kernel_rfl)) (fun _ _ _ h => h) (Or.inl ⟨by rfl, ?_⟩) ?_ ?_
            rotate_left
            ·intro w'
             go_simp
             with_reducible rfl
            rotate_left
            ·simp only [Act.put, p1, p2, p3, i64_w, i32_w]
             rfl
            refine pure_ (i := 15) (N := some 90) (v := ?_) (a' := ?_) #[true, true, true, true, true, true, true, true, true, true, true, true, true, true, true, true, false, false, false, false, false, false, false, false, false, false, false, false] rfl rfl (any_of HT_.out (by kernel_rfl)) (fun _ _ _ h => h) (Or.inl ⟨by rfl, ?_⟩) ?_ ?_
            rotate_left
            ·intro w'
             go_simp
             with_reducible rfl
            rotate_left
            ·simp only [Act.put, p1, p2, p3, i64_w, i32_w]
             rfl
            refine pure_ (i := 16) (N := some 91) (v := ?_) (a' := ?_) #[true, true, true, true, true, true, true, true, true, true, true, true, true, true, true, true, true, false, false, false, false, false, false, false, false, false, false, false] rfl rfl (any_of HT_.out (by kernel_rfl)) (fun _ _ _ h => h) (Or.inl ⟨by rfl, ?_⟩) ?_ ?_
            rotate_left
            ·intro w'
             go_simp
             with_reducible rfl
            rotate_left
            ·simp only [Act.put, p1, p2, p3, i64_w, i32_w]
             rfl
            refine pure_ (i := 17) (N := some 92) (v := ?_) (a' := ?_) #[true, true, true, true, true, true, true, true, true, true, true, true, true, true, true, true, true, true, false, false, false, false, false, false, false, false, false, false] rfl rfl (any_of HT_.out (by kernel_rfl)) (fun _ _ _ h => h) (Or.inl ⟨by rfl, ?_⟩) ?_ ?_
            rotate_left
            ·intro w'
             go_simp
             with_reducible rfl
            rotate_left
            ·simp only [Act.put, p1, p2, p3, i64_w, i32_w]
             rfl
            refine pure_ (i := 18) (N := some 93) (v := ?_) (a' := ?_) #[true, true, true, true, true, true, true, true, true, true, true, true, true, true, true, true, true, true, true, false, false, false, false, false, false, false, false, false] rfl rfl (any_of HT_.out (by kernel_rfl)) (fun _ _ _ h => h) (Or.inl ⟨by rfl, ?_⟩) ?_ ?_
            rotate_left
            ·intro w'
             go_simp
             with_reducible rfl
            rotate_left
            ·simp only [Act.put, p1, p2, p3, i64_w, i32_w]
             rfl
            refine pure_ (i := 19) (N := some 94) (v := ?_) (a' := ?_) #[true, true, true, true, true, true, true, true, true, true, true, true, true, true, true, true, true, true, true, true, false, false, false, false, false, false, false, false] rfl rfl (any_of HT_.out (by kernel_rfl)) (fun _ _ _ h => h) (Or.inl ⟨by rfl, ?_⟩) ?_ ?_
            rotate_left
            ·intro w'
             go_simp
             with_reducible rfl
            rotate_left
            ·simp only [Act.put, p1, p2, p3, i64_w, i32_w]
             rfl
            refine take_ (i := 20) (N := some 95) (v := ?_) (a' := ?_) #[true, true, true, true, true, true, true, true, true, true, true, true, true, true, true, true, true, true, true, true, true, false, false, false, false, false, false, false] rfl rfl (take_ofW HT_.out HW_.out (by kernel_rfl)) (fun _ _ _ h => h) (Or.inl ⟨by rfl, ?_⟩) hHeld ?_ ?_
            rotate_left
            ·rintro w' ⟨s0, s1, s2, s3, s4, s5, s6, s7, s8, s9, s10, s11, s12, s13, s14, s15, s16, s17⟩
             go_simp
             with_reducible rfl
            rotate_left
            ·simp only [Act.put, p1, p2, p3, i64_w, i32_w]
             rfl
            refine take_ (i := 21) (N := some 96) (v := ?_) (a' := ?_) #[true, true, true, true, true, true, true, true, true, true, true, true, true, true, true, true, true, true, true, true, true, true, false, false, false, false, false, false] rfl rfl (take_ofW HT_.out HW_.out (by kernel_rfl)) (fun _ _ _ h => h) (Or.inl ⟨by rfl, ?_⟩) hHeld ?_ ?_
            rotate_left
            ·rintro w' ⟨s0, s1, s2, s3, s4, s5, s6, s7, s8, s9, s10, s11, s12, s13, s14, s15, s16, s17⟩
             go_simp
             with_reducible rfl
            rotate_left
            ·simp only [Act.put, p1, p2, p3, i64_w, i32_w]
             rfl
            refine take_ (i := 22) (N := some 97) (v := ?_) (a' := ?_) #[true, true, true, true, true, true, true, true, true, true, true, true, true, true, true, true, true, true, true, true, true, true, true, false, false, false, false, false] rfl rfl (take_ofW HT_.out HW_.out (by kernel_rfl)) (fun _ _ _ h => h) (Or.inl ⟨by rfl, ?_⟩) hHeld ?_ ?_
            rotate_left
            ·rintro w' ⟨s0, s1, s2, s3, s4, s5, s6, s7, s8, s9, s10, s11, s12, s13, s14, s15, s16, s17⟩
             go_simp
             with_reducible rfl
            rotate_left
            ·simp only [Act.put, p1, p2, p3, i64_w, i32_w]
             rfl
            refine one_ (i := 23) (N := some 98) #[true, true, true, true, true, true, true, true, true, true, true, true, true, true, true, true, true, true, true, true, true, true, true, true, false, false, false, false] rfl rfl (one_of HT_.out (by kernel_rfl)) (by decide) (fun K hK => ?_)
            refine goes_ Try.func61 (by kernel_rfl) rfl #[.agg #[.int .i64 t382, .int .i64 t383], .agg #[.int .i64 t354, .int .i64 t355]] (by rfl) rfl rfl (by (try simp only [List.map_toArray, List.map_cons, List.map_nil]); first | done | rfl | (simp only [List.length_drop, List.length_take]; rfl)) ?_
            with_reducible refine (laws_plus.calls t382 t383 t354 t355 t398 t399 _ A117.out).mono ?_
            rintro e w212 ⟨rfl, hb⟩
            refine ⟨_, rfl, ?_⟩
            have n0_ := qg (q8 (g := gb348) (o := .cells #[.int .i64 t342, .int .i64 t343, .int .i64 t344, .int .i64 t345, .int .i64 t346] 28 (0, 0)) (by (with_reducible repeat (first | refine q5 ?_ _ | refine q6 ?_ | refine q7 ?_ _)); exact BK348.out) hb)
            have n1_ := qg (q8 (g := gb356) (o := .cells #[.int .i64 t349, .int .i64 t350, .int .i64 t351, .int .i64 t352, .int .i64 t353] 28 (0, 0)) (by (with_reducible repeat (first | refine q5 ?_ _ | refine q6 ?_ | refine q7 ?_ _)); exact BK356.out) hb)
            have n2_ := qg (q8 (g := gb357) (o := .cells #[.int .i64 t354, .int .i64 t355] 26 (0, 0)) (by (with_reducible repeat (first | refine q5 ?_ _ | refine q6 ?_ | refine q7 ?_ _)); exact BK357.out) hb)
            have n3_ := qg (q8 (g := gb371) (o := .cells #[.int .i64 t366, .int .i64 t367, .int .i64 t368, .int .i64 t369, .int .i64 t370] 28 (0, 0)) (by (with_reducible repeat (first | refine q5 ?_ _ | refine q6 ?_ | refine q7 ?_ _)); exact BK371.out) hb)
            have n4_ := qg (q8 (g := gb378) (o := .cells #[.int .i64 t372, .int .i64 t373, .int .i64 t374, .int .i64 t375, .int .i64 t376] 28 (0, 0)) (by (with_reducible repeat (first | refine q5 ?_ _ | refine q6 ?_ | refine q7 ?_ _)); exact BK378.out) hb)
            have n5_ := qg (q8 (g := gb385) (o := .cells #[.int .i64 t382, .int .i64 t383] 26 (0, 0)) (by (with_reducible repeat (first | refine q5 ?_ _ | refine q6 ?_ | refine q7 ?_ _)); exact BK385.out) hb)
            have n6_ := qg (q8 (g := gb389) (o := .cells #[.int .i64 t386, .int .i64 t387] 26 (0, 0)) (by (with_reducible repeat (first | refine q5 ?_ _ | refine q6 ?_ | refine q7 ?_ _)); exact BK389.out) hb)
            have n7_ := qg (q8 (g := gb393) (o := .cells #[.int .i64 t390, .int .i64 t391] 26 (0, 0)) (by (with_reducible repeat (first | refine q5 ?_ _ | refine q6 ?_ | refine q7 ?_ _)); exact BK393.out) hb)
            have n8_ := qg (q9 (by repeat (first | (with_reducible first | exact HB.out | apply q1 | apply q2 | apply q3 | refine q4 ?_ GE348.out | refine q4 ?_ GE356.out | refine q4 ?_ GE357.out | refine q4 ?_ GE371.out | refine q4 ?_ GE378.out | refine q4 ?_ GE385.out | refine q4 ?_ GE389.out | refine q4 ?_ GE393.out) | exact HB.out)) hb)
            clear BK348
            clear BK356
            clear BK357
            clear BK371
            clear BK378
            clear BK385
            clear BK389
            clear BK393
            clear HB
            have BK348 := n0_
            have BK356 := n1_
            have BK357 := n2_
            have BK371 := n3_
            have BK378 := n4_
            have BK385 := n5_
            have BK389 := n6_
            have BK393 := n7_
            have HB := n8_
            clear n0_ n1_ n2_ n3_ n4_ n5_ n6_ n7_ n8_
            (try clear hb)
            (try clear hb2)
            (try clear hk)
            (try clear hi)
            refine hK.out _ _ ⟨(qc BK389.out 0).trans rfl, (qc BK389.out 1).trans rfl, (qc BK385.out 0).trans rfl, (qc BK385.out 1).trans rfl, (qc BK348.out 0).trans rfl, (qc BK348.out 1).trans rfl, (qc BK348.out 2).trans rfl, (qc BK348.out 3).trans rfl, (qc BK348.out 4).trans rfl, (qc BK371.out 0).trans rfl, (qc BK371.out 1).trans rfl, (qc BK371.out 2).trans rfl, (qc BK371.out 3).trans rfl, (qc BK371.out 4).trans rfl, (qc BK393.out 0).trans rfl, (qc BK393.out 1).trans rfl, (qc BK357.out 0).trans rfl, (qc BK357.out 1).trans rfl⟩ (fun hHeld => ?_)
            clear hK K
            refine norm_ (a' := ?_) ?_ ?_
            rotate_left
            ·show Act.put _ (some 98) _ = _
             simp only [Act.put, p1, p2, p3, i64_w, i32_w]
             rfl
            refine pure_ (i := 24) (N := some 99) (v := ?_) (a' := ?_) #[true, true, true, true, true, true, true, true, true, true, true, true, true, true, true, true, true, true, true, true, true, true, true, true, true, false, false, false] rfl rfl (any_of HT_.out (by kernel_rfl)) (fun _ _ _ h => h) (Or.inl ⟨by rfl, ?_⟩) ?_ ?_
            rotate_left
            ·intro w'
             go_simp
             with_reducible rfl
            rotate_left
            ·simp only [Act.put, p1, p2, p3, i64_w, i32_w]
             rfl
            refine pure_ (i := 25) (N := some 100) (v := ?_) (a' := ?_) #[true, true, true, true, true, true, true, true, true, true, true, true, true, true, true, true, true, true, true, true, true, true, true, true, true, true, false, false] rfl rfl (any_of HT_.out (by kernel_rfl)) (fun _ _ _ h => h) (Or.inl ⟨by rfl, ?_⟩) ?_ ?_
            rotate_left
            ·intro w'
             go_simp
             with_reducible rfl
            rotate_left
            ·simp only [Act.put, p1, p2, p3, i64_w, i32_w]
             rfl
            refine pure_ (i := 26) (N := some 101) (v := ?_) (a' := ?_) #[true, true, true, true, true, true, true, true, true, true, true, true, true, true, true, true, true, true, true, true, true, true, true, true, true, true, true, false] rfl rfl (any_of HT_.out (by kernel_rfl)) (fun _ _ _ h => h) (Or.inl ⟨by rfl, ?_⟩) ?_ ?_
            rotate_left
            ·intro w'
             go_simp
             with_reducible rfl
            rotate_left
            ·simp only [Act.put, p1, p2, p3, i64_w, i32_w]
             rfl
            refine pure_ (i := 27) (N := some 102) (v := ?_) (a' := ?_) #[true, true, true, true, true, true, true, true, true, true, true, true, true, true, true, true, true, true, true, true, true, true, true, true, true, true, true, true] rfl rfl (any_of HT_.out (by kernel_rfl)) (fun _ _ _ h => h) (Or.inl ⟨by rfl, ?_⟩) ?_ ?_
            rotate_left
            ·intro w'
             go_simp
             with_reducible rfl
            rotate_left
            ·simp only [Act.put, p1, p2, p3, i64_w, i32_w]
             rfl
            refine done_ (done_of HT_.out (by kernel_rfl)) ?_
            try go_wp2
            go_roundg k1
            case measure => have := HK1.out; omega
            case rel => exact ⟨(wrap64 (x10_1 + 1)), (by first | rfl | (simp; done) | (simp [*]; done)), H', ⟨by have := HK1.out; omega⟩, ⟨by (with_reducible repeat (first | refine q5 ?_ _ | refine q6 ?_ | refine q7 ?_ _)); exact BK348.out⟩, ⟨by (with_reducible repeat (first | refine q5 ?_ _ | refine q6 ?_ | refine q7 ?_ _)); exact BK356.out⟩, ⟨by (with_reducible repeat (first | refine q5 ?_ _ | refine q6 ?_ | refine q7 ?_ _)); exact BK357.out⟩, ⟨by (with_reducible repeat (first | refine q5 ?_ _ | refine q6 ?_ | refine q7 ?_ _)); exact BK371.out⟩, ⟨by (with_reducible repeat (first | refine q5 ?_ _ | refine q6 ?_ | refine q7 ?_ _)); exact BK378.out⟩, ⟨by repeat (first | (with_reducible first | exact HB.out | apply q1 | apply q2 | apply q3 | refine q4 ?_ GE348.out | refine q4 ?_ GE356.out | refine q4 ?_ GE357.out | refine q4 ?_ GE371.out | refine q4 ?_ GE378.out | refine q4 ?_ GE385.out | refine q4 ?_ GE389.out | refine q4 ?_ GE393.out) | exact HB.out)⟩⟩
          ·replace c116 := Bool.eq_false_iff.mpr c116
           subst c116
           have H1 : (some false) = some r := by rw [if_neg (show ¬ (false = true) by decide)] at H; exact H
           clear H
           have H := H1
           clear H1
           obtain rfl := Option.some.inj H
           exact absurd HR.out (by decide)
         ·replace c115 := Bool.eq_false_iff.mpr c115
          subst c115
          have H1 : (laws_FnMovedJet.l0 k1 t347 false (wrap64 (x10_1 + 1)) t342 t343 t344 t345 t346 t354 t355 t366 t367 t368 t369 t370 t372 t373 t374 t375 t376) = some r := by rw [if_neg (show ¬ (false = true) by decide)] at H; exact H
          clear H
          have H := H1
          clear H1
          have H' := qg H
          clear H
          have hnb259 := NB348_356.out
          have hnc259 := NB356_348.out
          have hnb260 := NB348_357.out
          have hnc260 := NB357_348.out
          have hnb261 := NB348_371.out
          have hnc261 := NB371_348.out
          have hnb262 := NB348_378.out
          have hnc262 := NB378_348.out
          have hcz263_0 : wr.cell? ⟨gb348, 0, none⟩ = some (.int .i64 t342) := (qc BK348.out 0).trans rfl
          have hcz263_1 : wr.cell? ⟨gb348, 1, none⟩ = some (.int .i64 t343) := (qc BK348.out 1).trans rfl
          have hcz263_2 : wr.cell? ⟨gb348, 2, none⟩ = some (.int .i64 t344) := (qc BK348.out 2).trans rfl
          have hcz263_3 : wr.cell? ⟨gb348, 3, none⟩ = some (.int .i64 t345) := (qc BK348.out 3).trans rfl
          have hcz263_4 : wr.cell? ⟨gb348, 4, none⟩ = some (.int .i64 t346) := (qc BK348.out 4).trans rfl
          have hfz263_0 := qb BK348.out 0
          have hfz263_1 := qb BK348.out 1
          have hfz263_2 := qb BK348.out 2
          have hfz263_3 := qb BK348.out 3
          have hfz263_4 := qb BK348.out 4
          try go_wp2_with (first | ((with_reducible refine qt (f := 56) rfl ?_); refine goesL_ (some 53) rfl rfl Try.func56 (by kernel_rfl) rfl #[.agg #[.int .i64 t342, .int .i64 t343, .int .i64 t344, .int .i64 t345, .int .i64 t346]] rfl (by (try simp only [List.map_toArray, List.map_cons, List.map_nil]); first | done | rfl | (simp only [List.length_drop, List.length_take]; rfl)) ?_; (with_reducible refine (impl_FlightOf.calls t342 t343 t344 t345 t346 t379 _ A61.out).mono ?_); rintro e w264 ⟨rfl, hb⟩; refine ⟨_, rfl, ?_⟩; have n0_ := qg (q8 (g := gb348) (o := .cells #[.int .i64 t342, .int .i64 t343, .int .i64 t344, .int .i64 t345, .int .i64 t346] 28 (0, 0)) (by (with_reducible repeat (first | refine q5 ?_ _ | refine q6 ?_ | refine q7 ?_ _)); exact BK348.out) hb); have n1_ := qg (q8 (g := gb356) (o := .cells #[.int .i64 t349, .int .i64 t350, .int .i64 t351, .int .i64 t352, .int .i64 t353] 28 (0, 0)) (by (with_reducible repeat (first | refine q5 ?_ _ | refine q6 ?_ | refine q7 ?_ _)); exact BK356.out) hb); have n2_ := qg (q8 (g := gb357) (o := .cells #[.int .i64 t354, .int .i64 t355] 26 (0, 0)) (by (with_reducible repeat (first | refine q5 ?_ _ | refine q6 ?_ | refine q7 ?_ _)); exact BK357.out) hb); have n3_ := qg (q8 (g := gb371) (o := .cells #[.int .i64 t366, .int .i64 t367, .int .i64 t368, .int .i64 t369, .int .i64 t370] 28 (0, 0)) (by (with_reducible repeat (first | refine q5 ?_ _ | refine q6 ?_ | refine q7 ?_ _)); exact BK371.out) hb); have n4_ := qg (q8 (g := gb378) (o := .cells #[.int .i64 t372, .int .i64 t373, .int .i64 t374, .int .i64 t375, .int .i64 t376] 28 (0, 0)) (by (with_reducible repeat (first | refine q5 ?_ _ | refine q6 ?_ | refine q7 ?_ _)); exact BK378.out) hb); have n5_ := qg (q9 (by repeat (first | (with_reducible first | exact HB.out | apply q1 | apply q2 | apply q3 | refine q4 ?_ GE348.out | refine q4 ?_ GE356.out | refine q4 ?_ GE357.out | refine q4 ?_ GE371.out | refine q4 ?_ GE378.out) | exact HB.out)) hb); clear BK348; clear BK356; clear BK357; clear BK371; clear BK378; clear HB; have BK348 := n0_; have BK356 := n1_; have BK357 := n2_; have BK371 := n3_; have BK378 := n4_; have HB := n5_; clear n0_ n1_ n2_ n3_ n4_ n5_; (try clear hb); (try clear hb2); (try clear hk); (try clear hi); have hcz265_0 : w264.cell? ⟨gb348, 0, none⟩ = some (.int .i64 t342) := (qc BK348.out 0).trans rfl; have hcz265_1 : w264.cell? ⟨gb348, 1, none⟩ = some (.int .i64 t343) := (qc BK348.out 1).trans rfl; have hcz265_2 : w264.cell? ⟨gb348, 2, none⟩ = some (.int .i64 t344) := (qc BK348.out 2).trans rfl; have hcz265_3 : w264.cell? ⟨gb348, 3, none⟩ = some (.int .i64 t345) := (qc BK348.out 3).trans rfl; have hcz265_4 : w264.cell? ⟨gb348, 4, none⟩ = some (.int .i64 t346) := (qc BK348.out 4).trans rfl; have hfz265_0 := qb BK348.out 0; have hfz265_1 := qb BK348.out 1; have hfz265_2 := qb BK348.out 2; have hfz265_3 := qb BK348.out 3; have hfz265_4 := qb BK348.out 4) | ((with_reducible refine qt (f := 26) rfl ?_); refine goesL_ (some 60) rfl rfl Try.func26 (by kernel_rfl) rfl #[.agg #[.int .i64 t342, .int .i64 t343, .int .i64 t344, .int .i64 t345, .int .i64 t346], .int .i64 x10_1] rfl (by (try simp only [List.map_toArray, List.map_cons, List.map_nil]); first | done | rfl | (simp only [List.length_drop, List.length_take]; rfl)) ?_; (with_reducible refine (impl_PlaceAt.calls k1 t342 t343 t344 t345 t346 x10_1 t382 t383 t384 _ A63.out).mono ?_); rintro e w266 ⟨rfl, hb⟩; refine ⟨_, rfl, ?_⟩; have n0_ := qg (q8 (g := gb348) (o := .cells #[.int .i64 t342, .int .i64 t343, .int .i64 t344, .int .i64 t345, .int .i64 t346] 28 (0, 0)) (by (with_reducible repeat (first | refine q5 ?_ _ | refine q6 ?_ | refine q7 ?_ _)); exact BK348.out) hb); have n1_ := qg (q8 (g := gb356) (o := .cells #[.int .i64 t349, .int .i64 t350, .int .i64 t351, .int .i64 t352, .int .i64 t353] 28 (0, 0)) (by (with_reducible repeat (first | refine q5 ?_ _ | refine q6 ?_ | refine q7 ?_ _)); exact BK356.out) hb); have n2_ := qg (q8 (g := gb357) (o := .cells #[.int .i64 t354, .int .i64 t355] 26 (0, 0)) (by (with_reducible repeat (first | refine q5 ?_ _ | refine q6 ?_ | refine q7 ?_ _)); exact BK357.out) hb); have n3_ := qg (q8 (g := gb371) (o := .cells #[.int .i64 t366, .int .i64 t367, .int .i64 t368, .int .i64 t369, .int .i64 t370] 28 (0, 0)) (by (with_reducible repeat (first | refine q5 ?_ _ | refine q6 ?_ | refine q7 ?_ _)); exact BK371.out) hb); have n4_ := qg (q8 (g := gb378) (o := .cells #[.int .i64 t372, .int .i64 t373, .int .i64 t374, .int .i64 t375, .int .i64 t376] 28 (0, 0)) (by (with_reducible repeat (first | refine q5 ?_ _ | refine q6 ?_ | refine q7 ?_ _)); exact BK378.out) hb); have n5_ := qg (q9 (by repeat (first | (with_reducible first | exact HB.out | apply q1 | apply q2 | apply q3 | refine q4 ?_ GE348.out | refine q4 ?_ GE356.out | refine q4 ?_ GE357.out | refine q4 ?_ GE371.out | refine q4 ?_ GE378.out) | exact HB.out)) hb); clear BK348; clear BK356; clear BK357; clear BK371; clear BK378; clear HB; have BK348 := n0_; have BK356 := n1_; have BK357 := n2_; have BK371 := n3_; have BK378 := n4_; have HB := n5_; clear n0_ n1_ n2_ n3_ n4_ n5_; (try clear hb); (try clear hb2); (try clear hk); (try clear hi)) | ((with_reducible refine qu (N := 11) rfl ?_); refine qh ?hg (N := 11) ?hd (cs := #[.int .i64 0, .int .i64 0]) (t := 26) ?hr ?_; (case hd => rfl); (case hg => rfl); (case hr => first | (go_simp; done) | (go_simp; rfl)); intro gb385 hg w267 hbox hb; have n0_ := qg (q8 (g := gb348) (o := .cells #[.int .i64 t342, .int .i64 t343, .int .i64 t344, .int .i64 t345, .int .i64 t346] 28 (0, 0)) (by (with_reducible repeat (first | refine q5 ?_ _ | refine q6 ?_ | refine q7 ?_ _)); exact BK348.out) hb); have n1_ := qg (q8 (g := gb356) (o := .cells #[.int .i64 t349, .int .i64 t350, .int .i64 t351, .int .i64 t352, .int .i64 t353] 28 (0, 0)) (by (with_reducible repeat (first | refine q5 ?_ _ | refine q6 ?_ | refine q7 ?_ _)); exact BK356.out) hb); have n2_ := qg (q8 (g := gb357) (o := .cells #[.int .i64 t354, .int .i64 t355] 26 (0, 0)) (by (with_reducible repeat (first | refine q5 ?_ _ | refine q6 ?_ | refine q7 ?_ _)); exact BK357.out) hb); have n3_ := qg (q8 (g := gb371) (o := .cells #[.int .i64 t366, .int .i64 t367, .int .i64 t368, .int .i64 t369, .int .i64 t370] 28 (0, 0)) (by (with_reducible repeat (first | refine q5 ?_ _ | refine q6 ?_ | refine q7 ?_ _)); exact BK371.out) hb); have n4_ := qg (q8 (g := gb378) (o := .cells #[.int .i64 t372, .int .i64 t373, .int .i64 t374, .int .i64 t375, .int .i64 t376] 28 (0, 0)) (by (with_reducible repeat (first | refine q5 ?_ _ | refine q6 ?_ | refine q7 ?_ _)); exact BK378.out) hb); have n5_ := qg (q9 (by repeat (first | (with_reducible first | exact HB.out | apply q1 | apply q2 | apply q3 | refine q4 ?_ GE348.out | refine q4 ?_ GE356.out | refine q4 ?_ GE357.out | refine q4 ?_ GE371.out | refine q4 ?_ GE378.out) | exact HB.out)) hb); have n6_ := qg (hbox); have n7_ := qg ((by rw [hg]; exact (qa (by repeat (first | (with_reducible first | exact HB.out | apply q1 | apply q2 | apply q3 | refine q4 ?_ GE348.out | refine q4 ?_ GE356.out | refine q4 ?_ GE357.out | refine q4 ?_ GE371.out | refine q4 ?_ GE378.out) | exact HB.out))) : w.heap.size ≤ gb385)); have n8_ := qg ((by rw [hg]; exact (qa (by repeat (first | (with_reducible first | exact HB.out | apply q1 | apply q2 | apply q3 | refine q4 ?_ GE348.out | refine q4 ?_ GE356.out | refine q4 ?_ GE357.out | refine q4 ?_ GE371.out | refine q4 ?_ GE378.out) | exact HB.out))) : w.heap.size ≤ gb385)); have n9_ := qg ((by rw [hg]; exact qv (qd (g := gb348) (o := .cells #[.int .i64 t342, .int .i64 t343, .int .i64 t344, .int .i64 t345, .int .i64 t346] 28 (0, 0)) (by (with_reducible repeat (first | refine q5 ?_ _ | refine q6 ?_ | refine q7 ?_ _)); exact BK348.out)) : gb348 ≠ gb385)); have n10_ := qg ((by rw [hg]; exact qw (qd (g := gb348) (o := .cells #[.int .i64 t342, .int .i64 t343, .int .i64 t344, .int .i64 t345, .int .i64 t346] 28 (0, 0)) (by (with_reducible repeat (first | refine q5 ?_ _ | refine q6 ?_ | refine q7 ?_ _)); exact BK348.out)) : gb385 ≠ gb348)); have n11_ := qg ((by rw [hg]; exact qv (qd (g := gb356) (o := .cells #[.int .i64 t349, .int .i64 t350, .int .i64 t351, .int .i64 t352, .int .i64 t353] 28 (0, 0)) (by (with_reducible repeat (first | refine q5 ?_ _ | refine q6 ?_ | refine q7 ?_ _)); exact BK356.out)) : gb356 ≠ gb385)); have n12_ := qg ((by rw [hg]; exact qw (qd (g := gb356) (o := .cells #[.int .i64 t349, .int .i64 t350, .int .i64 t351, .int .i64 t352, .int .i64 t353] 28 (0, 0)) (by (with_reducible repeat (first | refine q5 ?_ _ | refine q6 ?_ | refine q7 ?_ _)); exact BK356.out)) : gb385 ≠ gb356)); have n13_ := qg ((by rw [hg]; exact qv (qd (g := gb357) (o := .cells #[.int .i64 t354, .int .i64 t355] 26 (0, 0)) (by (with_reducible repeat (first | refine q5 ?_ _ | refine q6 ?_ | refine q7 ?_ _)); exact BK357.out)) : gb357 ≠ gb385)); have n14_ := qg ((by rw [hg]; exact qw (qd (g := gb357) (o := .cells #[.int .i64 t354, .int .i64 t355] 26 (0, 0)) (by (with_reducible repeat (first | refine q5 ?_ _ | refine q6 ?_ | refine q7 ?_ _)); exact BK357.out)) : gb385 ≠ gb357)); have n15_ := qg ((by rw [hg]; exact qv (qd (g := gb371) (o := .cells #[.int .i64 t366, .int .i64 t367, .int .i64 t368, .int .i64 t369, .int .i64 t370] 28 (0, 0)) (by (with_reducible repeat (first | refine q5 ?_ _ | refine q6 ?_ | refine q7 ?_ _)); exact BK371.out)) : gb371 ≠ gb385)); have n16_ := qg ((by rw [hg]; exact qw (qd (g := gb371) (o := .cells #[.int .i64 t366, .int .i64 t367, .int .i64 t368, .int .i64 t369, .int .i64 t370] 28 (0, 0)) (by (with_reducible repeat (first | refine q5 ?_ _ | refine q6 ?_ | refine q7 ?_ _)); exact BK371.out)) : gb385 ≠ gb371)); have n17_ := qg ((by rw [hg]; exact qv (qd (g := gb378) (o := .cells #[.int .i64 t372, .int .i64 t373, .int .i64 t374, .int .i64 t375, .int .i64 t376] 28 (0, 0)) (by (with_reducible repeat (first | refine q5 ?_ _ | refine q6 ?_ | refine q7 ?_ _)); exact BK378.out)) : gb378 ≠ gb385)); have n18_ := qg ((by rw [hg]; exact qw (qd (g := gb378) (o := .cells #[.int .i64 t372, .int .i64 t373, .int .i64 t374, .int .i64 t375, .int .i64 t376] 28 (0, 0)) (by (with_reducible repeat (first | refine q5 ?_ _ | refine q6 ?_ | refine q7 ?_ _)); exact BK378.out)) : gb385 ≠ gb378)); clear BK348; clear BK356; clear BK357; clear BK371; clear BK378; clear HB; have BK348 := n0_; have BK356 := n1_; have BK357 := n2_; have BK371 := n3_; have BK378 := n4_; have HB := n5_; have BK385 := n6_; have GW385 := n7_; have GE385 := n8_; have NB348_385 := n9_; have NB385_348 := n10_; have NB356_385 := n11_; have NB385_356 := n12_; have NB357_385 := n13_; have NB385_357 := n14_; have NB371_385 := n15_; have NB385_371 := n16_; have NB378_385 := n17_; have NB385_378 := n18_; clear n0_ n1_ n2_ n3_ n4_ n5_ n6_ n7_ n8_ n9_ n10_ n11_ n12_ n13_ n14_ n15_ n16_ n17_ n18_; clear hb hbox hg; have hnb268 := NB385_348.out; have hnc268 := NB348_385.out; have hnb269 := NB385_356.out; have hnc269 := NB356_385.out; have hnb270 := NB385_357.out; have hnc270 := NB357_385.out; have hnb271 := NB385_371.out; have hnc271 := NB371_385.out; have hnb272 := NB385_378.out; have hnc272 := NB378_385.out; have hcz273_0 : w267.cell? ⟨gb385, 0, none⟩ = some (.int .i64 0) := (qc BK385.out 0).trans rfl; have hcz273_1 : w267.cell? ⟨gb385, 1, none⟩ = some (.int .i64 0) := (qc BK385.out 1).trans rfl; have hfz273_0 := qb BK385.out 0; have hfz273_1 := qb BK385.out 1; have hnb274 := NB371_356.out; have hnc274 := NB356_371.out; have hnb275 := NB371_357.out; have hnc275 := NB357_371.out; have hnb276 := NB371_378.out; have hnc276 := NB378_371.out; have hcz277_0 : w267.cell? ⟨gb371, 0, none⟩ = some (.int .i64 t366) := (qc BK371.out 0).trans rfl; have hcz277_1 : w267.cell? ⟨gb371, 1, none⟩ = some (.int .i64 t367) := (qc BK371.out 1).trans rfl; have hcz277_2 : w267.cell? ⟨gb371, 2, none⟩ = some (.int .i64 t368) := (qc BK371.out 2).trans rfl; have hcz277_3 : w267.cell? ⟨gb371, 3, none⟩ = some (.int .i64 t369) := (qc BK371.out 3).trans rfl; have hcz277_4 : w267.cell? ⟨gb371, 4, none⟩ = some (.int .i64 t370) := (qc BK371.out 4).trans rfl; have hfz277_0 := qb BK371.out 0; have hfz277_1 := qb BK371.out 1; have hfz277_2 := qb BK371.out 2; have hfz277_3 := qb BK371.out 3; have hfz277_4 := qb BK371.out 4) | ((with_reducible refine qt (f := 26) rfl ?_); refine goesL_ (some 66) rfl rfl Try.func26 (by kernel_rfl) rfl #[.agg #[.int .i64 t366, .int .i64 t367, .int .i64 t368, .int .i64 t369, .int .i64 t370], .int .i64 x10_1] rfl (by (try simp only [List.map_toArray, List.map_cons, List.map_nil]); first | done | rfl | (simp only [List.length_drop, List.length_take]; rfl)) ?_; (with_reducible refine (impl_PlaceAt.calls k1 t366 t367 t368 t369 t370 x10_1 t386 t387 t388 _ A64.out).mono ?_); rintro e w278 ⟨rfl, hb⟩; refine ⟨_, rfl, ?_⟩; have n0_ := qg (q8 (g := gb348) (o := .cells #[.int .i64 t342, .int .i64 t343, .int .i64 t344, .int .i64 t345, .int .i64 t346] 28 (0, 0)) (by (with_reducible repeat (first | refine q5 ?_ _ | refine q6 ?_ | refine q7 ?_ _)); refine qe ?_ NB348_385.out _; (with_reducible repeat (first | refine q5 ?_ _ | refine q6 ?_ | refine q7 ?_ _)); refine qe ?_ NB348_385.out _; (with_reducible repeat (first | refine q5 ?_ _ | refine q6 ?_ | refine q7 ?_ _)); exact BK348.out) hb); have n1_ := qg (q8 (g := gb356) (o := .cells #[.int .i64 t349, .int .i64 t350, .int .i64 t351, .int .i64 t352, .int .i64 t353] 28 (0, 0)) (by (with_reducible repeat (first | refine q5 ?_ _ | refine q6 ?_ | refine q7 ?_ _)); refine qe ?_ NB356_385.out _; (with_reducible repeat (first | refine q5 ?_ _ | refine q6 ?_ | refine q7 ?_ _)); refine qe ?_ NB356_385.out _; (with_reducible repeat (first | refine q5 ?_ _ | refine q6 ?_ | refine q7 ?_ _)); exact BK356.out) hb); have n2_ := qg (q8 (g := gb357) (o := .cells #[.int .i64 t354, .int .i64 t355] 26 (0, 0)) (by (with_reducible repeat (first | refine q5 ?_ _ | refine q6 ?_ | refine q7 ?_ _)); refine qe ?_ NB357_385.out _; (with_reducible repeat (first | refine q5 ?_ _ | refine q6 ?_ | refine q7 ?_ _)); refine qe ?_ NB357_385.out _; (with_reducible repeat (first | refine q5 ?_ _ | refine q6 ?_ | refine q7 ?_ _)); exact BK357.out) hb); have n3_ := qg (q8 (g := gb371) (o := .cells #[.int .i64 t366, .int .i64 t367, .int .i64 t368, .int .i64 t369, .int .i64 t370] 28 (0, 0)) (by (with_reducible repeat (first | refine q5 ?_ _ | refine q6 ?_ | refine q7 ?_ _)); refine qe ?_ NB371_385.out _; (with_reducible repeat (first | refine q5 ?_ _ | refine q6 ?_ | refine q7 ?_ _)); refine qe ?_ NB371_385.out _; (with_reducible repeat (first | refine q5 ?_ _ | refine q6 ?_ | refine q7 ?_ _)); exact BK371.out) hb); have n4_ := qg (q8 (g := gb378) (o := .cells #[.int .i64 t372, .int .i64 t373, .int .i64 t374, .int .i64 t375, .int .i64 t376] 28 (0, 0)) (by (with_reducible repeat (first | refine q5 ?_ _ | refine q6 ?_ | refine q7 ?_ _)); refine qe ?_ NB378_385.out _; (with_reducible repeat (first | refine q5 ?_ _ | refine q6 ?_ | refine q7 ?_ _)); refine qe ?_ NB378_385.out _; (with_reducible repeat (first | refine q5 ?_ _ | refine q6 ?_ | refine q7 ?_ _)); exact BK378.out) hb); have n5_ := qg (q8 (g := gb385) (o := .cells #[.int .i64 t382, .int .i64 t383] 26 (0, 0)) (by (with_reducible repeat (first | refine q5 ?_ _ | refine q6 ?_ | refine q7 ?_ _)); refine qf (cs := #[.int .i64 t382, .int .i64 0]) ?_ 1 _ rfl; (with_reducible repeat (first | refine q5 ?_ _ | refine q6 ?_ | refine q7 ?_ _)); refine qf (cs := #[.int .i64 0, .int .i64 0]) ?_ 0 _ rfl; (with_reducible repeat (first | refine q5 ?_ _ | refine q6 ?_ | refine q7 ?_ _)); exact BK385.out) hb); have n6_ := qg (q9 (by repeat (first | (with_reducible first | exact HB.out | apply q1 | apply q2 | apply q3 | refine q4 ?_ GE348.out | refine q4 ?_ GE356.out | refine q4 ?_ GE357.out | refine q4 ?_ GE371.out | refine q4 ?_ GE378.out | refine q4 ?_ GE385.out) | exact HB.out)) hb); clear BK348; clear BK356; clear BK357; clear BK371; clear BK378; clear BK385; clear HB; have BK348 := n0_; have BK356 := n1_; have BK357 := n2_; have BK371 := n3_; have BK378 := n4_; have BK385 := n5_; have HB := n6_; clear n0_ n1_ n2_ n3_ n4_ n5_ n6_; (try clear hb); (try clear hb2); (try clear hk); (try clear hi)) | ((with_reducible refine qu (N := 13) rfl ?_); refine qh ?hg (N := 13) ?hd (cs := #[.int .i64 0, .int .i64 0]) (t := 26) ?hr ?_; (case hd => rfl); (case hg => rfl); (case hr => first | (go_simp; done) | (go_simp; rfl)); intro gb389 hg w279 hbox hb; have n0_ := qg (q8 (g := gb348) (o := .cells #[.int .i64 t342, .int .i64 t343, .int .i64 t344, .int .i64 t345, .int .i64 t346] 28 (0, 0)) (by (with_reducible repeat (first | refine q5 ?_ _ | refine q6 ?_ | refine q7 ?_ _)); exact BK348.out) hb); have n1_ := qg (q8 (g := gb356) (o := .cells #[.int .i64 t349, .int .i64 t350, .int .i64 t351, .int .i64 t352, .int .i64 t353] 28 (0, 0)) (by (with_reducible repeat (first | refine q5 ?_ _ | refine q6 ?_ | refine q7 ?_ _)); exact BK356.out) hb); have n2_ := qg (q8 (g := gb357) (o := .cells #[.int .i64 t354, .int .i64 t355] 26 (0, 0)) (by (with_reducible repeat (first | refine q5 ?_ _ | refine q6 ?_ | refine q7 ?_ _)); exact BK357.out) hb); have n3_ := qg (q8 (g := gb371) (o := .cells #[.int .i64 t366, .int .i64 t367, .int .i64 t368, .int .i64 t369, .int .i64 t370] 28 (0, 0)) (by (with_reducible repeat (first | refine q5 ?_ _ | refine q6 ?_ | refine q7 ?_ _)); exact BK371.out) hb); have n4_ := qg (q8 (g := gb378) (o := .cells #[.int .i64 t372, .int .i64 t373, .int .i64 t374, .int .i64 t375, .int .i64 t376] 28 (0, 0)) (by (with_reducible repeat (first | refine q5 ?_ _ | refine q6 ?_ | refine q7 ?_ _)); exact BK378.out) hb); have n5_ := qg (q8 (g := gb385) (o := .cells #[.int .i64 t382, .int .i64 t383] 26 (0, 0)) (by (with_reducible repeat (first | refine q5 ?_ _ | refine q6 ?_ | refine q7 ?_ _)); exact BK385.out) hb); have n6_ := qg (q9 (by repeat (first | (with_reducible first | exact HB.out | apply q1 | apply q2 | apply q3 | refine q4 ?_ GE348.out | refine q4 ?_ GE356.out | refine q4 ?_ GE357.out | refine q4 ?_ GE371.out | refine q4 ?_ GE378.out | refine q4 ?_ GE385.out) | exact HB.out)) hb); have n7_ := qg (hbox); have n8_ := qg ((by rw [hg]; exact (qa (by repeat (first | (with_reducible first | exact HB.out | apply q1 | apply q2 | apply q3 | refine q4 ?_ GE348.out | refine q4 ?_ GE356.out | refine q4 ?_ GE357.out | refine q4 ?_ GE371.out | refine q4 ?_ GE378.out | refine q4 ?_ GE385.out) | exact HB.out))) : w.heap.size ≤ gb389)); have n9_ := qg ((by rw [hg]; exact (qa (by repeat (first | (with_reducible first | exact HB.out | apply q1 | apply q2 | apply q3 | refine q4 ?_ GE348.out | refine q4 ?_ GE356.out | refine q4 ?_ GE357.out | refine q4 ?_ GE371.out | refine q4 ?_ GE378.out | refine q4 ?_ GE385.out) | exact HB.out))) : w.heap.size ≤ gb389)); have n10_ := qg ((by rw [hg]; exact qv (qd (g := gb348) (o := .cells #[.int .i64 t342, .int .i64 t343, .int .i64 t344, .int .i64 t345, .int .i64 t346] 28 (0, 0)) (by (with_reducible repeat (first | refine q5 ?_ _ | refine q6 ?_ | refine q7 ?_ _)); exact BK348.out)) : gb348 ≠ gb389)); have n11_ := qg ((by rw [hg]; exact qw (qd (g := gb348) (o := .cells #[.int .i64 t342, .int .i64 t343, .int .i64 t344, .int .i64 t345, .int .i64 t346] 28 (0, 0)) (by (with_reducible repeat (first | refine q5 ?_ _ | refine q6 ?_ | refine q7 ?_ _)); exact BK348.out)) : gb389 ≠ gb348)); have n12_ := qg ((by rw [hg]; exact qv (qd (g := gb356) (o := .cells #[.int .i64 t349, .int .i64 t350, .int .i64 t351, .int .i64 t352, .int .i64 t353] 28 (0, 0)) (by (with_reducible repeat (first | refine q5 ?_ _ | refine q6 ?_ | refine q7 ?_ _)); exact BK356.out)) : gb356 ≠ gb389)); have n13_ := qg ((by rw [hg]; exact qw (qd (g := gb356) (o := .cells #[.int .i64 t349, .int .i64 t350, .int .i64 t351, .int .i64 t352, .int .i64 t353] 28 (0, 0)) (by (with_reducible repeat (first | refine q5 ?_ _ | refine q6 ?_ | refine q7 ?_ _)); exact BK356.out)) : gb389 ≠ gb356)); have n14_ := qg ((by rw [hg]; exact qv (qd (g := gb357) (o := .cells #[.int .i64 t354, .int .i64 t355] 26 (0, 0)) (by (with_reducible repeat (first | refine q5 ?_ _ | refine q6 ?_ | refine q7 ?_ _)); exact BK357.out)) : gb357 ≠ gb389)); have n15_ := qg ((by rw [hg]; exact qw (qd (g := gb357) (o := .cells #[.int .i64 t354, .int .i64 t355] 26 (0, 0)) (by (with_reducible repeat (first | refine q5 ?_ _ | refine q6 ?_ | refine q7 ?_ _)); exact BK357.out)) : gb389 ≠ gb357)); have n16_ := qg ((by rw [hg]; exact qv (qd (g := gb371) (o := .cells #[.int .i64 t366, .int .i64 t367, .int .i64 t368, .int .i64 t369, .int .i64 t370] 28 (0, 0)) (by (with_reducible repeat (first | refine q5 ?_ _ | refine q6 ?_ | refine q7 ?_ _)); exact BK371.out)) : gb371 ≠ gb389)); have n17_ := qg ((by rw [hg]; exact qw (qd (g := gb371) (o := .cells #[.int .i64 t366, .int .i64 t367, .int .i64 t368, .int .i64 t369, .int .i64 t370] 28 (0, 0)) (by (with_reducible repeat (first | refine q5 ?_ _ | refine q6 ?_ | refine q7 ?_ _)); exact BK371.out)) : gb389 ≠ gb371)); have n18_ := qg ((by rw [hg]; exact qv (qd (g := gb378) (o := .cells #[.int .i64 t372, .int .i64 t373, .int .i64 t374, .int .i64 t375, .int .i64 t376] 28 (0, 0)) (by (with_reducible repeat (first | refine q5 ?_ _ | refine q6 ?_ | refine q7 ?_ _)); exact BK378.out)) : gb378 ≠ gb389)); have n19_ := qg ((by rw [hg]; exact qw (qd (g := gb378) (o := .cells #[.int .i64 t372, .int .i64 t373, .int .i64 t374, .int .i64 t375, .int .i64 t376] 28 (0, 0)) (by (with_reducible repeat (first | refine q5 ?_ _ | refine q6 ?_ | refine q7 ?_ _)); exact BK378.out)) : gb389 ≠ gb378)); have n20_ := qg ((by rw [hg]; exact qv (qd (g := gb385) (o := .cells #[.int .i64 t382, .int .i64 t383] 26 (0, 0)) (by (with_reducible repeat (first | refine q5 ?_ _ | refine q6 ?_ | refine q7 ?_ _)); exact BK385.out)) : gb385 ≠ gb389)); have n21_ := qg ((by rw [hg]; exact qw (qd (g := gb385) (o := .cells #[.int .i64 t382, .int .i64 t383] 26 (0, 0)) (by (with_reducible repeat (first | refine q5 ?_ _ | refine q6 ?_ | refine q7 ?_ _)); exact BK385.out)) : gb389 ≠ gb385)); clear BK348; clear BK356; clear BK357; clear BK371; clear BK378; clear BK385; clear HB; have BK348 := n0_; have BK356 := n1_; have BK357 := n2_; have BK371 := n3_; have BK378 := n4_; have BK385 := n5_; have HB := n6_; have BK389 := n7_; have GW389 := n8_; have GE389 := n9_; have NB348_389 := n10_; have NB389_348 := n11_; have NB356_389 := n12_; have NB389_356 := n13_; have NB357_389 := n14_; have NB389_357 := n15_; have NB371_389 := n16_; have NB389_371 := n17_; have NB378_389 := n18_; have NB389_378 := n19_; have NB385_389 := n20_; have NB389_385 := n21_; clear n0_ n1_ n2_ n3_ n4_ n5_ n6_ n7_ n8_ n9_ n10_ n11_ n12_ n13_ n14_ n15_ n16_ n17_ n18_ n19_ n20_ n21_; clear hb hbox hg; have hnb280 := NB389_348.out; have hnc280 := NB348_389.out; have hnb281 := NB389_356.out; have hnc281 := NB356_389.out; have hnb282 := NB389_357.out; have hnc282 := NB357_389.out; have hnb283 := NB389_371.out; have hnc283 := NB371_389.out; have hnb284 := NB389_378.out; have hnc284 := NB378_389.out; have hnb285 := NB389_385.out; have hnc285 := NB385_389.out; have hcz286_0 : w279.cell? ⟨gb389, 0, none⟩ = some (.int .i64 0) := (qc BK389.out 0).trans rfl; have hcz286_1 : w279.cell? ⟨gb389, 1, none⟩ = some (.int .i64 0) := (qc BK389.out 1).trans rfl; have hfz286_0 := qb BK389.out 0; have hfz286_1 := qb BK389.out 1; have hnb287 := NB378_356.out; have hnc287 := NB356_378.out; have hnb288 := NB378_357.out; have hnc288 := NB357_378.out; have hcz289_0 : w279.cell? ⟨gb378, 0, none⟩ = some (.int .i64 t372) := (qc BK378.out 0).trans rfl; have hcz289_1 : w279.cell? ⟨gb378, 1, none⟩ = some (.int .i64 t373) := (qc BK378.out 1).trans rfl; have hcz289_2 : w279.cell? ⟨gb378, 2, none⟩ = some (.int .i64 t374) := (qc BK378.out 2).trans rfl; have hcz289_3 : w279.cell? ⟨gb378, 3, none⟩ = some (.int .i64 t375) := (qc BK378.out 3).trans rfl; have hcz289_4 : w279.cell? ⟨gb378, 4, none⟩ = some (.int .i64 t376) := (qc BK378.out 4).trans rfl; have hfz289_0 := qb BK378.out 0; have hfz289_1 := qb BK378.out 1; have hfz289_2 := qb BK378.out 2; have hfz289_3 := qb BK378.out 3; have hfz289_4 := qb BK378.out 4) | ((with_reducible refine qt (f := 26) rfl ?_); refine goesL_ (some 72) rfl rfl Try.func26 (by kernel_rfl) rfl #[.agg #[.int .i64 t372, .int .i64 t373, .int .i64 t374, .int .i64 t375, .int .i64 t376], .int .i64 x10_1] rfl (by (try simp only [List.map_toArray, List.map_cons, List.map_nil]); first | done | rfl | (simp only [List.length_drop, List.length_take]; rfl)) ?_; (with_reducible refine (impl_PlaceAt.calls k1 t372 t373 t374 t375 t376 x10_1 t390 t391 t392 _ A65.out).mono ?_); rintro e w290 ⟨rfl, hb⟩; refine ⟨_, rfl, ?_⟩; have n0_ := qg (q8 (g := gb348) (o := .cells #[.int .i64 t342, .int .i64 t343, .int .i64 t344, .int .i64 t345, .int .i64 t346] 28 (0, 0)) (by (with_reducible repeat (first | refine q5 ?_ _ | refine q6 ?_ | refine q7 ?_ _)); refine qe ?_ NB348_389.out _; (with_reducible repeat (first | refine q5 ?_ _ | refine q6 ?_ | refine q7 ?_ _)); refine qe ?_ NB348_389.out _; (with_reducible repeat (first | refine q5 ?_ _ | refine q6 ?_ | refine q7 ?_ _)); exact BK348.out) hb); have n1_ := qg (q8 (g := gb356) (o := .cells #[.int .i64 t349, .int .i64 t350, .int .i64 t351, .int .i64 t352, .int .i64 t353] 28 (0, 0)) (by (with_reducible repeat (first | refine q5 ?_ _ | refine q6 ?_ | refine q7 ?_ _)); refine qe ?_ NB356_389.out _; (with_reducible repeat (first | refine q5 ?_ _ | refine q6 ?_ | refine q7 ?_ _)); refine qe ?_ NB356_389.out _; (with_reducible repeat (first | refine q5 ?_ _ | refine q6 ?_ | refine q7 ?_ _)); exact BK356.out) hb); have n2_ := qg (q8 (g := gb357) (o := .cells #[.int .i64 t354, .int .i64 t355] 26 (0, 0)) (by (with_reducible repeat (first | refine q5 ?_ _ | refine q6 ?_ | refine q7 ?_ _)); refine qe ?_ NB357_389.out _; (with_reducible repeat (first | refine q5 ?_ _ | refine q6 ?_ | refine q7 ?_ _)); refine qe ?_ NB357_389.out _; (with_reducible repeat (first | refine q5 ?_ _ | refine q6 ?_ | refine q7 ?_ _)); exact BK357.out) hb); have n3_ := qg (q8 (g := gb371) (o := .cells #[.int .i64 t366, .int .i64 t367, .int .i64 t368, .int .i64 t369, .int .i64 t370] 28 (0, 0)) (by (with_reducible repeat (first | refine q5 ?_ _ | refine q6 ?_ | refine q7 ?_ _)); refine qe ?_ NB371_389.out _; (with_reducible repeat (first | refine q5 ?_ _ | refine q6 ?_ | refine q7 ?_ _)); refine qe ?_ NB371_389.out _; (with_reducible repeat (first | refine q5 ?_ _ | refine q6 ?_ | refine q7 ?_ _)); exact BK371.out) hb); have n4_ := qg (q8 (g := gb378) (o := .cells #[.int .i64 t372, .int .i64 t373, .int .i64 t374, .int .i64 t375, .int .i64 t376] 28 (0, 0)) (by (with_reducible repeat (first | refine q5 ?_ _ | refine q6 ?_ | refine q7 ?_ _)); refine qe ?_ NB378_389.out _; (with_reducible repeat (first | refine q5 ?_ _ | refine q6 ?_ | refine q7 ?_ _)); refine qe ?_ NB378_389.out _; (with_reducible repeat (first | refine q5 ?_ _ | refine q6 ?_ | refine q7 ?_ _)); exact BK378.out) hb); have n5_ := qg (q8 (g := gb385) (o := .cells #[.int .i64 t382, .int .i64 t383] 26 (0, 0)) (by (with_reducible repeat (first | refine q5 ?_ _ | refine q6 ?_ | refine q7 ?_ _)); refine qe ?_ NB385_389.out _; (with_reducible repeat (first | refine q5 ?_ _ | refine q6 ?_ | refine q7 ?_ _)); refine qe ?_ NB385_389.out _; (with_reducible repeat (first | refine q5 ?_ _ | refine q6 ?_ | refine q7 ?_ _)); exact BK385.out) hb); have n6_ := qg (q8 (g := gb389) (o := .cells #[.int .i64 t386, .int .i64 t387] 26 (0, 0)) (by (with_reducible repeat (first | refine q5 ?_ _ | refine q6 ?_ | refine q7 ?_ _)); refine qf (cs := #[.int .i64 t386, .int .i64 0]) ?_ 1 _ rfl; (with_reducible repeat (first | refine q5 ?_ _ | refine q6 ?_ | refine q7 ?_ _)); refine qf (cs := #[.int .i64 0, .int .i64 0]) ?_ 0 _ rfl; (with_reducible repeat (first | refine q5 ?_ _ | refine q6 ?_ | refine q7 ?_ _)); exact BK389.out) hb); have n7_ := qg (q9 (by repeat (first | (with_reducible first | exact HB.out | apply q1 | apply q2 | apply q3 | refine q4 ?_ GE348.out | refine q4 ?_ GE356.out | refine q4 ?_ GE357.out | refine q4 ?_ GE371.out | refine q4 ?_ GE378.out | refine q4 ?_ GE385.out | refine q4 ?_ GE389.out) | exact HB.out)) hb); clear BK348; clear BK356; clear BK357; clear BK371; clear BK378; clear BK385; clear BK389; clear HB; have BK348 := n0_; have BK356 := n1_; have BK357 := n2_; have BK371 := n3_; have BK378 := n4_; have BK385 := n5_; have BK389 := n6_; have HB := n7_; clear n0_ n1_ n2_ n3_ n4_ n5_ n6_ n7_; (try clear hb); (try clear hb2); (try clear hk); (try clear hi)) | ((with_reducible refine qu (N := 15) rfl ?_); refine qh ?hg (N := 15) ?hd (cs := #[.int .i64 0, .int .i64 0]) (t := 26) ?hr ?_; (case hd => rfl); (case hg => rfl); (case hr => first | (go_simp; done) | (go_simp; rfl)); intro gb393 hg w291 hbox hb; have n0_ := qg (q8 (g := gb348) (o := .cells #[.int .i64 t342, .int .i64 t343, .int .i64 t344, .int .i64 t345, .int .i64 t346] 28 (0, 0)) (by (with_reducible repeat (first | refine q5 ?_ _ | refine q6 ?_ | refine q7 ?_ _)); exact BK348.out) hb); have n1_ := qg (q8 (g := gb356) (o := .cells #[.int .i64 t349, .int .i64 t350, .int .i64 t351, .int .i64 t352, .int .i64 t353] 28 (0, 0)) (by (with_reducible repeat (first | refine q5 ?_ _ | refine q6 ?_ | refine q7 ?_ _)); exact BK356.out) hb); have n2_ := qg (q8 (g := gb357) (o := .cells #[.int .i64 t354, .int .i64 t355] 26 (0, 0)) (by (with_reducible repeat (first | refine q5 ?_ _ | refine q6 ?_ | refine q7 ?_ _)); exact BK357.out) hb); have n3_ := qg (q8 (g := gb371) (o := .cells #[.int .i64 t366, .int .i64 t367, .int .i64 t368, .int .i64 t369, .int .i64 t370] 28 (0, 0)) (by (with_reducible repeat (first | refine q5 ?_ _ | refine q6 ?_ | refine q7 ?_ _)); exact BK371.out) hb); have n4_ := qg (q8 (g := gb378) (o := .cells #[.int .i64 t372, .int .i64 t373, .int .i64 t374, .int .i64 t375, .int .i64 t376] 28 (0, 0)) (by (with_reducible repeat (first | refine q5 ?_ _ | refine q6 ?_ | refine q7 ?_ _)); exact BK378.out) hb); have n5_ := qg (q8 (g := gb385) (o := .cells #[.int .i64 t382, .int .i64 t383] 26 (0, 0)) (by (with_reducible repeat (first | refine q5 ?_ _ | refine q6 ?_ | refine q7 ?_ _)); exact BK385.out) hb); have n6_ := qg (q8 (g := gb389) (o := .cells #[.int .i64 t386, .int .i64 t387] 26 (0, 0)) (by (with_reducible repeat (first | refine q5 ?_ _ | refine q6 ?_ | refine q7 ?_ _)); exact BK389.out) hb); have n7_ := qg (q9 (by repeat (first | (with_reducible first | exact HB.out | apply q1 | apply q2 | apply q3 | refine q4 ?_ GE348.out | refine q4 ?_ GE356.out | refine q4 ?_ GE357.out | refine q4 ?_ GE371.out | refine q4 ?_ GE378.out | refine q4 ?_ GE385.out | refine q4 ?_ GE389.out) | exact HB.out)) hb); have n8_ := qg (hbox); have n9_ := qg ((by rw [hg]; exact (qa (by repeat (first | (with_reducible first | exact HB.out | apply q1 | apply q2 | apply q3 | refine q4 ?_ GE348.out | refine q4 ?_ GE356.out | refine q4 ?_ GE357.out | refine q4 ?_ GE371.out | refine q4 ?_ GE378.out | refine q4 ?_ GE385.out | refine q4 ?_ GE389.out) | exact HB.out))) : w.heap.size ≤ gb393)); have n10_ := qg ((by rw [hg]; exact (qa (by repeat (first | (with_reducible first | exact HB.out | apply q1 | apply q2 | apply q3 | refine q4 ?_ GE348.out | refine q4 ?_ GE356.out | refine q4 ?_ GE357.out | refine q4 ?_ GE371.out | refine q4 ?_ GE378.out | refine q4 ?_ GE385.out | refine q4 ?_ GE389.out) | exact HB.out))) : w.heap.size ≤ gb393)); have n11_ := qg ((by rw [hg]; exact qv (qd (g := gb348) (o := .cells #[.int .i64 t342, .int .i64 t343, .int .i64 t344, .int .i64 t345, .int .i64 t346] 28 (0, 0)) (by (with_reducible repeat (first | refine q5 ?_ _ | refine q6 ?_ | refine q7 ?_ _)); exact BK348.out)) : gb348 ≠ gb393)); have n12_ := qg ((by rw [hg]; exact qw (qd (g := gb348) (o := .cells #[.int .i64 t342, .int .i64 t343, .int .i64 t344, .int .i64 t345, .int .i64 t346] 28 (0, 0)) (by (with_reducible repeat (first | refine q5 ?_ _ | refine q6 ?_ | refine q7 ?_ _)); exact BK348.out)) : gb393 ≠ gb348)); have n13_ := qg ((by rw [hg]; exact qv (qd (g := gb356) (o := .cells #[.int .i64 t349, .int .i64 t350, .int .i64 t351, .int .i64 t352, .int .i64 t353] 28 (0, 0)) (by (with_reducible repeat (first | refine q5 ?_ _ | refine q6 ?_ | refine q7 ?_ _)); exact BK356.out)) : gb356 ≠ gb393)); have n14_ := qg ((by rw [hg]; exact qw (qd (g := gb356) (o := .cells #[.int .i64 t349, .int .i64 t350, .int .i64 t351, .int .i64 t352, .int .i64 t353] 28 (0, 0)) (by (with_reducible repeat (first | refine q5 ?_ _ | refine q6 ?_ | refine q7 ?_ _)); exact BK356.out)) : gb393 ≠ gb356)); have n15_ := qg ((by rw [hg]; exact qv (qd (g := gb357) (o := .cells #[.int .i64 t354, .int .i64 t355] 26 (0, 0)) (by (with_reducible repeat (first | refine q5 ?_ _ | refine q6 ?_ | refine q7 ?_ _)); exact BK357.out)) : gb357 ≠ gb393)); have n16_ := qg ((by rw [hg]; exact qw (qd (g := gb357) (o := .cells #[.int .i64 t354, .int .i64 t355] 26 (0, 0)) (by (with_reducible repeat (first | refine q5 ?_ _ | refine q6 ?_ | refine q7 ?_ _)); exact BK357.out)) : gb393 ≠ gb357)); have n17_ := qg ((by rw [hg]; exact qv (qd (g := gb371) (o := .cells #[.int .i64 t366, .int .i64 t367, .int .i64 t368, .int .i64 t369, .int .i64 t370] 28 (0, 0)) (by (with_reducible repeat (first | refine q5 ?_ _ | refine q6 ?_ | refine q7 ?_ _)); exact BK371.out)) : gb371 ≠ gb393)); have n18_ := qg ((by rw [hg]; exact qw (qd (g := gb371) (o := .cells #[.int .i64 t366, .int .i64 t367, .int .i64 t368, .int .i64 t369, .int .i64 t370] 28 (0, 0)) (by (with_reducible repeat (first | refine q5 ?_ _ | refine q6 ?_ | refine q7 ?_ _)); exact BK371.out)) : gb393 ≠ gb371)); have n19_ := qg ((by rw [hg]; exact qv (qd (g := gb378) (o := .cells #[.int .i64 t372, .int .i64 t373, .int .i64 t374, .int .i64 t375, .int .i64 t376] 28 (0, 0)) (by (with_reducible repeat (first | refine q5 ?_ _ | refine q6 ?_ | refine q7 ?_ _)); exact BK378.out)) : gb378 ≠ gb393)); have n20_ := qg ((by rw [hg]; exact qw (qd (g := gb378) (o := .cells #[.int .i64 t372, .int .i64 t373, .int .i64 t374, .int .i64 t375, .int .i64 t376] 28 (0, 0)) (by (with_reducible repeat (first | refine q5 ?_ _ | refine q6 ?_ | refine q7 ?_ _)); exact BK378.out)) : gb393 ≠ gb378)); have n21_ := qg ((by rw [hg]; exact qv (qd (g := gb385) (o := .cells #[.int .i64 t382, .int .i64 t383] 26 (0, 0)) (by (with_reducible repeat (first | refine q5 ?_ _ | refine q6 ?_ | refine q7 ?_ _)); exact BK385.out)) : gb385 ≠ gb393)); have n22_ := qg ((by rw [hg]; exact qw (qd (g := gb385) (o := .cells #[.int .i64 t382, .int .i64 t383] 26 (0, 0)) (by (with_reducible repeat (first | refine q5 ?_ _ | refine q6 ?_ | refine q7 ?_ _)); exact BK385.out)) : gb393 ≠ gb385)); have n23_ := qg ((by rw [hg]; exact qv (qd (g := gb389) (o := .cells #[.int .i64 t386, .int .i64 t387] 26 (0, 0)) (by (with_reducible repeat (first | refine q5 ?_ _ | refine q6 ?_ | refine q7 ?_ _)); exact BK389.out)) : gb389 ≠ gb393)); have n24_ := qg ((by rw [hg]; exact qw (qd (g := gb389) (o := .cells #[.int .i64 t386, .int .i64 t387] 26 (0, 0)) (by (with_reducible repeat (first | refine q5 ?_ _ | refine q6 ?_ | refine q7 ?_ _)); exact BK389.out)) : gb393 ≠ gb389)); clear BK348; clear BK356; clear BK357; clear BK371; clear BK378; clear BK385; clear BK389; clear HB; have BK348 := n0_; have BK356 := n1_; have BK357 := n2_; have BK371 := n3_; have BK378 := n4_; have BK385 := n5_; have BK389 := n6_; have HB := n7_; have BK393 := n8_; have GW393 := n9_; have GE393 := n10_; have NB348_393 := n11_; have NB393_348 := n12_; have NB356_393 := n13_; have NB393_356 := n14_; have NB357_393 := n15_; have NB393_357 := n16_; have NB371_393 := n17_; have NB393_371 := n18_; have NB378_393 := n19_; have NB393_378 := n20_; have NB385_393 := n21_; have NB393_385 := n22_; have NB389_393 := n23_; have NB393_389 := n24_; clear n0_ n1_ n2_ n3_ n4_ n5_ n6_ n7_ n8_ n9_ n10_ n11_ n12_ n13_ n14_ n15_ n16_ n17_ n18_ n19_ n20_ n21_ n22_ n23_ n24_; clear hb hbox hg; have hnb292 := NB393_348.out; have hnc292 := NB348_393.out; have hnb293 := NB393_356.out; have hnc293 := NB356_393.out; have hnb294 := NB393_357.out; have hnc294 := NB357_393.out; have hnb295 := NB393_371.out; have hnc295 := NB371_393.out; have hnb296 := NB393_378.out; have hnc296 := NB378_393.out; have hnb297 := NB393_385.out; have hnc297 := NB385_393.out; have hnb298 := NB393_389.out; have hnc298 := NB389_393.out; have hcz299_0 : w291.cell? ⟨gb393, 0, none⟩ = some (.int .i64 0) := (qc BK393.out 0).trans rfl; have hcz299_1 : w291.cell? ⟨gb393, 1, none⟩ = some (.int .i64 0) := (qc BK393.out 1).trans rfl; have hfz299_0 := qb BK393.out 0; have hfz299_1 := qb BK393.out 1))
          have n0_ : Aside0 (((w291.setCell ⟨gb393, 0, none⟩ (.int .i64 t390)).setCell ⟨gb393, 1, none⟩ (.int .i64 t391)).heap[gb348]? = some (.cells #[.int .i64 t342, .int .i64 t343, .int .i64 t344, .int .i64 t345, .int .i64 t346] 28 (0, 0))) := ⟨by (with_reducible repeat (first | refine q5 ?_ _ | refine q6 ?_ | refine q7 ?_ _)); refine qe ?_ NB348_393.out _; (with_reducible repeat (first | refine q5 ?_ _ | refine q6 ?_ | refine q7 ?_ _)); refine qe ?_ NB348_393.out _; (with_reducible repeat (first | refine q5 ?_ _ | refine q6 ?_ | refine q7 ?_ _)); exact BK348.out⟩
          have n1_ : Aside0 (((w291.setCell ⟨gb393, 0, none⟩ (.int .i64 t390)).setCell ⟨gb393, 1, none⟩ (.int .i64 t391)).heap[gb356]? = some (.cells #[.int .i64 t349, .int .i64 t350, .int .i64 t351, .int .i64 t352, .int .i64 t353] 28 (0, 0))) := ⟨by (with_reducible repeat (first | refine q5 ?_ _ | refine q6 ?_ | refine q7 ?_ _)); refine qe ?_ NB356_393.out _; (with_reducible repeat (first | refine q5 ?_ _ | refine q6 ?_ | refine q7 ?_ _)); refine qe ?_ NB356_393.out _; (with_reducible repeat (first | refine q5 ?_ _ | refine q6 ?_ | refine q7 ?_ _)); exact BK356.out⟩
          have n2_ : Aside0 (((w291.setCell ⟨gb393, 0, none⟩ (.int .i64 t390)).setCell ⟨gb393, 1, none⟩ (.int .i64 t391)).heap[gb357]? = some (.cells #[.int .i64 t354, .int .i64 t355] 26 (0, 0))) := ⟨by (with_reducible repeat (first | refine q5 ?_ _ | refine q6 ?_ | refine q7 ?_ _)); refine qe ?_ NB357_393.out _; (with_reducible repeat (first | refine q5 ?_ _ | refine q6 ?_ | refine q7 ?_ _)); refine qe ?_ NB357_393.out _; (with_reducible repeat (first | refine q5 ?_ _ | refine q6 ?_ | refine q7 ?_ _)); exact BK357.out⟩
          have n3_ : Aside0 (((w291.setCell ⟨gb393, 0, none⟩ (.int .i64 t390)).setCell ⟨gb393, 1, none⟩ (.int .i64 t391)).heap[gb371]? = some (.cells #[.int .i64 t366, .int .i64 t367, .int .i64 t368, .int .i64 t369, .int .i64 t370] 28 (0, 0))) := ⟨by (with_reducible repeat (first | refine q5 ?_ _ | refine q6 ?_ | refine q7 ?_ _)); refine qe ?_ NB371_393.out _; (with_reducible repeat (first | refine q5 ?_ _ | refine q6 ?_ | refine q7 ?_ _)); refine qe ?_ NB371_393.out _; (with_reducible repeat (first | refine q5 ?_ _ | refine q6 ?_ | refine q7 ?_ _)); exact BK371.out⟩
          have n4_ : Aside0 (((w291.setCell ⟨gb393, 0, none⟩ (.int .i64 t390)).setCell ⟨gb393, 1, none⟩ (.int .i64 t391)).heap[gb378]? = some (.cells #[.int .i64 t372, .int .i64 t373, .int .i64 t374, .int .i64 t375, .int .i64 t376] 28 (0, 0))) := ⟨by (with_reducible repeat (first | refine q5 ?_ _ | refine q6 ?_ | refine q7 ?_ _)); refine qe ?_ NB378_393.out _; (with_reducible repeat (first | refine q5 ?_ _ | refine q6 ?_ | refine q7 ?_ _)); refine qe ?_ NB378_393.out _; (with_reducible repeat (first | refine q5 ?_ _ | refine q6 ?_ | refine q7 ?_ _)); exact BK378.out⟩
          have n5_ : Aside0 (((w291.setCell ⟨gb393, 0, none⟩ (.int .i64 t390)).setCell ⟨gb393, 1, none⟩ (.int .i64 t391)).heap[gb385]? = some (.cells #[.int .i64 t382, .int .i64 t383] 26 (0, 0))) := ⟨by (with_reducible repeat (first | refine q5 ?_ _ | refine q6 ?_ | refine q7 ?_ _)); refine qe ?_ NB385_393.out _; (with_reducible repeat (first | refine q5 ?_ _ | refine q6 ?_ | refine q7 ?_ _)); refine qe ?_ NB385_393.out _; (with_reducible repeat (first | refine q5 ?_ _ | refine q6 ?_ | refine q7 ?_ _)); exact BK385.out⟩
          have n6_ : Aside0 (((w291.setCell ⟨gb393, 0, none⟩ (.int .i64 t390)).setCell ⟨gb393, 1, none⟩ (.int .i64 t391)).heap[gb389]? = some (.cells #[.int .i64 t386, .int .i64 t387] 26 (0, 0))) := ⟨by (with_reducible repeat (first | refine q5 ?_ _ | refine q6 ?_ | refine q7 ?_ _)); refine qe ?_ NB389_393.out _; (with_reducible repeat (first | refine q5 ?_ _ | refine q6 ?_ | refine q7 ?_ _)); refine qe ?_ NB389_393.out _; (with_reducible repeat (first | refine q5 ?_ _ | refine q6 ?_ | refine q7 ?_ _)); exact BK389.out⟩
          have n7_ : Aside0 (((w291.setCell ⟨gb393, 0, none⟩ (.int .i64 t390)).setCell ⟨gb393, 1, none⟩ (.int .i64 t391)).heap[gb393]? = some (.cells #[.int .i64 t390, .int .i64 t391] 26 (0, 0))) := ⟨by (with_reducible repeat (first | refine q5 ?_ _ | refine q6 ?_ | refine q7 ?_ _)); refine qf (cs := #[.int .i64 t390, .int .i64 0]) ?_ 1 _ rfl; (with_reducible repeat (first | refine q5 ?_ _ | refine q6 ?_ | refine q7 ?_ _)); refine qf (cs := #[.int .i64 0, .int .i64 0]) ?_ 0 _ rfl; (with_reducible repeat (first | refine q5 ?_ _ | refine q6 ?_ | refine q7 ?_ _)); exact BK393.out⟩
          have n8_ : Aside0 (Below w.heap.size w ((w291.setCell ⟨gb393, 0, none⟩ (.int .i64 t390)).setCell ⟨gb393, 1, none⟩ (.int .i64 t391))) := ⟨by repeat (first | (with_reducible first | exact HB.out | apply q1 | apply q2 | apply q3 | refine q4 ?_ GE348.out | refine q4 ?_ GE356.out | refine q4 ?_ GE357.out | refine q4 ?_ GE371.out | refine q4 ?_ GE378.out | refine q4 ?_ GE385.out | refine q4 ?_ GE389.out | refine q4 ?_ GE393.out) | exact HB.out)⟩
          (try clear BK348)
          (try clear BK356)
          (try clear BK357)
          (try clear BK371)
          (try clear BK378)
          (try clear BK385)
          (try clear BK389)
          (try clear BK393)
          (try clear HB)
          generalize ((w291.setCell ⟨gb393, 0, none⟩ (.int .i64 t390)).setCell ⟨gb393, 1, none⟩ (.int .i64 t391)) = w300 at n0_ n1_ n2_ n3_ n4_ n5_ n6_ n7_ n8_ ⊢
          have BK348 := n0_
          have BK356 := n1_
          have BK357 := n2_
          have BK371 := n3_
          have BK378 := n4_
          have BK385 := n5_
          have BK389 := n6_
          have BK393 := n7_
          have HB := n8_
          clear n0_ n1_ n2_ n3_ n4_ n5_ n6_ n7_ n8_
          have n0_ := qg (q6 BK348.out)
          have n1_ := qg (q6 BK356.out)
          have n2_ := qg (q6 BK357.out)
          have n3_ := qg (q6 BK371.out)
          have n4_ := qg (q6 BK378.out)
          have n5_ := qg (q6 BK385.out)
          have n6_ := qg (q6 BK389.out)
          have n7_ := qg (q6 BK393.out)
          have n8_ := qg (q3 HB.out)
          clear BK348
          clear BK356
          clear BK357
          clear BK371
          clear BK378
          clear BK385
          clear BK389
          clear BK393
          clear HB
          have BK348 := n0_
          have BK356 := n1_
          have BK357 := n2_
          have BK371 := n3_
          have BK378 := n4_
          have BK385 := n5_
          have BK389 := n6_
          have BK393 := n7_
          have HB := n8_
          clear n0_ n1_ n2_ n3_ n4_ n5_ n6_ n7_ n8_
          refine start_ (n := 28) (S := fun w' => w'.cell? ⟨gb389, 0, none⟩ = some (.int .i64 t386) ∧ w'.cell? ⟨gb389, 1, none⟩ = some (.int .i64 t387) ∧ w'.cell? ⟨gb385, 0, none⟩ = some (.int .i64 t382) ∧ w'.cell? ⟨gb385, 1, none⟩ = some (.int .i64 t383) ∧ w'.cell? ⟨gb348, 0, none⟩ = some (.int .i64 t342) ∧ w'.cell? ⟨gb348, 1, none⟩ = some (.int .i64 t343) ∧ w'.cell? ⟨gb348, 2, none⟩ = some (.int .i64 t344) ∧ w'.cell? ⟨gb348, 3, none⟩ = some (.int .i64 t345) ∧ w'.cell? ⟨gb348, 4, none⟩ = some (.int .i64 t346) ∧ w'.cell? ⟨gb371, 0, none⟩ = some (.int .i64 t366) ∧ w'.cell? ⟨gb371, 1, none⟩ = some (.int .i64 t367) ∧ w'.cell? ⟨gb371, 2, none⟩ = some (.int .i64 t368) ∧ w'.cell? ⟨gb371, 3, none⟩ = some (.int .i64 t369) ∧ w'.cell? ⟨gb371, 4, none⟩ = some (.int .i64 t370)) (ds := []) #[false, false, false, false, false, false, false, false, false, false, false, false, false, false, false, false, false, false, false, false, false, false, false, false, false, false, false, false] (by kernel_rfl) rfl rfl ⟨(qc BK389.out 0).trans rfl, (qc BK389.out 1).trans rfl, (qc BK385.out 0).trans rfl, (qc BK385.out 1).trans rfl, (qc BK348.out 0).trans rfl, (qc BK348.out 1).trans rfl, (qc BK348.out 2).trans rfl, (qc BK348.out 3).trans rfl, (qc BK348.out 4).trans rfl, (qc BK371.out 0).trans rfl, (qc BK371.out 1).trans rfl, (qc BK371.out 2).trans rfl, (qc BK371.out 3).trans rfl, (qc BK371.out 4).trans rfl⟩ (fun hHeld => ?_); refine with_tabW laws_FnMovedJet.tab17 laws_FnMovedJet.bits17 (fun HT_ HW_ => ?_)
          generalize w300.drew = w301 at BK348 BK356 BK357 BK371 BK378 BK385 BK389 BK393 HB hHeld ⊢
          refine pure_ (i := 2) (N := some 77) (v := ?_) (a' := ?_) #[false, false, true, false, false, false, false, false, false, false, false, false, false, false, false, false, false, false, false, false, false, false, false, false, false, false, false, false] rfl rfl (any_of HT_.out (by kernel_rfl)) (fun _ _ _ h => h) (Or.inl ⟨by rfl, ?_⟩) ?_ ?_
          rotate_left
          ·intro w'
           go_simp
           with_reducible rfl
          rotate_left
          ·simp only [Act.put, p1, p2, p3, i64_w, i32_w]
           rfl
          refine take_ (i := 0) (N := some 75) (v := ?_) (a' := ?_) #[true, false, true, false, false, false, false, false, false, false, false, false, false, false, false, false, false, false, false, false, false, false, false, false, false, false, false, false] rfl rfl (take_ofW HT_.out HW_.out (by kernel_rfl)) (fun _ _ _ h => h) (Or.inl ⟨by rfl, ?_⟩) hHeld ?_ ?_
          rotate_left
          ·rintro w' ⟨s0, s1, s2, s3, s4, s5, s6, s7, s8, s9, s10, s11, s12, s13⟩
           go_simp
           with_reducible rfl
          rotate_left
          ·simp only [Act.put, p1, p2, p3, i64_w, i32_w]
           rfl
          refine take_ (i := 1) (N := some 76) (v := ?_) (a' := ?_) #[true, true, true, false, false, false, false, false, false, false, false, false, false, false, false, false, false, false, false, false, false, false, false, false, false, false, false, false] rfl rfl (take_ofW HT_.out HW_.out (by kernel_rfl)) (fun _ _ _ h => h) (Or.inl ⟨by rfl, ?_⟩) hHeld ?_ ?_
          rotate_left
          ·rintro w' ⟨s0, s1, s2, s3, s4, s5, s6, s7, s8, s9, s10, s11, s12, s13⟩
           go_simp
           with_reducible rfl
          rotate_left
          ·simp only [Act.put, p1, p2, p3, i64_w, i32_w]
           rfl
          refine one_ (i := 3) (N := some 78) #[true, true, true, true, false, false, false, false, false, false, false, false, false, false, false, false, false, false, false, false, false, false, false, false, false, false, false, false] rfl rfl (one_of HT_.out (by kernel_rfl)) (by decide) (fun K hK => ?_)
          refine goes_ Try.func60 (by kernel_rfl) rfl #[.agg #[.int .i64 t382, .int .i64 t383], .int .i64 t347] (by rfl) rfl rfl (by (try simp only [List.map_toArray, List.map_cons, List.map_nil]); first | done | rfl | (simp only [List.length_drop, List.length_take]; rfl)) ?_
          with_reducible refine (impl_TurnPlace.calls k1 t382 t383 t347 t394 t395 _ A66.out).mono ?_
          rintro e w302 ⟨rfl, hb⟩
          refine ⟨_, rfl, ?_⟩
          have n0_ := qg (q8 (g := gb348) (o := .cells #[.int .i64 t342, .int .i64 t343, .int .i64 t344, .int .i64 t345, .int .i64 t346] 28 (0, 0)) (by (with_reducible repeat (first | refine q5 ?_ _ | refine q6 ?_ | refine q7 ?_ _)); exact BK348.out) hb)
          have n1_ := qg (q8 (g := gb356) (o := .cells #[.int .i64 t349, .int .i64 t350, .int .i64 t351, .int .i64 t352, .int .i64 t353] 28 (0, 0)) (by (with_reducible repeat (first | refine q5 ?_ _ | refine q6 ?_ | refine q7 ?_ _)); exact BK356.out) hb)
          have n2_ := qg (q8 (g := gb357) (o := .cells #[.int .i64 t354, .int .i64 t355] 26 (0, 0)) (by (with_reducible repeat (first | refine q5 ?_ _ | refine q6 ?_ | refine q7 ?_ _)); exact BK357.out) hb)
          have n3_ := qg (q8 (g := gb371) (o := .cells #[.int .i64 t366, .int .i64 t367, .int .i64 t368, .int .i64 t369, .int .i64 t370] 28 (0, 0)) (by (with_reducible repeat (first | refine q5 ?_ _ | refine q6 ?_ | refine q7 ?_ _)); exact BK371.out) hb)
          have n4_ := qg (q8 (g := gb378) (o := .cells #[.int .i64 t372, .int .i64 t373, .int .i64 t374, .int .i64 t375, .int .i64 t376] 28 (0, 0)) (by (with_reducible repeat (first | refine q5 ?_ _ | refine q6 ?_ | refine q7 ?_ _)); exact BK378.out) hb)
          have n5_ := qg (q8 (g := gb385) (o := .cells #[.int .i64 t382, .int .i64 t383] 26 (0, 0)) (by (with_reducible repeat (first | refine q5 ?_ _ | refine q6 ?_ | refine q7 ?_ _)); exact BK385.out) hb)
          have n6_ := qg (q8 (g := gb389) (o := .cells #[.int .i64 t386, .int .i64 t387] 26 (0, 0)) (by (with_reducible repeat (first | refine q5 ?_ _ | refine q6 ?_ | refine q7 ?_ _)); exact BK389.out) hb)
          have n7_ := qg (q8 (g := gb393) (o := .cells #[.int .i64 t390, .int .i64 t391] 26 (0, 0)) (by (with_reducible repeat (first | refine q5 ?_ _ | refine q6 ?_ | refine q7 ?_ _)); exact BK393.out) hb)
          have n8_ := qg (q9 (by repeat (first | (with_reducible first | exact HB.out | apply q1 | apply q2 | apply q3 | refine q4 ?_ GE348.out | refine q4 ?_ GE356.out | refine q4 ?_ GE357.out | refine q4 ?_ GE371.out | refine q4 ?_ GE378.out | refine q4 ?_ GE385.out | refine q4 ?_ GE389.out | refine q4 ?_ GE393.out) | exact HB.out)) hb)
          clear BK348
          clear BK356
          clear BK357
          clear BK371
          clear BK378
          clear BK385
          clear BK389
          clear BK393
          clear HB
          have BK348 := n0_
          have BK356 := n1_
          have BK357 := n2_
          have BK371 := n3_
          have BK378 := n4_
          have BK385 := n5_
          have BK389 := n6_
          have BK393 := n7_
          have HB := n8_
          clear n0_ n1_ n2_ n3_ n4_ n5_ n6_ n7_ n8_
          (try clear hb)
          (try clear hb2)
          (try clear hk)
          (try clear hi)
          refine hK.out _ _ ⟨(qc BK389.out 0).trans rfl, (qc BK389.out 1).trans rfl, (qc BK385.out 0).trans rfl, (qc BK385.out 1).trans rfl, (qc BK348.out 0).trans rfl, (qc BK348.out 1).trans rfl, (qc BK348.out 2).trans rfl, (qc BK348.out 3).trans rfl, (qc BK348.out 4).trans rfl, (qc BK371.out 0).trans rfl, (qc BK371.out 1).trans rfl, (qc BK371.out 2).trans rfl, (qc BK371.out 3).trans rfl, (qc BK371.out 4).trans rfl⟩ (fun hHeld => ?_)
          clear hK K
          refine norm_ (a' := ?_) ?_ ?_
          rotate_left
          ·show Act.put _ (some 78) _ = _
           simp only [Act.put, p1, p2, p3, i64_w, i32_w]
           rfl
          refine pure_ (i := 4) (N := some 79) (v := ?_) (a' := ?_) #[true, true, true, true, true, false, false, false, false, false, false, false, false, false, false, false, false, false, false, false, false, false, false, false, false, false, false, false] rfl rfl (any_of HT_.out (by kernel_rfl)) (fun _ _ _ h => h) (Or.inl ⟨by rfl, ?_⟩) ?_ ?_
          rotate_left
          ·intro w'
           go_simp
           with_reducible rfl
          rotate_left
          ·simp only [Act.put, p1, p2, p3, i64_w, i32_w]
           rfl
          refine pure_ (i := 5) (N := some 80) (v := ?_) (a' := ?_) #[true, true, true, true, true, true, false, false, false, false, false, false, false, false, false, false, false, false, false, false, false, false, false, false, false, false, false, false] rfl rfl (any_of HT_.out (by kernel_rfl)) (fun _ _ _ h => h) (Or.inl ⟨by rfl, ?_⟩) ?_ ?_
          rotate_left
          ·intro w'
           go_simp
           with_reducible rfl
          rotate_left
          ·simp only [Act.put, p1, p2, p3, i64_w, i32_w]
           rfl
          refine pure_ (i := 7) (N := some 82) (v := ?_) (a' := ?_) #[true, true, true, true, true, true, false, true, false, false, false, false, false, false, false, false, false, false, false, false, false, false, false, false, false, false, false, false] rfl rfl (any_of HT_.out (by kernel_rfl)) (fun _ _ _ h => h) (Or.inl ⟨by rfl, ?_⟩) ?_ ?_
          rotate_left
          ·intro w'
           go_simp
           with_reducible rfl
          rotate_left
          ·simp only [Act.put, p1, p2, p3, i64_w, i32_w]
           rfl
          refine pure_ (i := 10) (N := some 85) (v := ?_) (a' := ?_) #[true, true, true, true, true, true, false, true, false, false, true, false, false, false, false, false, false, false, false, false, false, false, false, false, false, false, false, false] rfl rfl (any_of HT_.out (by kernel_rfl)) (fun _ _ _ h => h) (Or.inl ⟨by rfl, ?_⟩) ?_ ?_
          rotate_left
          ·intro w'
           go_simp
           with_reducible rfl
          rotate_left
          ·simp only [Act.put, p1, p2, p3, i64_w, i32_w]
           rfl
          refine take_ (i := 6) (N := some 81) (v := ?_) (a' := ?_) #[true, true, true, true, true, true, true, true, false, false, true, false, false, false, false, false, false, false, false, false, false, false, false, false, false, false, false, false] rfl rfl (take_ofW HT_.out HW_.out (by kernel_rfl)) (fun _ _ _ h => h) (Or.inl ⟨by rfl, ?_⟩) hHeld ?_ ?_
          rotate_left
          ·rintro w' ⟨s0, s1, s2, s3, s4, s5, s6, s7, s8, s9, s10, s11, s12, s13⟩
           go_simp
           with_reducible rfl
          rotate_left
          ·simp only [Act.put, p1, p2, p3, i64_w, i32_w]
           rfl
          refine take_ (i := 9) (N := some 84) (v := ?_) (a' := ?_) #[true, true, true, true, true, true, true, true, false, true, true, false, false, false, false, false, false, false, false, false, false, false, false, false, false, false, false, false] rfl rfl (take_ofW HT_.out HW_.out (by kernel_rfl)) (fun _ _ _ h => h) (Or.inl ⟨by rfl, ?_⟩) hHeld ?_ ?_
          rotate_left
          ·rintro w' ⟨s0, s1, s2, s3, s4, s5, s6, s7, s8, s9, s10, s11, s12, s13⟩
           go_simp
           with_reducible rfl
          rotate_left
          ·simp only [Act.put, p1, p2, p3, i64_w, i32_w]
           rfl
          refine one_ (i := 8) (N := some 83) #[true, true, true, true, true, true, true, true, true, true, true, false, false, false, false, false, false, false, false, false, false, false, false, false, false, false, false, false] rfl rfl (one_of HT_.out (by kernel_rfl)) (by decide) (fun K hK => ?_)
          refine goes_ Try.func53 (by kernel_rfl) rfl #[.agg #[.int .i64 t342, .int .i64 t343, .int .i64 t344, .int .i64 t345, .int .i64 t346], .int .i64 x10_1] (by rfl) rfl rfl (by (try simp only [List.map_toArray, List.map_cons, List.map_nil]); first | done | rfl | (simp only [List.length_drop, List.length_take]; rfl)) ?_
          with_reducible refine (impl_HeightAt.calls t342 t343 t344 t345 t346 x10_1 t396 _ A112.out).mono ?_
          rintro e w303 ⟨rfl, hb⟩
          refine ⟨_, rfl, ?_⟩
          have n0_ := qg (q8 (g := gb348) (o := .cells #[.int .i64 t342, .int .i64 t343, .int .i64 t344, .int .i64 t345, .int .i64 t346] 28 (0, 0)) (by (with_reducible repeat (first | refine q5 ?_ _ | refine q6 ?_ | refine q7 ?_ _)); exact BK348.out) hb)
          have n1_ := qg (q8 (g := gb356) (o := .cells #[.int .i64 t349, .int .i64 t350, .int .i64 t351, .int .i64 t352, .int .i64 t353] 28 (0, 0)) (by (with_reducible repeat (first | refine q5 ?_ _ | refine q6 ?_ | refine q7 ?_ _)); exact BK356.out) hb)
          have n2_ := qg (q8 (g := gb357) (o := .cells #[.int .i64 t354, .int .i64 t355] 26 (0, 0)) (by (with_reducible repeat (first | refine q5 ?_ _ | refine q6 ?_ | refine q7 ?_ _)); exact BK357.out) hb)
          have n3_ := qg (q8 (g := gb371) (o := .cells #[.int .i64 t366, .int .i64 t367, .int .i64 t368, .int .i64 t369, .int .i64 t370] 28 (0, 0)) (by (with_reducible repeat (first | refine q5 ?_ _ | refine q6 ?_ | refine q7 ?_ _)); exact BK371.out) hb)
          have n4_ := qg (q8 (g := gb378) (o := .cells #[.int .i64 t372, .int .i64 t373, .int .i64 t374, .int .i64 t375, .int .i64 t376] 28 (0, 0)) (by (with_reducible repeat (first | refine q5 ?_ _ | refine q6 ?_ | refine q7 ?_ _)); exact BK378.out) hb)
          have n5_ := qg (q8 (g := gb385) (o := .cells #[.int .i64 t382, .int .i64 t383] 26 (0, 0)) (by (with_reducible repeat (first | refine q5 ?_ _ | refine q6 ?_ | refine q7 ?_ _)); exact BK385.out) hb)
          have n6_ := qg (q8 (g := gb389) (o := .cells #[.int .i64 t386, .int .i64 t387] 26 (0, 0)) (by (with_reducible repeat (first | refine q5 ?_ _ | refine q6 ?_ | refine q7 ?_ _)); exact BK389.out) hb)
          have n7_ := qg (q8 (g := gb393) (o := .cells #[.int .i64 t390, .int .i64 t391] 26 (0, 0)) (by (with_reducible repeat (first | refine q5 ?_ _ | refine q6 ?_ | refine q7 ?_ _)); exact BK393.out) hb)
          have n8_ := qg (q9 (by repeat (first | (with_reducible first | exact HB.out | apply q1 | apply q2 | apply q3 | refine q4 ?_ GE348.out | refine q4 ?_ GE356.out | refine q4 ?_ GE357.out | refine q4 ?_ GE371.out | refine q4 ?_ GE378.out | refine q4 ?_ GE385.out | refine q4 ?_ GE389.out | refine q4 ?_ GE393.out) | exact HB.out)) hb)
          clear BK348
          clear BK356
          clear BK357
          clear BK371
          clear BK378
          clear BK385
          clear BK389
          clear BK393
          clear HB
          have BK348 := n0_
          have BK356 := n1_
          have BK357 := n2_
          have BK371 := n3_
          have BK378 := n4_
          have BK385 := n5_
          have BK389 := n6_
          have BK393 := n7_
          have HB := n8_
          clear n0_ n1_ n2_ n3_ n4_ n5_ n6_ n7_ n8_
          (try clear hb)
          (try clear hb2)
          (try clear hk)
          (try clear hi)
          refine hK.out _ _ ⟨(qc BK389.out 0).trans rfl, (qc BK389.out 1).trans rfl, (qc BK385.out 0).trans rfl, (qc BK385.out 1).trans rfl, (qc BK348.out 0).trans rfl, (qc BK348.out 1).trans rfl, (qc BK348.out 2).trans rfl, (qc BK348.out 3).trans rfl, (qc BK348.out 4).trans rfl, (qc BK371.out 0).trans rfl, (qc BK371.out 1).trans rfl, (qc BK371.out 2).trans rfl, (qc BK371.out 3).trans rfl, (qc BK371.out 4).trans rfl⟩ (fun hHeld => ?_)
          clear hK K
          refine norm_ (a' := ?_) ?_ ?_
          rotate_left
          ·show Act.put _ (some 83) _ = _
           simp only [Act.put, p1, p2, p3, i64_w, i32_w]
           rfl
          refine one_ (i := 11) (N := some 86) #[true, true, true, true, true, true, true, true, true, true, true, true, false, false, false, false, false, false, false, false, false, false, false, false, false, false, false, false] rfl rfl (one_of HT_.out (by kernel_rfl)) (by decide) (fun K hK => ?_)
          refine goes_ Try.func53 (by kernel_rfl) rfl #[.agg #[.int .i64 t366, .int .i64 t367, .int .i64 t368, .int .i64 t369, .int .i64 t370], .int .i64 x10_1] (by rfl) rfl rfl (by (try simp only [List.map_toArray, List.map_cons, List.map_nil]); first | done | rfl | (simp only [List.length_drop, List.length_take]; rfl)) ?_
          with_reducible refine (impl_HeightAt.calls t366 t367 t368 t369 t370 x10_1 t397 _ A113.out).mono ?_
          rintro e w304 ⟨rfl, hb⟩
          refine ⟨_, rfl, ?_⟩
          have n0_ := qg (q8 (g := gb348) (o := .cells #[.int .i64 t342, .int .i64 t343, .int .i64 t344, .int .i64 t345, .int .i64 t346] 28 (0, 0)) (by (with_reducible repeat (first | refine q5 ?_ _ | refine q6 ?_ | refine q7 ?_ _)); exact BK348.out) hb)
          have n1_ := qg (q8 (g := gb356) (o := .cells #[.int .i64 t349, .int .i64 t350, .int .i64 t351, .int .i64 t352, .int .i64 t353] 28 (0, 0)) (by (with_reducible repeat (first | refine q5 ?_ _ | refine q6 ?_ | refine q7 ?_ _)); exact BK356.out) hb)
          have n2_ := qg (q8 (g := gb357) (o := .cells #[.int .i64 t354, .int .i64 t355] 26 (0, 0)) (by (with_reducible repeat (first | refine q5 ?_ _ | refine q6 ?_ | refine q7 ?_ _)); exact BK357.out) hb)
          have n3_ := qg (q8 (g := gb371) (o := .cells #[.int .i64 t366, .int .i64 t367, .int .i64 t368, .int .i64 t369, .int .i64 t370] 28 (0, 0)) (by (with_reducible repeat (first | refine q5 ?_ _ | refine q6 ?_ | refine q7 ?_ _)); exact BK371.out) hb)
          have n4_ := qg (q8 (g := gb378) (o := .cells #[.int .i64 t372, .int .i64 t373, .int .i64 t374, .int .i64 t375, .int .i64 t376] 28 (0, 0)) (by (with_reducible repeat (first | refine q5 ?_ _ | refine q6 ?_ | refine q7 ?_ _)); exact BK378.out) hb)
          have n5_ := qg (q8 (g := gb385) (o := .cells #[.int .i64 t382, .int .i64 t383] 26 (0, 0)) (by (with_reducible repeat (first | refine q5 ?_ _ | refine q6 ?_ | refine q7 ?_ _)); exact BK385.out) hb)
          have n6_ := qg (q8 (g := gb389) (o := .cells #[.int .i64 t386, .int .i64 t387] 26 (0, 0)) (by (with_reducible repeat (first | refine q5 ?_ _ | refine q6 ?_ | refine q7 ?_ _)); exact BK389.out) hb)
          have n7_ := qg (q8 (g := gb393) (o := .cells #[.int .i64 t390, .int .i64 t391] 26 (0, 0)) (by (with_reducible repeat (first | refine q5 ?_ _ | refine q6 ?_ | refine q7 ?_ _)); exact BK393.out) hb)
          have n8_ := qg (q9 (by repeat (first | (with_reducible first | exact HB.out | apply q1 | apply q2 | apply q3 | refine q4 ?_ GE348.out | refine q4 ?_ GE356.out | refine q4 ?_ GE357.out | refine q4 ?_ GE371.out | refine q4 ?_ GE378.out | refine q4 ?_ GE385.out | refine q4 ?_ GE389.out | refine q4 ?_ GE393.out) | exact HB.out)) hb)
          clear BK348
          clear BK356
          clear BK357
          clear BK371
          clear BK378
          clear BK385
          clear BK389
          clear BK393
          clear HB
          have BK348 := n0_
          have BK356 := n1_
          have BK357 := n2_
          have BK371 := n3_
          have BK378 := n4_
          have BK385 := n5_
          have BK389 := n6_
          have BK393 := n7_
          have HB := n8_
          clear n0_ n1_ n2_ n3_ n4_ n5_ n6_ n7_ n8_
          (try clear hb)
          (try clear hb2)
          (try clear hk)
          (try clear hi)
          refine hK.out _ _ ⟨(qc BK389.out 0).trans rfl, (qc BK389.out 1).trans rfl, (qc BK385.out 0).trans rfl, (qc BK385.out 1).trans rfl, (qc BK348.out 0).trans rfl, (qc BK348.out 1).trans rfl, (qc BK348.out 2).trans rfl, (qc BK348.out 3).trans rfl, (qc BK348.out 4).trans rfl, (qc BK371.out 0).trans rfl, (qc BK371.out 1).trans rfl, (qc BK371.out 2).trans rfl, (qc BK371.out 3).trans rfl, (qc BK371.out 4).trans rfl⟩ (fun hHeld => ?_)
          clear hK K
          refine norm_ (a' := ?_) ?_ ?_
          rotate_left
          ·show Act.put _ (some 86) _ = _
           simp only [Act.put, p1, p2, p3, i64_w, i32_w]
           rfl
          refine pure_ (i := 12) (N := some 87) (v := ?_) (a' := ?_) #[true, true, true, true, true, true, true, true, true, true, true, true, true, false, false, false, false, false, false, false, false, false, false, false, false, false, false, false] rfl rfl (any_of HT_.out (by kernel_rfl)) (fun _ _ _ h => h) (Or.inl ⟨by rfl, ?_⟩) ?_ ?_
          rotate_left
          ·intro w'
           go_simp
           with_reducible rfl
          rotate_left
          ·simp only [Act.put, p1, p2, p3, i64_w, i32_w]
           rfl
          refine pure_ (i := 13) (N := some 88) (v := ?_) (a' := ?_) #[true, true, true, true, true, true, true, true, true, true, true, true, true, true, false, false, false, false, false, false, false, false, false, false, false, false, false, false] rfl rfl (any_of HT_.out (by kernel_rfl)) (fun _ _ _ h => h) (Or.inl ⟨by rfl, ?_⟩) ?_ ?_
          rotate_left
          ·intro w'
           go_simp
           with_reducible rfl
          rotate_left
          ·simp only [Act.put, p1, p2, p3, i64_w, i32_w]
           rfl
          refine pure_ (i := 14) (N := some 89) (v := ?_) (a' := ?_) #[true, true, true, true, true, true, true, true, true, true, true, true, true, true, true, false, false, false, false, false, false, false, false, false, false, false, false, false] rfl rfl (any_of HT_.out (by kernel_rfl)) (fun _ _ _ h => h) (Or.inl ⟨by rfl, ?_⟩) ?_ ?_
          rotate_left
          ·intro w'
           go_simp
           with_reducible rfl
          rotate_left
          ·simp only [Act.put, p1, p2, p3, i64_w, i32_w]
           rfl
          refine pure_ (i := 15) (N := some 90) (v := ?_) (a' := ?_) #[true, true, true, true, true, true, true, true, true, true, true, true, true, true, true, true, false, false, false, false, false, false, false, false, false, false, false, false] rfl rfl (any_of HT_.out (by kernel_rfl)) (fun _ _ _ h => h) (Or.inl ⟨by rfl, ?_⟩) ?_ ?_
          rotate_left
          ·intro w'
           go_simp
           with_reducible rfl
          rotate_left
          ·simp only [Act.put, p1, p2, p3, i64_w, i32_w]
           rfl
          refine pure_ (i := 16) (N := some 91) (v := ?_) (a' := ?_) #[true, true, true, true, true, true, true, true, true, true, true, true, true, true, true, true, true, false, false, false, false, false, false, false, false, false, false, false] rfl rfl (any_of HT_.out (by kernel_rfl)) (fun _ _ _ h => h) (Or.inl ⟨by rfl, ?_⟩) ?_ ?_
          rotate_left
          ·intro w'
           go_simp
           with_reducible rfl
          rotate_left
          ·simp only [Act.put, p1, p2, p3, i64_w, i32_w]
           rfl
          refine pure_ (i := 17) (N := some 92) (v := undef) (a' := ?_) #[true, true, true, true, true, true, true, true, true, true, true, true, true, true, true, true, true, true, false, false, false, false, false, false, false, false, false, false] rfl rfl (any_of HT_.out (by kernel_rfl)) (fun _ _ _ h => h) (Or.inr ⟨by rfl, rfl⟩) ?_ ?_
          rotate_left
          ·simp only [Act.put, p1, p2, p3, i64_w, i32_w]
           rfl
          refine pure_ (i := 18) (N := some 93) (v := undef) (a' := ?_) #[true, true, true, true, true, true, true, true, true, true, true, true, true, true, true, true, true, true, true, false, false, false, false, false, false, false, false, false] rfl rfl (any_of HT_.out (by kernel_rfl)) (fun _ _ _ h => h) (Or.inr ⟨by rfl, rfl⟩) ?_ ?_
          rotate_left
          ·simp only [Act.put, p1, p2, p3, i64_w, i32_w]
           rfl
          refine pure_ (i := 19) (N := some 94) (v := undef) (a' := ?_) #[true, true, true, true, true, true, true, true, true, true, true, true, true, true, true, true, true, true, true, true, false, false, false, false, false, false, false, false] rfl rfl (any_of HT_.out (by kernel_rfl)) (fun _ _ _ h => h) (Or.inr ⟨by rfl, rfl⟩) ?_ ?_
          rotate_left
          ·simp only [Act.put, p1, p2, p3, i64_w, i32_w]
           rfl
          refine pure_ (i := 20) (N := some 95) (v := undef) (a' := ?_) #[true, true, true, true, true, true, true, true, true, true, true, true, true, true, true, true, true, true, true, true, true, false, false, false, false, false, false, false] rfl rfl (any_of HT_.out (by kernel_rfl)) (fun _ _ _ h => h) (Or.inr ⟨by rfl, rfl⟩) ?_ ?_
          rotate_left
          ·simp only [Act.put, p1, p2, p3, i64_w, i32_w]
           rfl
          refine pure_ (i := 21) (N := some 96) (v := undef) (a' := ?_) #[true, true, true, true, true, true, true, true, true, true, true, true, true, true, true, true, true, true, true, true, true, true, false, false, false, false, false, false] rfl rfl (any_of HT_.out (by kernel_rfl)) (fun _ _ _ h => h) (Or.inr ⟨by rfl, rfl⟩) ?_ ?_
          rotate_left
          ·simp only [Act.put, p1, p2, p3, i64_w, i32_w]
           rfl
          refine pure_ (i := 22) (N := some 97) (v := undef) (a' := ?_) #[true, true, true, true, true, true, true, true, true, true, true, true, true, true, true, true, true, true, true, true, true, true, true, false, false, false, false, false] rfl rfl (any_of HT_.out (by kernel_rfl)) (fun _ _ _ h => h) (Or.inr ⟨by rfl, rfl⟩) ?_ ?_
          rotate_left
          ·simp only [Act.put, p1, p2, p3, i64_w, i32_w]
           rfl
          refine pure_ (i := 23) (N := some 98) (v := undef) (a' := ?_) #[true, true, true, true, true, true, true, true, true, true, true, true, true, true, true, true, true, true, true, true, true, true, true, true, false, false, false, false] rfl rfl (any_of HT_.out (by kernel_rfl)) (fun _ _ _ h => h) (Or.inr ⟨by rfl, rfl⟩) ?_ ?_
          rotate_left
          ·simp only [Act.put, p1, p2, p3, i64_w, i32_w]
           rfl
          refine pure_ (i := 24) (N := some 99) (v := undef) (a' := ?_) #[true, true, true, true, true, true, true, true, true, true, true, true, true, true, true, true, true, true, true, true, true, true, true, true, true, false, false, false] rfl rfl (any_of HT_.out (by kernel_rfl)) (fun _ _ _ h => h) (Or.inr ⟨by rfl, rfl⟩) ?_ ?_
          rotate_left
          ·simp only [Act.put, p1, p2, p3, i64_w, i32_w]
           rfl
          refine pure_ (i := 25) (N := some 100) (v := undef) (a' := ?_) #[true, true, true, true, true, true, true, true, true, true, true, true, true, true, true, true, true, true, true, true, true, true, true, true, true, true, false, false] rfl rfl (any_of HT_.out (by kernel_rfl)) (fun _ _ _ h => h) (Or.inr ⟨by rfl, rfl⟩) ?_ ?_
          rotate_left
          ·simp only [Act.put, p1, p2, p3, i64_w, i32_w]
           rfl
          refine pure_ (i := 26) (N := some 101) (v := ?_) (a' := ?_) #[true, true, true, true, true, true, true, true, true, true, true, true, true, true, true, true, true, true, true, true, true, true, true, true, true, true, true, false] rfl rfl (any_of HT_.out (by kernel_rfl)) (fun _ _ _ h => h) (Or.inl ⟨by rfl, ?_⟩) ?_ ?_
          rotate_left
          ·intro w'
           go_simp
           with_reducible rfl
          rotate_left
          ·simp only [Act.put, p1, p2, p3, i64_w, i32_w]
           rfl
          refine pure_ (i := 27) (N := some 102) (v := ?_) (a' := ?_) #[true, true, true, true, true, true, true, true, true, true, true, true, true, true, true, true, true, true, true, true, true, true, true, true, true, true, true, true] rfl rfl (any_of HT_.out (by kernel_rfl)) (fun _ _ _ h => h) (Or.inl ⟨by rfl, ?_⟩) ?_ ?_
          rotate_left
          ·intro w'
           go_simp
           with_reducible rfl
          rotate_left
          ·simp only [Act.put, p1, p2, p3, i64_w, i32_w]
           rfl
          refine done_ (done_of HT_.out (by kernel_rfl)) ?_
          try go_wp2
          go_roundg k1
          case measure => have := HK1.out; omega
          case rel => exact ⟨(wrap64 (x10_1 + 1)), (by first | rfl | (simp; done) | (simp [*]; done)), H', ⟨by have := HK1.out; omega⟩, ⟨by (with_reducible repeat (first | refine q5 ?_ _ | refine q6 ?_ | refine q7 ?_ _)); exact BK348.out⟩, ⟨by (with_reducible repeat (first | refine q5 ?_ _ | refine q6 ?_ | refine q7 ?_ _)); exact BK356.out⟩, ⟨by (with_reducible repeat (first | refine q5 ?_ _ | refine q6 ?_ | refine q7 ?_ _)); exact BK357.out⟩, ⟨by (with_reducible repeat (first | refine q5 ?_ _ | refine q6 ?_ | refine q7 ?_ _)); exact BK371.out⟩, ⟨by (with_reducible repeat (first | refine q5 ?_ _ | refine q6 ?_ | refine q7 ?_ _)); exact BK378.out⟩, ⟨by repeat (first | (with_reducible first | exact HB.out | apply q1 | apply q2 | apply q3 | refine q4 ?_ GE348.out | refine q4 ?_ GE356.out | refine q4 ?_ GE357.out | refine q4 ?_ GE371.out | refine q4 ?_ GE378.out | refine q4 ?_ GE385.out | refine q4 ?_ GE389.out | refine q4 ?_ GE393.out) | exact HB.out)⟩⟩
        ·rw [if_neg c114] at H
         have c114b0 : (t396 == t397) = false := beq_eq_false_iff_ne.mpr c114
         have c114b1 : (t396 != t397) = true := bne_iff_ne.mpr c114
         obtain rfl := Option.some.inj H
         exact absurd HR.out (by decide)
      ·rw [if_neg c62] at H
       have c62b0 : decide (x10_1 ≤ t379) = false := decide_eq_false c62
       clear c62
       replace H := Option.bind_eq_some_iff.mp H
       obtain ⟨t380, A3510, H⟩ := H
       replace H : (if t380 = true then (if t377 = true then ((impl_IsJet.f t372 t373 t374 t375 t376).bind fun t381 => (some t381)) else (some true)) else (some false)) = some r := H
       have A351 := qg A3510
       clear A3510
       by_cases c352 : t380 = true
       ·subst c352
        have H1 : (if t377 = true then ((impl_IsJet.f t372 t373 t374 t375 t376).bind fun t381 => (some t381)) else (some true)) = some r := by rw [if_pos rfl] at H; exact H
        clear H
        have H := H1
        clear H1
        by_cases c353 : t377 = true
        ·subst c353
         have H1 : ((impl_IsJet.f t372 t373 t374 t375 t376).bind fun t381 => (some t381)) = some r := by rw [if_pos rfl] at H; exact H
         clear H
         have H := H1
         clear H1
         replace H := Option.bind_eq_some_iff.mp H
         obtain ⟨t381, A3540, H⟩ := H
         replace H : (some t381) = some r := H
         have A354 := qg A3540
         clear A3540
         obtain rfl := Option.some.inj H
         have hnb355 := NB348_356.out
         have hnc355 := NB356_348.out
         have hnb356 := NB348_357.out
         have hnc356 := NB357_348.out
         have hnb357 := NB348_371.out
         have hnc357 := NB371_348.out
         have hnb358 := NB348_378.out
         have hnc358 := NB378_348.out
         have hcz359_0 : wr.cell? ⟨gb348, 0, none⟩ = some (.int .i64 t342) := (qc BK348.out 0).trans rfl
         have hcz359_1 : wr.cell? ⟨gb348, 1, none⟩ = some (.int .i64 t343) := (qc BK348.out 1).trans rfl
         have hcz359_2 : wr.cell? ⟨gb348, 2, none⟩ = some (.int .i64 t344) := (qc BK348.out 2).trans rfl
         have hcz359_3 : wr.cell? ⟨gb348, 3, none⟩ = some (.int .i64 t345) := (qc BK348.out 3).trans rfl
         have hcz359_4 : wr.cell? ⟨gb348, 4, none⟩ = some (.int .i64 t346) := (qc BK348.out 4).trans rfl
         have hfz359_0 := qb BK348.out 0
         have hfz359_1 := qb BK348.out 1
         have hfz359_2 := qb BK348.out 2
         have hfz359_3 := qb BK348.out 3
         have hfz359_4 := qb BK348.out 4
         go_wp2_with (first | ((with_reducible refine qt (f := 56) rfl ?_); refine goesL_ (some 53) rfl rfl Try.func56 (by kernel_rfl) rfl #[.agg #[.int .i64 t342, .int .i64 t343, .int .i64 t344, .int .i64 t345, .int .i64 t346]] rfl (by (try simp only [List.map_toArray, List.map_cons, List.map_nil]); first | done | rfl | (simp only [List.length_drop, List.length_take]; rfl)) ?_; (with_reducible refine (impl_FlightOf.calls t342 t343 t344 t345 t346 t379 _ A61.out).mono ?_); rintro e w360 ⟨rfl, hb⟩; refine ⟨_, rfl, ?_⟩; have n0_ := qg (q8 (g := gb348) (o := .cells #[.int .i64 t342, .int .i64 t343, .int .i64 t344, .int .i64 t345, .int .i64 t346] 28 (0, 0)) (by (with_reducible repeat (first | refine q5 ?_ _ | refine q6 ?_ | refine q7 ?_ _)); exact BK348.out) hb); have n1_ := qg (q8 (g := gb356) (o := .cells #[.int .i64 t349, .int .i64 t350, .int .i64 t351, .int .i64 t352, .int .i64 t353] 28 (0, 0)) (by (with_reducible repeat (first | refine q5 ?_ _ | refine q6 ?_ | refine q7 ?_ _)); exact BK356.out) hb); have n2_ := qg (q8 (g := gb357) (o := .cells #[.int .i64 t354, .int .i64 t355] 26 (0, 0)) (by (with_reducible repeat (first | refine q5 ?_ _ | refine q6 ?_ | refine q7 ?_ _)); exact BK357.out) hb); have n3_ := qg (q8 (g := gb371) (o := .cells #[.int .i64 t366, .int .i64 t367, .int .i64 t368, .int .i64 t369, .int .i64 t370] 28 (0, 0)) (by (with_reducible repeat (first | refine q5 ?_ _ | refine q6 ?_ | refine q7 ?_ _)); exact BK371.out) hb); have n4_ := qg (q8 (g := gb378) (o := .cells #[.int .i64 t372, .int .i64 t373, .int .i64 t374, .int .i64 t375, .int .i64 t376] 28 (0, 0)) (by (with_reducible repeat (first | refine q5 ?_ _ | refine q6 ?_ | refine q7 ?_ _)); exact BK378.out) hb); have n5_ := qg (q9 (by repeat (first | (with_reducible first | exact HB.out | apply q1 | apply q2 | apply q3 | refine q4 ?_ GE348.out | refine q4 ?_ GE356.out | refine q4 ?_ GE357.out | refine q4 ?_ GE371.out | refine q4 ?_ GE378.out) | exact HB.out)) hb); clear BK348; clear BK356; clear BK357; clear BK371; clear BK378; clear HB; have BK348 := n0_; have BK356 := n1_; have BK357 := n2_; have BK371 := n3_; have BK378 := n4_; have HB := n5_; clear n0_ n1_ n2_ n3_ n4_ n5_; (try clear hb); (try clear hb2); (try clear hk); (try clear hi); have hnb361 := NB371_356.out; have hnc361 := NB356_371.out; have hnb362 := NB371_357.out; have hnc362 := NB357_371.out; have hnb363 := NB371_378.out; have hnc363 := NB378_371.out; have hcz364_0 : w360.cell? ⟨gb371, 0, none⟩ = some (.int .i64 t366) := (qc BK371.out 0).trans rfl; have hcz364_1 : w360.cell? ⟨gb371, 1, none⟩ = some (.int .i64 t367) := (qc BK371.out 1).trans rfl; have hcz364_2 : w360.cell? ⟨gb371, 2, none⟩ = some (.int .i64 t368) := (qc BK371.out 2).trans rfl; have hcz364_3 : w360.cell? ⟨gb371, 3, none⟩ = some (.int .i64 t369) := (qc BK371.out 3).trans rfl; have hcz364_4 : w360.cell? ⟨gb371, 4, none⟩ = some (.int .i64 t370) := (qc BK371.out 4).trans rfl; have hfz364_0 := qb BK371.out 0; have hfz364_1 := qb BK371.out 1; have hfz364_2 := qb BK371.out 2; have hfz364_3 := qb BK371.out 3; have hfz364_4 := qb BK371.out 4) | ((with_reducible refine qt (f := 54) rfl ?_); refine goesL_ (some 104) rfl rfl Try.func54 (by kernel_rfl) rfl #[.agg #[.int .i64 t366, .int .i64 t367, .int .i64 t368, .int .i64 t369, .int .i64 t370]] rfl (by (try simp only [List.map_toArray, List.map_cons, List.map_nil]); first | done | rfl | (simp only [List.length_drop, List.length_take]; rfl)) ?_; (with_reducible refine (impl_IsJet.calls t366 t367 t368 t369 t370 true _ A351.out).mono ?_); rintro e w365 ⟨rfl, hb⟩; refine ⟨_, rfl, ?_⟩; have n0_ := qg (q8 (g := gb348) (o := .cells #[.int .i64 t342, .int .i64 t343, .int .i64 t344, .int .i64 t345, .int .i64 t346] 28 (0, 0)) (by (with_reducible repeat (first | refine q5 ?_ _ | refine q6 ?_ | refine q7 ?_ _)); exact BK348.out) hb); have n1_ := qg (q8 (g := gb356) (o := .cells #[.int .i64 t349, .int .i64 t350, .int .i64 t351, .int .i64 t352, .int .i64 t353] 28 (0, 0)) (by (with_reducible repeat (first | refine q5 ?_ _ | refine q6 ?_ | refine q7 ?_ _)); exact BK356.out) hb); have n2_ := qg (q8 (g := gb357) (o := .cells #[.int .i64 t354, .int .i64 t355] 26 (0, 0)) (by (with_reducible repeat (first | refine q5 ?_ _ | refine q6 ?_ | refine q7 ?_ _)); exact BK357.out) hb); have n3_ := qg (q8 (g := gb371) (o := .cells #[.int .i64 t366, .int .i64 t367, .int .i64 t368, .int .i64 t369, .int .i64 t370] 28 (0, 0)) (by (with_reducible repeat (first | refine q5 ?_ _ | refine q6 ?_ | refine q7 ?_ _)); exact BK371.out) hb); have n4_ := qg (q8 (g := gb378) (o := .cells #[.int .i64 t372, .int .i64 t373, .int .i64 t374, .int .i64 t375, .int .i64 t376] 28 (0, 0)) (by (with_reducible repeat (first | refine q5 ?_ _ | refine q6 ?_ | refine q7 ?_ _)); exact BK378.out) hb); have n5_ := qg (q9 (by repeat (first | (with_reducible first | exact HB.out | apply q1 | apply q2 | apply q3 | refine q4 ?_ GE348.out | refine q4 ?_ GE356.out | refine q4 ?_ GE357.out | refine q4 ?_ GE371.out | refine q4 ?_ GE378.out) | exact HB.out)) hb); clear BK348; clear BK356; clear BK357; clear BK371; clear BK378; clear HB; have BK348 := n0_; have BK356 := n1_; have BK357 := n2_; have BK371 := n3_; have BK378 := n4_; have HB := n5_; clear n0_ n1_ n2_ n3_ n4_ n5_; (try clear hb); (try clear hb2); (try clear hk); (try clear hi); have hnb366 := NB378_356.out; have hnc366 := NB356_378.out; have hnb367 := NB378_357.out; have hnc367 := NB357_378.out; have hcz368_0 : w365.cell? ⟨gb378, 0, none⟩ = some (.int .i64 t372) := (qc BK378.out 0).trans rfl; have hcz368_1 : w365.cell? ⟨gb378, 1, none⟩ = some (.int .i64 t373) := (qc BK378.out 1).trans rfl; have hcz368_2 : w365.cell? ⟨gb378, 2, none⟩ = some (.int .i64 t374) := (qc BK378.out 2).trans rfl; have hcz368_3 : w365.cell? ⟨gb378, 3, none⟩ = some (.int .i64 t375) := (qc BK378.out 3).trans rfl; have hcz368_4 : w365.cell? ⟨gb378, 4, none⟩ = some (.int .i64 t376) := (qc BK378.out 4).trans rfl; have hfz368_0 := qb BK378.out 0; have hfz368_1 := qb BK378.out 1; have hfz368_2 := qb BK378.out 2; have hfz368_3 := qb BK378.out 3; have hfz368_4 := qb BK378.out 4) | (go_at_call 54; (with_reducible refine (impl_IsJet.calls t372 t373 t374 t375 t376 t381 _ A354.out).mono ?_); rintro e w369 ⟨rfl, hb⟩; have n0_ := qg (q8 (g := gb348) (o := .cells #[.int .i64 t342, .int .i64 t343, .int .i64 t344, .int .i64 t345, .int .i64 t346] 28 (0, 0)) (by (with_reducible repeat (first | refine q5 ?_ _ | refine q6 ?_ | refine q7 ?_ _)); exact BK348.out) hb); have n1_ := qg (q8 (g := gb356) (o := .cells #[.int .i64 t349, .int .i64 t350, .int .i64 t351, .int .i64 t352, .int .i64 t353] 28 (0, 0)) (by (with_reducible repeat (first | refine q5 ?_ _ | refine q6 ?_ | refine q7 ?_ _)); exact BK356.out) hb); have n2_ := qg (q8 (g := gb357) (o := .cells #[.int .i64 t354, .int .i64 t355] 26 (0, 0)) (by (with_reducible repeat (first | refine q5 ?_ _ | refine q6 ?_ | refine q7 ?_ _)); exact BK357.out) hb); have n3_ := qg (q8 (g := gb371) (o := .cells #[.int .i64 t366, .int .i64 t367, .int .i64 t368, .int .i64 t369, .int .i64 t370] 28 (0, 0)) (by (with_reducible repeat (first | refine q5 ?_ _ | refine q6 ?_ | refine q7 ?_ _)); exact BK371.out) hb); have n4_ := qg (q8 (g := gb378) (o := .cells #[.int .i64 t372, .int .i64 t373, .int .i64 t374, .int .i64 t375, .int .i64 t376] 28 (0, 0)) (by (with_reducible repeat (first | refine q5 ?_ _ | refine q6 ?_ | refine q7 ?_ _)); exact BK378.out) hb); have n5_ := qg (q9 (by repeat (first | (with_reducible first | exact HB.out | apply q1 | apply q2 | apply q3 | refine q4 ?_ GE348.out | refine q4 ?_ GE356.out | refine q4 ?_ GE357.out | refine q4 ?_ GE371.out | refine q4 ?_ GE378.out) | exact HB.out)) hb); clear BK348; clear BK356; clear BK357; clear BK371; clear BK378; clear HB; have BK348 := n0_; have BK356 := n1_; have BK357 := n2_; have BK371 := n3_; have BK378 := n4_; have HB := n5_; clear n0_ n1_ n2_ n3_ n4_ n5_; (try clear hb); (try clear hb2); (try clear hk); (try clear hi)))
         go_ret
         exact ⟨by first | rfl | (simp [errW_none, errW_some] <;> rfl) | (simp [*, errW_none, errW_some] <;> rfl), by repeat (first | (with_reducible first | exact HB.out | apply q1 | apply q2 | apply q3 | refine q4 ?_ GE348.out | refine q4 ?_ GE356.out | refine q4 ?_ GE357.out | refine q4 ?_ GE371.out | refine q4 ?_ GE378.out) | exact HB.out)⟩
        ·replace c353 := Bool.eq_false_iff.mpr c353
         subst c353
         have H1 : (some true) = some r := by rw [if_neg (show ¬ (false = true) by decide)] at H; exact H
         clear H
         have H := H1
         clear H1
         obtain rfl := Option.some.inj H
         have hnb370 := NB348_356.out
         have hnc370 := NB356_348.out
         have hnb371 := NB348_357.out
         have hnc371 := NB357_348.out
         have hnb372 := NB348_371.out
         have hnc372 := NB371_348.out
         have hnb373 := NB348_378.out
         have hnc373 := NB378_348.out
         have hcz374_0 : wr.cell? ⟨gb348, 0, none⟩ = some (.int .i64 t342) := (qc BK348.out 0).trans rfl
         have hcz374_1 : wr.cell? ⟨gb348, 1, none⟩ = some (.int .i64 t343) := (qc BK348.out 1).trans rfl
         have hcz374_2 : wr.cell? ⟨gb348, 2, none⟩ = some (.int .i64 t344) := (qc BK348.out 2).trans rfl
         have hcz374_3 : wr.cell? ⟨gb348, 3, none⟩ = some (.int .i64 t345) := (qc BK348.out 3).trans rfl
         have hcz374_4 : wr.cell? ⟨gb348, 4, none⟩ = some (.int .i64 t346) := (qc BK348.out 4).trans rfl
         have hfz374_0 := qb BK348.out 0
         have hfz374_1 := qb BK348.out 1
         have hfz374_2 := qb BK348.out 2
         have hfz374_3 := qb BK348.out 3
         have hfz374_4 := qb BK348.out 4
         go_wp2_with (first | ((with_reducible refine qt (f := 56) rfl ?_); refine goesL_ (some 53) rfl rfl Try.func56 (by kernel_rfl) rfl #[.agg #[.int .i64 t342, .int .i64 t343, .int .i64 t344, .int .i64 t345, .int .i64 t346]] rfl (by (try simp only [List.map_toArray, List.map_cons, List.map_nil]); first | done | rfl | (simp only [List.length_drop, List.length_take]; rfl)) ?_; (with_reducible refine (impl_FlightOf.calls t342 t343 t344 t345 t346 t379 _ A61.out).mono ?_); rintro e w375 ⟨rfl, hb⟩; refine ⟨_, rfl, ?_⟩; have n0_ := qg (q8 (g := gb348) (o := .cells #[.int .i64 t342, .int .i64 t343, .int .i64 t344, .int .i64 t345, .int .i64 t346] 28 (0, 0)) (by (with_reducible repeat (first | refine q5 ?_ _ | refine q6 ?_ | refine q7 ?_ _)); exact BK348.out) hb); have n1_ := qg (q8 (g := gb356) (o := .cells #[.int .i64 t349, .int .i64 t350, .int .i64 t351, .int .i64 t352, .int .i64 t353] 28 (0, 0)) (by (with_reducible repeat (first | refine q5 ?_ _ | refine q6 ?_ | refine q7 ?_ _)); exact BK356.out) hb); have n2_ := qg (q8 (g := gb357) (o := .cells #[.int .i64 t354, .int .i64 t355] 26 (0, 0)) (by (with_reducible repeat (first | refine q5 ?_ _ | refine q6 ?_ | refine q7 ?_ _)); exact BK357.out) hb); have n3_ := qg (q8 (g := gb371) (o := .cells #[.int .i64 t366, .int .i64 t367, .int .i64 t368, .int .i64 t369, .int .i64 t370] 28 (0, 0)) (by (with_reducible repeat (first | refine q5 ?_ _ | refine q6 ?_ | refine q7 ?_ _)); exact BK371.out) hb); have n4_ := qg (q8 (g := gb378) (o := .cells #[.int .i64 t372, .int .i64 t373, .int .i64 t374, .int .i64 t375, .int .i64 t376] 28 (0, 0)) (by (with_reducible repeat (first | refine q5 ?_ _ | refine q6 ?_ | refine q7 ?_ _)); exact BK378.out) hb); have n5_ := qg (q9 (by repeat (first | (with_reducible first | exact HB.out | apply q1 | apply q2 | apply q3 | refine q4 ?_ GE348.out | refine q4 ?_ GE356.out | refine q4 ?_ GE357.out | refine q4 ?_ GE371.out | refine q4 ?_ GE378.out) | exact HB.out)) hb); clear BK348; clear BK356; clear BK357; clear BK371; clear BK378; clear HB; have BK348 := n0_; have BK356 := n1_; have BK357 := n2_; have BK371 := n3_; have BK378 := n4_; have HB := n5_; clear n0_ n1_ n2_ n3_ n4_ n5_; (try clear hb); (try clear hb2); (try clear hk); (try clear hi); have hnb376 := NB371_356.out; have hnc376 := NB356_371.out; have hnb377 := NB371_357.out; have hnc377 := NB357_371.out; have hnb378 := NB371_378.out; have hnc378 := NB378_371.out; have hcz379_0 : w375.cell? ⟨gb371, 0, none⟩ = some (.int .i64 t366) := (qc BK371.out 0).trans rfl; have hcz379_1 : w375.cell? ⟨gb371, 1, none⟩ = some (.int .i64 t367) := (qc BK371.out 1).trans rfl; have hcz379_2 : w375.cell? ⟨gb371, 2, none⟩ = some (.int .i64 t368) := (qc BK371.out 2).trans rfl; have hcz379_3 : w375.cell? ⟨gb371, 3, none⟩ = some (.int .i64 t369) := (qc BK371.out 3).trans rfl; have hcz379_4 : w375.cell? ⟨gb371, 4, none⟩ = some (.int .i64 t370) := (qc BK371.out 4).trans rfl; have hfz379_0 := qb BK371.out 0; have hfz379_1 := qb BK371.out 1; have hfz379_2 := qb BK371.out 2; have hfz379_3 := qb BK371.out 3; have hfz379_4 := qb BK371.out 4) | ((with_reducible refine qt (f := 54) rfl ?_); refine goesL_ (some 104) rfl rfl Try.func54 (by kernel_rfl) rfl #[.agg #[.int .i64 t366, .int .i64 t367, .int .i64 t368, .int .i64 t369, .int .i64 t370]] rfl (by (try simp only [List.map_toArray, List.map_cons, List.map_nil]); first | done | rfl | (simp only [List.length_drop, List.length_take]; rfl)) ?_; (with_reducible refine (impl_IsJet.calls t366 t367 t368 t369 t370 true _ A351.out).mono ?_); rintro e w380 ⟨rfl, hb⟩; refine ⟨_, rfl, ?_⟩; have n0_ := qg (q8 (g := gb348) (o := .cells #[.int .i64 t342, .int .i64 t343, .int .i64 t344, .int .i64 t345, .int .i64 t346] 28 (0, 0)) (by (with_reducible repeat (first | refine q5 ?_ _ | refine q6 ?_ | refine q7 ?_ _)); exact BK348.out) hb); have n1_ := qg (q8 (g := gb356) (o := .cells #[.int .i64 t349, .int .i64 t350, .int .i64 t351, .int .i64 t352, .int .i64 t353] 28 (0, 0)) (by (with_reducible repeat (first | refine q5 ?_ _ | refine q6 ?_ | refine q7 ?_ _)); exact BK356.out) hb); have n2_ := qg (q8 (g := gb357) (o := .cells #[.int .i64 t354, .int .i64 t355] 26 (0, 0)) (by (with_reducible repeat (first | refine q5 ?_ _ | refine q6 ?_ | refine q7 ?_ _)); exact BK357.out) hb); have n3_ := qg (q8 (g := gb371) (o := .cells #[.int .i64 t366, .int .i64 t367, .int .i64 t368, .int .i64 t369, .int .i64 t370] 28 (0, 0)) (by (with_reducible repeat (first | refine q5 ?_ _ | refine q6 ?_ | refine q7 ?_ _)); exact BK371.out) hb); have n4_ := qg (q8 (g := gb378) (o := .cells #[.int .i64 t372, .int .i64 t373, .int .i64 t374, .int .i64 t375, .int .i64 t376] 28 (0, 0)) (by (with_reducible repeat (first | refine q5 ?_ _ | refine q6 ?_ | refine q7 ?_ _)); exact BK378.out) hb); have n5_ := qg (q9 (by repeat (first | (with_reducible first | exact HB.out | apply q1 | apply q2 | apply q3 | refine q4 ?_ GE348.out | refine q4 ?_ GE356.out | refine q4 ?_ GE357.out | refine q4 ?_ GE371.out | refine q4 ?_ GE378.out) | exact HB.out)) hb); clear BK348; clear BK356; clear BK357; clear BK371; clear BK378; clear HB; have BK348 := n0_; have BK356 := n1_; have BK357 := n2_; have BK371 := n3_; have BK378 := n4_; have HB := n5_; clear n0_ n1_ n2_ n3_ n4_ n5_; (try clear hb); (try clear hb2); (try clear hk); (try clear hi)))
         go_ret
         exact ⟨by first | rfl | (simp [errW_none, errW_some] <;> rfl) | (simp [*, errW_none, errW_some] <;> rfl), by repeat (first | (with_reducible first | exact HB.out | apply q1 | apply q2 | apply q3 | refine q4 ?_ GE348.out | refine q4 ?_ GE356.out | refine q4 ?_ GE357.out | refine q4 ?_ GE371.out | refine q4 ?_ GE378.out) | exact HB.out)⟩
       ·replace c352 := Bool.eq_false_iff.mpr c352
        subst c352
        have H1 : (some false) = some r := by rw [if_neg (show ¬ (false = true) by decide)] at H; exact H
        clear H
        have H := H1
        clear H1
        obtain rfl := Option.some.inj H
        exact absurd HR.out (by decide)
   ·replace c25 := Bool.eq_false_iff.mpr c25
    subst c25
    have H1 : ((impl_TurnJet.f k t342 t343 t344 t345 t346 t347).bind fun bt361 => (some ((bt361.1 == 0 && (bt361.2.1 == 0)) && (bt361.2.2.1 == 0 && (bt361.2.2.2.1 == 0 && (bt361.2.2.2.2 == 0)))))) = some r := by rw [if_neg (show ¬ (false = true) by decide)] at H; exact H
    clear H
    have H := H1
    clear H1
    replace H := Option.bind_eq_some_iff.mp H
    obtain ⟨⟨t361, t362, t363, t364, t365⟩, A3920, H⟩ := H
    replace H : (some ((t361 == 0 && (t362 == 0)) && (t363 == 0 && (t364 == 0 && (t365 == 0))))) = some r := H
    have A392 := qg A3920
    clear A3920
    obtain rfl := Option.some.inj H
    go_enter Try.func14, Try.ntmps14
    try go_wp2_with (first | ((with_reducible refine qt (f := 50) rfl ?_); refine goesL_ (some 18) rfl rfl Try.func50 (by kernel_rfl) rfl #[.slice A0 l0.length c0] rfl (by (try simp only [List.map_toArray, List.map_cons, List.map_nil]); first | done | rfl | (simp only [List.length_drop, List.length_take]; rfl)) ?_; (with_reducible refine (laws_big.calls _ _ l0 false _ ?side1 ?side2 A2.out).mono ?_); (case side1 => repeat (first | exact HR0.out | (with_reducible refine qo ?_ _) | (with_reducible refine qr ?_ _) | (with_reducible refine qs ?_))); (case side2 => exact HC0.out); rintro e w' ⟨rfl, ⟨nd, rfl⟩⟩; refine ⟨_, rfl, ?_⟩) | ((with_reducible refine qt (f := 57) rfl ?_); refine goesL_ (some 21) rfl rfl Try.func57 (by kernel_rfl) rfl #[.slice A0 l0.length c0] rfl (by (try simp only [List.map_toArray, List.map_cons, List.map_nil]); first | done | rfl | (simp only [List.length_drop, List.length_take]; rfl)) ?_; (with_reducible refine (spec_DrawTurnJet.calls k _ _ l0 t342 t343 t344 t345 t346 t347 _ ?side1 ?side2 A4.out).mono ?_); (case side1 => repeat (first | exact HR0.out | (with_reducible refine qo ?_ _) | (with_reducible refine qr ?_ _) | (with_reducible refine qs ?_))); (case side2 => exact HC0.out); rintro e w393 ⟨rfl, hb⟩; refine ⟨_, rfl, ?_⟩; have n0_ := qg (q9 (by repeat (first | (with_reducible first | exact HB.out | apply q1 | apply q2 | apply q3) | exact HB.out)) hb); clear HB; have HB := n0_; clear n0_; (try clear hb); (try clear hb2); (try clear hk); (try clear hi)) | ((with_reducible refine qu (N := 3) rfl ?_); refine qh ?hg (N := 3) ?hd (cs := #[.int .i64 0, .int .i64 0, .int .i64 0, .int .i64 0, .int .i64 0]) (t := 28) ?hr ?_; (case hd => rfl); (case hg => rfl); (case hr => first | (go_simp; done) | (go_simp; rfl)); intro gb348 hg w394 hbox hb; have n0_ := qg (q9 (by repeat (first | (with_reducible first | exact HB.out | apply q1 | apply q2 | apply q3) | exact HB.out)) hb); have n1_ := qg (hbox); have n2_ := qg ((by rw [hg]; exact (qa (by repeat (first | (with_reducible first | exact HB.out | apply q1 | apply q2 | apply q3) | exact HB.out))) : w.heap.size ≤ gb348)); have n3_ := qg ((by rw [hg]; exact (qa (by repeat (first | (with_reducible first | exact HB.out | apply q1 | apply q2 | apply q3) | exact HB.out))) : w.heap.size ≤ gb348)); clear HB; have HB := n0_; have BK348 := n1_; have GW348 := n2_; have GE348 := n3_; clear n0_ n1_ n2_ n3_; clear hb hbox hg; have hcz395_0 : w394.cell? ⟨gb348, 0, none⟩ = some (.int .i64 0) := (qc BK348.out 0).trans rfl; have hcz395_1 : w394.cell? ⟨gb348, 1, none⟩ = some (.int .i64 0) := (qc BK348.out 1).trans rfl; have hcz395_2 : w394.cell? ⟨gb348, 2, none⟩ = some (.int .i64 0) := (qc BK348.out 2).trans rfl; have hcz395_3 : w394.cell? ⟨gb348, 3, none⟩ = some (.int .i64 0) := (qc BK348.out 3).trans rfl; have hcz395_4 : w394.cell? ⟨gb348, 4, none⟩ = some (.int .i64 0) := (qc BK348.out 4).trans rfl; have hfz395_0 := qb BK348.out 0; have hfz395_1 := qb BK348.out 1; have hfz395_2 := qb BK348.out 2; have hfz395_3 := qb BK348.out 3; have hfz395_4 := qb BK348.out 4) | ((with_reducible refine qt (f := 58) rfl ?_); refine goesL_ (some 26) rfl rfl Try.func58 (by kernel_rfl) rfl #[.slice A0 l0.length c0] rfl (by (try simp only [List.map_toArray, List.map_cons, List.map_nil]); first | done | rfl | (simp only [List.length_drop, List.length_take]; rfl)) ?_; (with_reducible refine (spec_DrawShiftJet.calls k _ _ l0 t349 t350 t351 t352 t353 t354 t355 _ ?side1 ?side2 A5.out).mono ?_); (case side1 => exact qn HR0.out (by repeat (first | (with_reducible first | exact HB.out | apply q1 | apply q2 | apply q3 | refine q4 ?_ GE348.out) | exact HB.out))); (case side2 => exact HC0.out); rintro e w396 ⟨rfl, hb⟩; refine ⟨_, rfl, ?_⟩; have n0_ := qg (q8 (g := gb348) (o := .cells #[.int .i64 t342, .int .i64 t343, .int .i64 t344, .int .i64 t345, .int .i64 t346] 28 (0, 0)) (by (with_reducible repeat (first | refine q5 ?_ _ | refine q6 ?_ | refine q7 ?_ _)); refine qf (cs := #[.int .i64 t342, .int .i64 t343, .int .i64 t344, .int .i64 t345, .int .i64 0]) ?_ 4 _ rfl; (with_reducible repeat (first | refine q5 ?_ _ | refine q6 ?_ | refine q7 ?_ _)); refine qf (cs := #[.int .i64 t342, .int .i64 t343, .int .i64 t344, .int .i64 0, .int .i64 0]) ?_ 3 _ rfl; (with_reducible repeat (first | refine q5 ?_ _ | refine q6 ?_ | refine q7 ?_ _)); refine qf (cs := #[.int .i64 t342, .int .i64 t343, .int .i64 0, .int .i64 0, .int .i64 0]) ?_ 2 _ rfl; (with_reducible repeat (first | refine q5 ?_ _ | refine q6 ?_ | refine q7 ?_ _)); refine qf (cs := #[.int .i64 t342, .int .i64 0, .int .i64 0, .int .i64 0, .int .i64 0]) ?_ 1 _ rfl; (with_reducible repeat (first | refine q5 ?_ _ | refine q6 ?_ | refine q7 ?_ _)); refine qf (cs := #[.int .i64 0, .int .i64 0, .int .i64 0, .int .i64 0, .int .i64 0]) ?_ 0 _ rfl; (with_reducible repeat (first | refine q5 ?_ _ | refine q6 ?_ | refine q7 ?_ _)); exact BK348.out) hb); have n1_ := qg (q9 (by repeat (first | (with_reducible first | exact HB.out | apply q1 | apply q2 | apply q3 | refine q4 ?_ GE348.out) | exact HB.out)) hb); clear BK348; clear HB; have BK348 := n0_; have HB := n1_; clear n0_ n1_; (try clear hb); (try clear hb2); (try clear hk); (try clear hi)) | ((with_reducible refine qu (N := 5) rfl ?_); refine qh ?hg (N := 5) ?hd (cs := #[.int .i64 0, .int .i64 0, .int .i64 0, .int .i64 0, .int .i64 0]) (t := 28) ?hr ?_; (case hd => rfl); (case hg => rfl); (case hr => first | (go_simp; done) | (go_simp; rfl)); intro gb356 hg w397 hbox hb; have n0_ := qg (q8 (g := gb348) (o := .cells #[.int .i64 t342, .int .i64 t343, .int .i64 t344, .int .i64 t345, .int .i64 t346] 28 (0, 0)) (by (with_reducible repeat (first | refine q5 ?_ _ | refine q6 ?_ | refine q7 ?_ _)); exact BK348.out) hb); have n1_ := qg (q9 (by repeat (first | (with_reducible first | exact HB.out | apply q1 | apply q2 | apply q3 | refine q4 ?_ GE348.out) | exact HB.out)) hb); have n2_ := qg (hbox); have n3_ := qg ((by rw [hg]; exact (qa (by repeat (first | (with_reducible first | exact HB.out | apply q1 | apply q2 | apply q3 | refine q4 ?_ GE348.out) | exact HB.out))) : w.heap.size ≤ gb356)); have n4_ := qg ((by rw [hg]; exact (qa (by repeat (first | (with_reducible first | exact HB.out | apply q1 | apply q2 | apply q3 | refine q4 ?_ GE348.out) | exact HB.out))) : w.heap.size ≤ gb356)); have n5_ := qg ((by rw [hg]; exact qv (qd (g := gb348) (o := .cells #[.int .i64 t342, .int .i64 t343, .int .i64 t344, .int .i64 t345, .int .i64 t346] 28 (0, 0)) (by (with_reducible repeat (first | refine q5 ?_ _ | refine q6 ?_ | refine q7 ?_ _)); exact BK348.out)) : gb348 ≠ gb356)); have n6_ := qg ((by rw [hg]; exact qw (qd (g := gb348) (o := .cells #[.int .i64 t342, .int .i64 t343, .int .i64 t344, .int .i64 t345, .int .i64 t346] 28 (0, 0)) (by (with_reducible repeat (first | refine q5 ?_ _ | refine q6 ?_ | refine q7 ?_ _)); exact BK348.out)) : gb356 ≠ gb348)); clear BK348; clear HB; have BK348 := n0_; have HB := n1_; have BK356 := n2_; have GW356 := n3_; have GE356 := n4_; have NB348_356 := n5_; have NB356_348 := n6_; clear n0_ n1_ n2_ n3_ n4_ n5_ n6_; clear hb hbox hg) | ((with_reducible refine qu (N := 6) rfl ?_); refine qh ?hg (N := 6) ?hd (cs := #[.int .i64 0, .int .i64 0]) (t := 26) ?hr ?_; (case hd => rfl); (case hg => rfl); (case hr => first | (go_simp; done) | (go_simp; rfl)); intro gb357 hg w398 hbox hb; have n0_ := qg (q8 (g := gb348) (o := .cells #[.int .i64 t342, .int .i64 t343, .int .i64 t344, .int .i64 t345, .int .i64 t346] 28 (0, 0)) (by (with_reducible repeat (first | refine q5 ?_ _ | refine q6 ?_ | refine q7 ?_ _)); exact BK348.out) hb); have n1_ := qg (q8 (g := gb356) (o := .cells #[.int .i64 0, .int .i64 0, .int .i64 0, .int .i64 0, .int .i64 0] 28 (0, 0)) (by (with_reducible repeat (first | refine q5 ?_ _ | refine q6 ?_ | refine q7 ?_ _)); exact BK356.out) hb); have n2_ := qg (q9 (by repeat (first | (with_reducible first | exact HB.out | apply q1 | apply q2 | apply q3 | refine q4 ?_ GE348.out | refine q4 ?_ GE356.out) | exact HB.out)) hb); have n3_ := qg (hbox); have n4_ := qg ((by rw [hg]; exact (qa (by repeat (first | (with_reducible first | exact HB.out | apply q1 | apply q2 | apply q3 | refine q4 ?_ GE348.out | refine q4 ?_ GE356.out) | exact HB.out))) : w.heap.size ≤ gb357)); have n5_ := qg ((by rw [hg]; exact (qa (by repeat (first | (with_reducible first | exact HB.out | apply q1 | apply q2 | apply q3 | refine q4 ?_ GE348.out | refine q4 ?_ GE356.out) | exact HB.out))) : w.heap.size ≤ gb357)); have n6_ := qg ((by rw [hg]; exact qv (qd (g := gb348) (o := .cells #[.int .i64 t342, .int .i64 t343, .int .i64 t344, .int .i64 t345, .int .i64 t346] 28 (0, 0)) (by (with_reducible repeat (first | refine q5 ?_ _ | refine q6 ?_ | refine q7 ?_ _)); exact BK348.out)) : gb348 ≠ gb357)); have n7_ := qg ((by rw [hg]; exact qw (qd (g := gb348) (o := .cells #[.int .i64 t342, .int .i64 t343, .int .i64 t344, .int .i64 t345, .int .i64 t346] 28 (0, 0)) (by (with_reducible repeat (first | refine q5 ?_ _ | refine q6 ?_ | refine q7 ?_ _)); exact BK348.out)) : gb357 ≠ gb348)); have n8_ := qg ((by rw [hg]; exact qv (qd (g := gb356) (o := .cells #[.int .i64 0, .int .i64 0, .int .i64 0, .int .i64 0, .int .i64 0] 28 (0, 0)) (by (with_reducible repeat (first | refine q5 ?_ _ | refine q6 ?_ | refine q7 ?_ _)); exact BK356.out)) : gb356 ≠ gb357)); have n9_ := qg ((by rw [hg]; exact qw (qd (g := gb356) (o := .cells #[.int .i64 0, .int .i64 0, .int .i64 0, .int .i64 0, .int .i64 0] 28 (0, 0)) (by (with_reducible repeat (first | refine q5 ?_ _ | refine q6 ?_ | refine q7 ?_ _)); exact BK356.out)) : gb357 ≠ gb356)); clear BK348; clear BK356; clear HB; have BK348 := n0_; have BK356 := n1_; have HB := n2_; have BK357 := n3_; have GW357 := n4_; have GE357 := n5_; have NB348_357 := n6_; have NB357_348 := n7_; have NB356_357 := n8_; have NB357_356 := n9_; clear n0_ n1_ n2_ n3_ n4_ n5_ n6_ n7_ n8_ n9_; clear hb hbox hg; have hnb399 := NB356_348.out; have hnc399 := NB348_356.out; have hnb400 := NB356_357.out; have hnc400 := NB357_356.out; have hcz401_0 : w398.cell? ⟨gb356, 0, none⟩ = some (.int .i64 0) := (qc BK356.out 0).trans rfl; have hcz401_1 : w398.cell? ⟨gb356, 1, none⟩ = some (.int .i64 0) := (qc BK356.out 1).trans rfl; have hcz401_2 : w398.cell? ⟨gb356, 2, none⟩ = some (.int .i64 0) := (qc BK356.out 2).trans rfl; have hcz401_3 : w398.cell? ⟨gb356, 3, none⟩ = some (.int .i64 0) := (qc BK356.out 3).trans rfl; have hcz401_4 : w398.cell? ⟨gb356, 4, none⟩ = some (.int .i64 0) := (qc BK356.out 4).trans rfl; have hfz401_0 := qb BK356.out 0; have hfz401_1 := qb BK356.out 1; have hfz401_2 := qb BK356.out 2; have hfz401_3 := qb BK356.out 3; have hfz401_4 := qb BK356.out 4; have hnb402 := NB357_348.out; have hnc402 := NB348_357.out; have hcz403_0 : w398.cell? ⟨gb357, 0, none⟩ = some (.int .i64 0) := (qc BK357.out 0).trans rfl; have hcz403_1 : w398.cell? ⟨gb357, 1, none⟩ = some (.int .i64 0) := (qc BK357.out 1).trans rfl; have hfz403_0 := qb BK357.out 0; have hfz403_1 := qb BK357.out 1))
    have n0_ : Aside0 ((((((((w398.setCell ⟨gb356, 0, none⟩ (.int .i64 t349)).setCell ⟨gb356, 1, none⟩ (.int .i64 t350)).setCell ⟨gb356, 2, none⟩ (.int .i64 t351)).setCell ⟨gb356, 3, none⟩ (.int .i64 t352)).setCell ⟨gb356, 4, none⟩ (.int .i64 t353)).setCell ⟨gb357, 0, none⟩ (.int .i64 t354)).setCell ⟨gb357, 1, none⟩ (.int .i64 t355)).heap[gb348]? = some (.cells #[.int .i64 t342, .int .i64 t343, .int .i64 t344, .int .i64 t345, .int .i64 t346] 28 (0, 0))) := ⟨by (with_reducible repeat (first | refine q5 ?_ _ | refine q6 ?_ | refine q7 ?_ _)); refine qe ?_ NB348_357.out _; (with_reducible repeat (first | refine q5 ?_ _ | refine q6 ?_ | refine q7 ?_ _)); refine qe ?_ NB348_357.out _; (with_reducible repeat (first | refine q5 ?_ _ | refine q6 ?_ | refine q7 ?_ _)); refine qe ?_ NB348_356.out _; (with_reducible repeat (first | refine q5 ?_ _ | refine q6 ?_ | refine q7 ?_ _)); refine qe ?_ NB348_356.out _; (with_reducible repeat (first | refine q5 ?_ _ | refine q6 ?_ | refine q7 ?_ _)); refine qe ?_ NB348_356.out _; (with_reducible repeat (first | refine q5 ?_ _ | refine q6 ?_ | refine q7 ?_ _)); refine qe ?_ NB348_356.out _; (with_reducible repeat (first | refine q5 ?_ _ | refine q6 ?_ | refine q7 ?_ _)); refine qe ?_ NB348_356.out _; (with_reducible repeat (first | refine q5 ?_ _ | refine q6 ?_ | refine q7 ?_ _)); exact BK348.out⟩
    have n1_ : Aside0 ((((((((w398.setCell ⟨gb356, 0, none⟩ (.int .i64 t349)).setCell ⟨gb356, 1, none⟩ (.int .i64 t350)).setCell ⟨gb356, 2, none⟩ (.int .i64 t351)).setCell ⟨gb356, 3, none⟩ (.int .i64 t352)).setCell ⟨gb356, 4, none⟩ (.int .i64 t353)).setCell ⟨gb357, 0, none⟩ (.int .i64 t354)).setCell ⟨gb357, 1, none⟩ (.int .i64 t355)).heap[gb356]? = some (.cells #[.int .i64 t349, .int .i64 t350, .int .i64 t351, .int .i64 t352, .int .i64 t353] 28 (0, 0))) := ⟨by (with_reducible repeat (first | refine q5 ?_ _ | refine q6 ?_ | refine q7 ?_ _)); refine qe ?_ NB356_357.out _; (with_reducible repeat (first | refine q5 ?_ _ | refine q6 ?_ | refine q7 ?_ _)); refine qe ?_ NB356_357.out _; (with_reducible repeat (first | refine q5 ?_ _ | refine q6 ?_ | refine q7 ?_ _)); refine qf (cs := #[.int .i64 t349, .int .i64 t350, .int .i64 t351, .int .i64 t352, .int .i64 0]) ?_ 4 _ rfl; (with_reducible repeat (first | refine q5 ?_ _ | refine q6 ?_ | refine q7 ?_ _)); refine qf (cs := #[.int .i64 t349, .int .i64 t350, .int .i64 t351, .int .i64 0, .int .i64 0]) ?_ 3 _ rfl; (with_reducible repeat (first | refine q5 ?_ _ | refine q6 ?_ | refine q7 ?_ _)); refine qf (cs := #[.int .i64 t349, .int .i64 t350, .int .i64 0, .int .i64 0, .int .i64 0]) ?_ 2 _ rfl; (with_reducible repeat (first | refine q5 ?_ _ | refine q6 ?_ | refine q7 ?_ _)); refine qf (cs := #[.int .i64 t349, .int .i64 0, .int .i64 0, .int .i64 0, .int .i64 0]) ?_ 1 _ rfl; (with_reducible repeat (first | refine q5 ?_ _ | refine q6 ?_ | refine q7 ?_ _)); refine qf (cs := #[.int .i64 0, .int .i64 0, .int .i64 0, .int .i64 0, .int .i64 0]) ?_ 0 _ rfl; (with_reducible repeat (first | refine q5 ?_ _ | refine q6 ?_ | refine q7 ?_ _)); exact BK356.out⟩
    have n2_ : Aside0 ((((((((w398.setCell ⟨gb356, 0, none⟩ (.int .i64 t349)).setCell ⟨gb356, 1, none⟩ (.int .i64 t350)).setCell ⟨gb356, 2, none⟩ (.int .i64 t351)).setCell ⟨gb356, 3, none⟩ (.int .i64 t352)).setCell ⟨gb356, 4, none⟩ (.int .i64 t353)).setCell ⟨gb357, 0, none⟩ (.int .i64 t354)).setCell ⟨gb357, 1, none⟩ (.int .i64 t355)).heap[gb357]? = some (.cells #[.int .i64 t354, .int .i64 t355] 26 (0, 0))) := ⟨by (with_reducible repeat (first | refine q5 ?_ _ | refine q6 ?_ | refine q7 ?_ _)); refine qf (cs := #[.int .i64 t354, .int .i64 0]) ?_ 1 _ rfl; (with_reducible repeat (first | refine q5 ?_ _ | refine q6 ?_ | refine q7 ?_ _)); refine qf (cs := #[.int .i64 0, .int .i64 0]) ?_ 0 _ rfl; (with_reducible repeat (first | refine q5 ?_ _ | refine q6 ?_ | refine q7 ?_ _)); refine qe ?_ NB357_356.out _; (with_reducible repeat (first | refine q5 ?_ _ | refine q6 ?_ | refine q7 ?_ _)); refine qe ?_ NB357_356.out _; (with_reducible repeat (first | refine q5 ?_ _ | refine q6 ?_ | refine q7 ?_ _)); refine qe ?_ NB357_356.out _; (with_reducible repeat (first | refine q5 ?_ _ | refine q6 ?_ | refine q7 ?_ _)); refine qe ?_ NB357_356.out _; (with_reducible repeat (first | refine q5 ?_ _ | refine q6 ?_ | refine q7 ?_ _)); refine qe ?_ NB357_356.out _; (with_reducible repeat (first | refine q5 ?_ _ | refine q6 ?_ | refine q7 ?_ _)); exact BK357.out⟩
    have n3_ : Aside0 (Below w.heap.size w (((((((w398.setCell ⟨gb356, 0, none⟩ (.int .i64 t349)).setCell ⟨gb356, 1, none⟩ (.int .i64 t350)).setCell ⟨gb356, 2, none⟩ (.int .i64 t351)).setCell ⟨gb356, 3, none⟩ (.int .i64 t352)).setCell ⟨gb356, 4, none⟩ (.int .i64 t353)).setCell ⟨gb357, 0, none⟩ (.int .i64 t354)).setCell ⟨gb357, 1, none⟩ (.int .i64 t355))) := ⟨by repeat (first | (with_reducible first | exact HB.out | apply q1 | apply q2 | apply q3 | refine q4 ?_ GE348.out | refine q4 ?_ GE356.out | refine q4 ?_ GE357.out) | exact HB.out)⟩
    (try clear BK348)
    (try clear BK356)
    (try clear BK357)
    (try clear HB)
    generalize (((((((w398.setCell ⟨gb356, 0, none⟩ (.int .i64 t349)).setCell ⟨gb356, 1, none⟩ (.int .i64 t350)).setCell ⟨gb356, 2, none⟩ (.int .i64 t351)).setCell ⟨gb356, 3, none⟩ (.int .i64 t352)).setCell ⟨gb356, 4, none⟩ (.int .i64 t353)).setCell ⟨gb357, 0, none⟩ (.int .i64 t354)).setCell ⟨gb357, 1, none⟩ (.int .i64 t355)) = w404 at n0_ n1_ n2_ n3_ ⊢
    have BK348 := n0_
    have BK356 := n1_
    have BK357 := n2_
    have HB := n3_
    clear n0_ n1_ n2_ n3_
    have n0_ := qg (q6 BK348.out)
    have n1_ := qg (q6 BK356.out)
    have n2_ := qg (q6 BK357.out)
    have n3_ := qg (q3 HB.out)
    clear BK348
    clear BK356
    clear BK357
    clear HB
    have BK348 := n0_
    have BK356 := n1_
    have BK357 := n2_
    have HB := n3_
    clear n0_ n1_ n2_ n3_
    refine start_ (n := 5) (S := fun w' => w'.cell? ⟨gb348, 0, none⟩ = some (.int .i64 t342) ∧ w'.cell? ⟨gb348, 1, none⟩ = some (.int .i64 t343) ∧ w'.cell? ⟨gb348, 2, none⟩ = some (.int .i64 t344) ∧ w'.cell? ⟨gb348, 3, none⟩ = some (.int .i64 t345) ∧ w'.cell? ⟨gb348, 4, none⟩ = some (.int .i64 t346)) (ds := []) #[false, false, false, false, false] (by kernel_rfl) rfl rfl ⟨(qc BK348.out 0).trans rfl, (qc BK348.out 1).trans rfl, (qc BK348.out 2).trans rfl, (qc BK348.out 3).trans rfl, (qc BK348.out 4).trans rfl⟩ (fun hHeld => ?_)
    generalize w404.drew = w405 at BK348 BK356 BK357 HB hHeld ⊢
    refine take_ (i := 0) (N := some 29) (v := ?_) (a' := ?_) #[true, false, false, false, false] rfl rfl (by kernel_rfl) (fun _ _ _ h => h) (Or.inl ⟨by rfl, ?_⟩) hHeld ?_ ?_
    rotate_left
    ·rintro w' ⟨s0, s1, s2, s3, s4⟩
     go_simp
     with_reducible rfl
    rotate_left
    ·simp only [Act.put, p1, p2, p3, i64_w, i32_w]
     rfl
    refine take_ (i := 2) (N := some 31) (v := ?_) (a' := ?_) #[true, false, true, false, false] rfl rfl (by kernel_rfl) (fun _ _ _ h => h) (Or.inl ⟨by rfl, ?_⟩) hHeld ?_ ?_
    rotate_left
    ·rintro w' ⟨s0, s1, s2, s3, s4⟩
     go_simp
     with_reducible rfl
    rotate_left
    ·simp only [Act.put, p1, p2, p3, i64_w, i32_w]
     rfl
    refine one_ (i := 1) (N := some 30) #[true, true, true, false, false] rfl rfl (by kernel_rfl) (by decide) (fun K hK => ?_)
    refine goes_ Try.func54 (by kernel_rfl) rfl #[.agg #[.int .i64 t342, .int .i64 t343, .int .i64 t344, .int .i64 t345, .int .i64 t346]] (by rfl) rfl rfl (by (try simp only [List.map_toArray, List.map_cons, List.map_nil]); first | done | rfl | (simp only [List.length_drop, List.length_take]; rfl)) ?_
    with_reducible refine (impl_IsJet.calls t342 t343 t344 t345 t346 t358 _ A6.out).mono ?_
    rintro e w406 ⟨rfl, hb⟩
    refine ⟨_, rfl, ?_⟩
    have n0_ := qg (q8 (g := gb348) (o := .cells #[.int .i64 t342, .int .i64 t343, .int .i64 t344, .int .i64 t345, .int .i64 t346] 28 (0, 0)) (by (with_reducible repeat (first | refine q5 ?_ _ | refine q6 ?_ | refine q7 ?_ _)); exact BK348.out) hb)
    have n1_ := qg (q8 (g := gb356) (o := .cells #[.int .i64 t349, .int .i64 t350, .int .i64 t351, .int .i64 t352, .int .i64 t353] 28 (0, 0)) (by (with_reducible repeat (first | refine q5 ?_ _ | refine q6 ?_ | refine q7 ?_ _)); exact BK356.out) hb)
    have n2_ := qg (q8 (g := gb357) (o := .cells #[.int .i64 t354, .int .i64 t355] 26 (0, 0)) (by (with_reducible repeat (first | refine q5 ?_ _ | refine q6 ?_ | refine q7 ?_ _)); exact BK357.out) hb)
    have n3_ := qg (q9 (by repeat (first | (with_reducible first | exact HB.out | apply q1 | apply q2 | apply q3 | refine q4 ?_ GE348.out | refine q4 ?_ GE356.out | refine q4 ?_ GE357.out) | exact HB.out)) hb)
    clear BK348
    clear BK356
    clear BK357
    clear HB
    have BK348 := n0_
    have BK356 := n1_
    have BK357 := n2_
    have HB := n3_
    clear n0_ n1_ n2_ n3_
    (try clear hb)
    (try clear hb2)
    (try clear hk)
    (try clear hi)
    refine hK.out _ _ ⟨(qc BK348.out 0).trans rfl, (qc BK348.out 1).trans rfl, (qc BK348.out 2).trans rfl, (qc BK348.out 3).trans rfl, (qc BK348.out 4).trans rfl⟩ (fun hHeld => ?_)
    clear hK K
    refine norm_ (a' := ?_) ?_ ?_
    rotate_left
    ·show Act.put _ (some 30) _ = _
     simp only [Act.put, p1, p2, p3, i64_w, i32_w]
     rfl
    refine one_ (i := 3) (N := some 32) #[true, true, true, true, false] rfl rfl (by kernel_rfl) (by decide) (fun K hK => ?_)
    refine goes_ Try.func55 (by kernel_rfl) rfl #[.agg #[.int .i64 t342, .int .i64 t343, .int .i64 t344, .int .i64 t345, .int .i64 t346]] (by rfl) rfl rfl (by (try simp only [List.map_toArray, List.map_cons, List.map_nil]); first | done | rfl | (simp only [List.length_drop, List.length_take]; rfl)) ?_
    with_reducible refine (spec_IsJet.calls t342 t343 t344 t345 t346 t359 _ A7.out).mono ?_
    rintro e w407 ⟨rfl, hb⟩
    refine ⟨_, rfl, ?_⟩
    have n0_ := qg (q8 (g := gb348) (o := .cells #[.int .i64 t342, .int .i64 t343, .int .i64 t344, .int .i64 t345, .int .i64 t346] 28 (0, 0)) (by (with_reducible repeat (first | refine q5 ?_ _ | refine q6 ?_ | refine q7 ?_ _)); exact BK348.out) hb)
    have n1_ := qg (q8 (g := gb356) (o := .cells #[.int .i64 t349, .int .i64 t350, .int .i64 t351, .int .i64 t352, .int .i64 t353] 28 (0, 0)) (by (with_reducible repeat (first | refine q5 ?_ _ | refine q6 ?_ | refine q7 ?_ _)); exact BK356.out) hb)
    have n2_ := qg (q8 (g := gb357) (o := .cells #[.int .i64 t354, .int .i64 t355] 26 (0, 0)) (by (with_reducible repeat (first | refine q5 ?_ _ | refine q6 ?_ | refine q7 ?_ _)); exact BK357.out) hb)
    have n3_ := qg (q9 (by repeat (first | (with_reducible first | exact HB.out | apply q1 | apply q2 | apply q3 | refine q4 ?_ GE348.out | refine q4 ?_ GE356.out | refine q4 ?_ GE357.out) | exact HB.out)) hb)
    clear BK348
    clear BK356
    clear BK357
    clear HB
    have BK348 := n0_
    have BK356 := n1_
    have BK357 := n2_
    have HB := n3_
    clear n0_ n1_ n2_ n3_
    (try clear hb)
    (try clear hb2)
    (try clear hk)
    (try clear hi)
    refine hK.out _ _ ⟨(qc BK348.out 0).trans rfl, (qc BK348.out 1).trans rfl, (qc BK348.out 2).trans rfl, (qc BK348.out 3).trans rfl, (qc BK348.out 4).trans rfl⟩ (fun hHeld => ?_)
    clear hK K
    refine norm_ (a' := ?_) ?_ ?_
    rotate_left
    ·show Act.put _ (some 32) _ = _
     simp only [Act.put, p1, p2, p3, i64_w, i32_w]
     rfl
    refine pure_ (i := 4) (N := some 33) (v := ?_) (a' := ?_) #[true, true, true, true, true] rfl rfl (by kernel_rfl) (fun _ _ _ h => h) (Or.inl ⟨by rfl, ?_⟩) ?_ ?_
    rotate_left
    ·intro w'
     go_simp
     with_reducible rfl
    rotate_left
    ·simp only [Act.put, p1, p2, p3, i64_w, i32_w]
     rfl
    refine done_ (by kernel_rfl) ?_
    have hcz408_0 : w407.cell? ⟨gb348, 0, none⟩ = some (.int .i64 t342) := (qc BK348.out 0).trans rfl
    have hcz408_1 : w407.cell? ⟨gb348, 1, none⟩ = some (.int .i64 t343) := (qc BK348.out 1).trans rfl
    have hcz408_2 : w407.cell? ⟨gb348, 2, none⟩ = some (.int .i64 t344) := (qc BK348.out 2).trans rfl
    have hcz408_3 : w407.cell? ⟨gb348, 3, none⟩ = some (.int .i64 t345) := (qc BK348.out 3).trans rfl
    have hcz408_4 : w407.cell? ⟨gb348, 4, none⟩ = some (.int .i64 t346) := (qc BK348.out 4).trans rfl
    have hfz408_0 := qb BK348.out 0
    have hfz408_1 := qb BK348.out 1
    have hfz408_2 := qb BK348.out 2
    have hfz408_3 := qb BK348.out 3
    have hfz408_4 := qb BK348.out 4
    try go_wp2_with (first | ((with_reducible refine qt (f := 54) rfl ?_); refine goesL_ (some 35) rfl rfl Try.func54 (by kernel_rfl) rfl #[.agg #[.int .i64 t342, .int .i64 t343, .int .i64 t344, .int .i64 t345, .int .i64 t346]] rfl (by (try simp only [List.map_toArray, List.map_cons, List.map_nil]); first | done | rfl | (simp only [List.length_drop, List.length_take]; rfl)) ?_; (with_reducible refine (impl_IsJet.calls t342 t343 t344 t345 t346 false _ A24.out).mono ?_); rintro e w409 ⟨rfl, hb⟩; refine ⟨_, rfl, ?_⟩; have n0_ := qg (q8 (g := gb348) (o := .cells #[.int .i64 t342, .int .i64 t343, .int .i64 t344, .int .i64 t345, .int .i64 t346] 28 (0, 0)) (by (with_reducible repeat (first | refine q5 ?_ _ | refine q6 ?_ | refine q7 ?_ _)); exact BK348.out) hb); have n1_ := qg (q8 (g := gb356) (o := .cells #[.int .i64 t349, .int .i64 t350, .int .i64 t351, .int .i64 t352, .int .i64 t353] 28 (0, 0)) (by (with_reducible repeat (first | refine q5 ?_ _ | refine q6 ?_ | refine q7 ?_ _)); exact BK356.out) hb); have n2_ := qg (q8 (g := gb357) (o := .cells #[.int .i64 t354, .int .i64 t355] 26 (0, 0)) (by (with_reducible repeat (first | refine q5 ?_ _ | refine q6 ?_ | refine q7 ?_ _)); exact BK357.out) hb); have n3_ := qg (q9 (by repeat (first | (with_reducible first | exact HB.out | apply q1 | apply q2 | apply q3 | refine q4 ?_ GE348.out | refine q4 ?_ GE356.out | refine q4 ?_ GE357.out) | exact HB.out)) hb); clear BK348; clear BK356; clear BK357; clear HB; have BK348 := n0_; have BK356 := n1_; have BK357 := n2_; have HB := n3_; clear n0_ n1_ n2_ n3_; (try clear hb); (try clear hb2); (try clear hk); (try clear hi); have hcz410_0 : w409.cell? ⟨gb348, 0, none⟩ = some (.int .i64 t342) := (qc BK348.out 0).trans rfl; have hcz410_1 : w409.cell? ⟨gb348, 1, none⟩ = some (.int .i64 t343) := (qc BK348.out 1).trans rfl; have hcz410_2 : w409.cell? ⟨gb348, 2, none⟩ = some (.int .i64 t344) := (qc BK348.out 2).trans rfl; have hcz410_3 : w409.cell? ⟨gb348, 3, none⟩ = some (.int .i64 t345) := (qc BK348.out 3).trans rfl; have hcz410_4 : w409.cell? ⟨gb348, 4, none⟩ = some (.int .i64 t346) := (qc BK348.out 4).trans rfl; have hfz410_0 := qb BK348.out 0; have hfz410_1 := qb BK348.out 1; have hfz410_2 := qb BK348.out 2; have hfz410_3 := qb BK348.out 3; have hfz410_4 := qb BK348.out 4) | ((with_reducible refine qt (f := 17) rfl ?_); refine goesL_ (some 39) rfl rfl Try.func17 (by kernel_rfl) rfl #[.agg #[.int .i64 t342, .int .i64 t343, .int .i64 t344, .int .i64 t345, .int .i64 t346], .int .i64 t347] rfl (by (try simp only [List.map_toArray, List.map_cons, List.map_nil]); first | done | rfl | (simp only [List.length_drop, List.length_take]; rfl)) ?_; (with_reducible refine (impl_TurnJet.calls k t342 t343 t344 t345 t346 t347 t361 t362 t363 t364 t365 _ A392.out).mono ?_); rintro e w411 ⟨rfl, hb⟩; refine ⟨_, rfl, ?_⟩; have n0_ := qg (q8 (g := gb348) (o := .cells #[.int .i64 t342, .int .i64 t343, .int .i64 t344, .int .i64 t345, .int .i64 t346] 28 (0, 0)) (by (with_reducible repeat (first | refine q5 ?_ _ | refine q6 ?_ | refine q7 ?_ _)); exact BK348.out) hb); have n1_ := qg (q8 (g := gb356) (o := .cells #[.int .i64 t349, .int .i64 t350, .int .i64 t351, .int .i64 t352, .int .i64 t353] 28 (0, 0)) (by (with_reducible repeat (first | refine q5 ?_ _ | refine q6 ?_ | refine q7 ?_ _)); exact BK356.out) hb); have n2_ := qg (q8 (g := gb357) (o := .cells #[.int .i64 t354, .int .i64 t355] 26 (0, 0)) (by (with_reducible repeat (first | refine q5 ?_ _ | refine q6 ?_ | refine q7 ?_ _)); exact BK357.out) hb); have n3_ := qg (q9 (by repeat (first | (with_reducible first | exact HB.out | apply q1 | apply q2 | apply q3 | refine q4 ?_ GE348.out | refine q4 ?_ GE356.out | refine q4 ?_ GE357.out) | exact HB.out)) hb); clear BK348; clear BK356; clear BK357; clear HB; have BK348 := n0_; have BK356 := n1_; have BK357 := n2_; have HB := n3_; clear n0_ n1_ n2_ n3_; (try clear hb); (try clear hb2); (try clear hk); (try clear hi)))
    go_ret
    exact ⟨by first | rfl | (simp [errW_none, errW_some] <;> rfl) | (simp [*, errW_none, errW_some] <;> rfl), by repeat (first | (with_reducible first | exact HB.out | apply q1 | apply q2 | apply q3 | refine q4 ?_ GE348.out | refine q4 ?_ GE356.out | refine q4 ?_ GE357.out) | exact HB.out)⟩

/-- THE ONE PURE STATEMENT of laws_FnMovedJet: yours. -/
def laws_FnMovedJet.Pure : Prop := ∀ (l0 : List Int), l0.length ≤ maxLen → l0.length * 1 ≤ 140737488351232 → (∀ x ∈ l0, (Lit.int .u8 x).wf = true) → ∃ k, laws_FnMovedJet.f k l0 = some true
theorem laws_FnMovedJet.walk (P : laws_FnMovedJet.Pure) (a0 : Option Addr) (len0 cap0 : Nat) (z0 : List Int) (w : World) (w0 : (a0 = none ∧ len0 = 0 ∧ cap0 = 0 ∧ z0 = []) ∨ ∃ x, a0 = some x ∧ len0 ≤ cap0 ∧ cap0 ≤ maxLen ∧ z0.length = cap0 ∧ (∀ i, i < z0.length → w.cell? (x.add i) = some (.int .u8 (z0.getD i 0))) ∧ ∀ n ∈ z0, (Lit.int .u8 n).wf = true) (y0 : len0 * 1 ≤ 140737488351232) :
 Calls Try.prog 14 #[.slice a0 len0 cap0] w fun e w' => e = .returned (.bool true) ∧ Below w.heap.size w w' := by
 obtain ⟨l0, rfl, hr0, hm0, hw0, hc0⟩ := ReadsInt.ofRowC w0
 obtain ⟨k, h⟩ := P l0 hm0 y0 hw0
 refine (laws_FnMovedJet.calls k _ _ l0 true w (Kd.C_of_reads (d := (0 : Int)) (h1 := fun _ => rfl) hr0) hc0 h rfl).mono ?_
 rintro e w' ⟨rfl, hd⟩
 exact ⟨rfl, hd⟩

end Go.Proofs.Ytlmgokicanlcpaa.PFnMovedJet
