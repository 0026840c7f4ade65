/- The walk of the law FnBoxes at the answer true: where its plain function answers true, the Go function returns true and leaves what was there. No condition beside. By program out of the print. -/
import Derived.Test.YtkioodeeadhdaaaPFnBoxesx
namespace Go.Proofs.Ytkioodeeadhdaaa.PFnBoxes
open Go.RowKit Go.Proofs.YtkioodeeadhdaaaW.PrintWords Go.Proofs.YtkioodeeadhdaaaW.PrintLast Go.Proofs.YtkioodeeadhdaaaW.PrintMore
attribute [local go_sem] max2_int min2_int max_two min_two max_three min_three max_four min_four   -- for this text's walks alone
set_option linter.unusedVariables false
set_option linter.unusedSimpArgs false

mutual
def laws_FnBoxes.l0 : Nat → List Int → List (S25) → Bool → Bool → Int → Int → Int → Int → Int → Option (Bool)
  | 0, _, _, _, _, _, _, _, _, _ => none
  | k + 1, x0, x3, x5, x6, x7, x331000, x331001, x331002, x331003 => if x7 < (x3.length : Int) then (if x6 = true then (if 0 ≤ x7 then ((impl_IsPlace.f ((rd_T25 x3 x7).f0) ((rd_T25 x3 x7).f1)).bind fun t383 => (laws_FnBoxes.l0 k x0 x3 x5 t383 (wrap64 (x7 + 1)) x331000 x331001 x331002 x331003)) else (none)) else (laws_FnBoxes.l0 k x0 x3 x5 false (wrap64 (x7 + 1)) x331000 x331001 x331002 x331003)) else (if (x5 != x6) = true then (some false) else (laws_FnBoxes.l1 k x0 x3 x5 (([false, false, false, false] : List Bool)) 0 x331000 x331001 x331002 x331003))
def laws_FnBoxes.l1 : Nat → List Int → List (S25) → Bool → List Bool → Int → Int → Int → Int → Int → Option (Bool)
  | 0, _, _, _, _, _, _, _, _, _ => none
  | k + 1, x0, x3, x5, x8, x9, x331000, x331001, x331002, x331003 => if x5 = true then (laws_FnBoxes.j2 k x0 x3 x5 x8 x9 (decide (x9 < (x3.length : Int))) x331000 x331001 x331002 x331003) else (laws_FnBoxes.j2 k x0 x3 x5 x8 x9 false x331000 x331001 x331002 x331003)
def laws_FnBoxes.j2 : Nat → List Int → List (S25) → Bool → List Bool → Int → Bool → Int → Int → Int → Int → Option (Bool)
  | 0, _, _, _, _, _, _, _, _, _, _ => none
  | k + 1, x0, x3, x5, x8, x9, x50, x331000, x331001, x331002, x331003 => if x50 = true then (if 0 ≤ x9 then (if x9 < (x3.length : Int) then ((impl_InBox.f x331000 x331001 x331002 x331003 ((rd_T25 x3 x9).f0) ((rd_T25 x3 x9).f1)).bind fun t365 => (if t365 = true then (if 0 < (x8.length : Int) then (if rdOf false x8 0 = true then (laws_FnBoxes.j5 k x0 x3 x5 (x8.set (0 : Int).toNat true) x9 x331000 x331001 x331002 x331003) else (laws_FnBoxes.j5 k x0 x3 x5 (x8.set (0 : Int).toNat (((rd_T25 x3 x9).f0) == x331000)) x9 x331000 x331001 x331002 x331003)) else (none)) else (some false))) else (none)) else (none)) else (if x5 = true then (if 0 < (x8.length : Int) then (if rdOf false x8 0 = true then (if 1 < (x8.length : Int) then (if rdOf false x8 1 = true then (if 2 < (x8.length : Int) then (if rdOf false x8 2 = true then (if 3 < (x8.length : Int) then (laws_FnBoxes.j3 k x0 (!(rdOf false x8 3))) else (none)) else (laws_FnBoxes.j3 k x0 (!false))) else (none)) else (laws_FnBoxes.j3 k x0 (!false))) else (none)) else (laws_FnBoxes.j3 k x0 (!false))) else (none)) else (laws_FnBoxes.j3 k x0 false))
def laws_FnBoxes.j5 : Nat → List Int → List (S25) → Bool → List Bool → Int → Int → Int → Int → Int → Option (Bool)
  | 0, _, _, _, _, _, _, _, _, _ => none
  | k + 1, x0, x3, x5, x8, x9, x331000, x331001, x331002, x331003 => if 1 < (x8.length : Int) then (if rdOf false x8 1 = true then (laws_FnBoxes.j6 k x0 x3 x5 (x8.set (1 : Int).toNat true) x9 x331000 x331001 x331002 x331003) else (if 0 ≤ x9 then (if x9 < (x3.length : Int) then (laws_FnBoxes.j6 k x0 x3 x5 (x8.set (1 : Int).toNat (((rd_T25 x3 x9).f0) == x331002)) x9 x331000 x331001 x331002 x331003) else (none)) else (none))) else (none)
def laws_FnBoxes.j6 : Nat → List Int → List (S25) → Bool → List Bool → Int → Int → Int → Int → Int → Option (Bool)
  | 0, _, _, _, _, _, _, _, _, _ => none
  | k + 1, x0, x3, x5, x8, x9, x331000, x331001, x331002, x331003 => if 2 < (x8.length : Int) then (if rdOf false x8 2 = true then (laws_FnBoxes.j7 k x0 x3 x5 (x8.set (2 : Int).toNat true) x9 x331000 x331001 x331002 x331003) else (if 0 ≤ x9 then (if x9 < (x3.length : Int) then (laws_FnBoxes.j7 k x0 x3 x5 (x8.set (2 : Int).toNat (((rd_T25 x3 x9).f1) == x331001)) x9 x331000 x331001 x331002 x331003) else (none)) else (none))) else (none)
def laws_FnBoxes.j7 : Nat → List Int → List (S25) → Bool → List Bool → Int → Int → Int → Int → Int → Option (Bool)
  | 0, _, _, _, _, _, _, _, _, _ => none
  | k + 1, x0, x3, x5, x8, x9, x331000, x331001, x331002, x331003 => if 3 < (x8.length : Int) then (if rdOf false x8 3 = true then (laws_FnBoxes.l1 k x0 x3 x5 (x8.set (3 : Int).toNat true) (wrap64 (x9 + 1)) x331000 x331001 x331002 x331003) else (if 0 ≤ x9 then (if x9 < (x3.length : Int) then (laws_FnBoxes.l1 k x0 x3 x5 (x8.set (3 : Int).toNat (((rd_T25 x3 x9).f1) == x331003)) (wrap64 (x9 + 1)) x331000 x331001 x331002 x331003) else (none)) else (none))) else (none)
def laws_FnBoxes.j3 : Nat → List Int → Bool → Option (Bool)
  | 0, _, _ => none
  | k + 1, x0, x145 => if x145 = true then (some false) else ((spec_DrawInBox.f k x0).bind fun bt338 => ((spec_DrawTurnBox.f k x0).bind fun bt346 => ((impl_IsBox.f bt338.1 bt338.2.1 bt338.2.2.1 bt338.2.2.2.1).bind fun t352 => ((spec_IsBox.f bt338.1 bt338.2.1 bt338.2.2.1 bt338.2.2.2.1).bind fun t353 => (if (t352 != t353) = true then (some false) else ((impl_IsBox.f bt338.1 bt338.2.1 bt338.2.2.1 bt338.2.2.2.1).bind fun t354 => (if t354 = true then ((impl_IsPlace.f bt338.2.2.2.2.1 bt338.2.2.2.2.2).bind fun t355 => (if t355 = true then ((impl_TurnBox.f k bt338.1 bt338.2.1 bt338.2.2.1 bt338.2.2.2.1 bt346.2.2.2.2).bind fun bt356 => ((impl_TurnPlace.f k bt338.2.2.2.2.1 bt338.2.2.2.2.2 bt346.2.2.2.2).bind fun bt360 => ((impl_InBox.f bt356.1 bt356.2.1 bt356.2.2.1 bt356.2.2.2 bt360.1 bt360.2).bind fun t362 => ((impl_InBox.f bt338.1 bt338.2.1 bt338.2.2.1 bt338.2.2.2.1 bt338.2.2.2.2.1 bt338.2.2.2.2.2).bind fun t363 => (laws_FnBoxes.j4 k (t362 == t363)))))) else (laws_FnBoxes.j4 k true))) else (laws_FnBoxes.j4 k true))))))))
def laws_FnBoxes.j4 : Nat → Bool → Option (Bool)
  | 0, _ => none
  | k + 1, x2 => some x2
end
def laws_FnBoxes.f (k : Nat) (l0 : List Int) : Option (Bool) := (laws_big.f l0).bind fun t321 => (if t321 = true then (some true) else ((spec_DrawBoxOf.f k l0).bind fun t322 => ((impl_BoxOf.f k t322).bind fun bt325 => (laws_FnBoxes.l0 k l0 t322 bt325.2.2.2.2 (decide ((t322.length : Int) > 0)) 0 bt325.1 bt325.2.1 bt325.2.2.1 bt325.2.2.2.1))))
theorem p1 : type_of% @List.setIfInBounds_toArray := @List.setIfInBounds_toArray
theorem p2 : type_of% @List.set_cons_zero := @List.set_cons_zero
theorem p3 : type_of% @List.set_cons_succ := @List.set_cons_succ
theorem q1 : type_of% @below_alloc := @below_alloc
theorem q2 : type_of% @pw_below_drewN := @pw_below_drewN
theorem q3 : type_of% @below_drew1 := @below_drew1
theorem q4 : type_of% @below_set := @below_set
theorem q5 : type_of% @blk_drewN := @blk_drewN
theorem q6 : type_of% @blk_drew := @blk_drew
theorem q7 : type_of% @blk_alloc := @blk_alloc
theorem q8 : type_of% @blk_below := @blk_below
theorem q9 : type_of% @below_step := @below_step
theorem qa : type_of% @below_size := @below_size
theorem qb : type_of% @blk_frozen := @blk_frozen
theorem qc : type_of% @blk_cell := @blk_cell
theorem qd : type_of% @blk_lt := @blk_lt
theorem qe : type_of% @blk_far := @blk_far
theorem qf : type_of% @blk_put := @blk_put
theorem qg : type_of% @Aside0.mk := @Aside0.mk
theorem qh : type_of% @box_event := @box_event
theorem qj : type_of% @Kd.R_below := @Kd.R_below
theorem qk : type_of% @Kd.R_alloc := @Kd.R_alloc
theorem ql : type_of% @Kd.R_drewN := @Kd.R_drewN
theorem qm : type_of% @Kd.R_drew := @Kd.R_drew
theorem qn : type_of% @Kd.C_below := @Kd.C_below
theorem qo : type_of% @Kd.C_alloc := @Kd.C_alloc
theorem qr : type_of% @Kd.C_drewN := @Kd.C_drewN
theorem qs : type_of% @Kd.C_drew := @Kd.C_drew
theorem qt : type_of% @gate_callee := @gate_callee
theorem qu : type_of% @gate_dst := @gate_dst
theorem qv : type_of% @Nat.ne_of_lt := @Nat.ne_of_lt
theorem qw : type_of% @Nat.ne_of_gt := @Nat.ne_of_gt
theorem laws_FnBoxes.mono_l : ∀ k, (∀ y0 y1 y2 y3 y4 y5 y6 y7 y8, LeO (laws_FnBoxes.l0 k y0 y1 y2 y3 y4 y5 y6 y7 y8) (laws_FnBoxes.l0 (k + 1) y0 y1 y2 y3 y4 y5 y6 y7 y8)) ∧ (∀ y0 y1 y2 y3 y4 y5 y6 y7 y8, LeO (laws_FnBoxes.l1 k y0 y1 y2 y3 y4 y5 y6 y7 y8) (laws_FnBoxes.l1 (k + 1) y0 y1 y2 y3 y4 y5 y6 y7 y8)) ∧ (∀ y0 y1 y2 y3 y4 y5 y6 y7 y8 y9, LeO (laws_FnBoxes.j2 k y0 y1 y2 y3 y4 y5 y6 y7 y8 y9) (laws_FnBoxes.j2 (k + 1) y0 y1 y2 y3 y4 y5 y6 y7 y8 y9)) ∧ (∀ y0 y1 y2 y3 y4 y5 y6 y7 y8, LeO (laws_FnBoxes.j5 k y0 y1 y2 y3 y4 y5 y6 y7 y8) (laws_FnBoxes.j5 (k + 1) y0 y1 y2 y3 y4 y5 y6 y7 y8)) ∧ (∀ y0 y1 y2 y3 y4 y5 y6 y7 y8, LeO (laws_FnBoxes.j6 k y0 y1 y2 y3 y4 y5 y6 y7 y8) (laws_FnBoxes.j6 (k + 1) y0 y1 y2 y3 y4 y5 y6 y7 y8)) ∧ (∀ y0 y1 y2 y3 y4 y5 y6 y7 y8, LeO (laws_FnBoxes.j7 k y0 y1 y2 y3 y4 y5 y6 y7 y8) (laws_FnBoxes.j7 (k + 1) y0 y1 y2 y3 y4 y5 y6 y7 y8)) ∧ (∀ y0 y1, LeO (laws_FnBoxes.j3 k y0 y1) (laws_FnBoxes.j3 (k + 1) y0 y1)) ∧ (∀ y0, LeO (laws_FnBoxes.j4 k y0) (laws_FnBoxes.j4 (k + 1) y0))
  | 0 => ⟨fun _ _ _ _ _ _ _ _ _ r h => by simp [laws_FnBoxes.l0] at h, fun _ _ _ _ _ _ _ _ _ r h => by simp [laws_FnBoxes.l1] at h, fun _ _ _ _ _ _ _ _ _ _ r h => by simp [laws_FnBoxes.j2] at h, fun _ _ _ _ _ _ _ _ _ r h => by simp [laws_FnBoxes.j5] at h, fun _ _ _ _ _ _ _ _ _ r h => by simp [laws_FnBoxes.j6] at h, fun _ _ _ _ _ _ _ _ _ r h => by simp [laws_FnBoxes.j7] at h, fun _ _ r h => by simp [laws_FnBoxes.j3] at h, fun _ r h => by simp [laws_FnBoxes.j4] at h⟩
  | k + 1 => by
    obtain ⟨ih0, ih1, ih2, ih3, ih4, ih5, ih6, ih7⟩ := laws_FnBoxes.mono_l k
    refine ⟨?_, ?_, ?_, ?_, ?_, ?_, ?_, ?_⟩
    · intro y0 y1 y2 y3 y4 y5 y6 y7 y8
      unfold laws_FnBoxes.l0
      repeat' first
      | (with_reducible exact ih0 _ _ _ _ _ _ _ _ _)
      | (with_reducible exact ih1 _ _ _ _ _ _ _ _ _)
      | (with_reducible exact ih2 _ _ _ _ _ _ _ _ _ _)
      | (with_reducible exact ih3 _ _ _ _ _ _ _ _ _)
      | (with_reducible exact ih4 _ _ _ _ _ _ _ _ _)
      | (with_reducible exact ih5 _ _ _ _ _ _ _ _ _)
      | (with_reducible exact ih6 _ _)
      | (with_reducible exact ih7 _)
      | (with_reducible exact impl_BoxOf.mono _ _)
      | (with_reducible exact impl_TurnBox.mono _ _ _ _ _ _)
      | (with_reducible exact impl_TurnPlace.mono _ _ _ _)
      | (with_reducible exact spec_DrawBoxOf.mono _ _)
      | (with_reducible exact spec_DrawInBox.mono _ _)
      | (with_reducible exact spec_DrawTurnBox.mono _ _)
      | (with_reducible exact LeO.refl _)
      | (with_reducible exact LeO.none _)
      | (with_reducible refine LeO.ite ?_ ?_)
      | (with_reducible refine LeO.bind ?_ (fun _ => ?_))
      | exact ih0 _ _ _ _ _ _ _ _ _
      | exact ih1 _ _ _ _ _ _ _ _ _
      | exact ih2 _ _ _ _ _ _ _ _ _ _
      | exact ih3 _ _ _ _ _ _ _ _ _
      | exact ih4 _ _ _ _ _ _ _ _ _
      | exact ih5 _ _ _ _ _ _ _ _ _
      | exact ih6 _ _
      | exact ih7 _
      | exact impl_BoxOf.mono _ _
      | exact impl_TurnBox.mono _ _ _ _ _ _
      | exact impl_TurnPlace.mono _ _ _ _
      | exact spec_DrawBoxOf.mono _ _
      | exact spec_DrawInBox.mono _ _
      | exact spec_DrawTurnBox.mono _ _
      | exact LeO.none _
      | refine LeO.ite ?_ ?_
      | refine LeO.bind ?_ (fun _ => ?_)
    · intro y0 y1 y2 y3 y4 y5 y6 y7 y8
      unfold laws_FnBoxes.l1
      repeat' first
      | (with_reducible exact ih0 _ _ _ _ _ _ _ _ _)
      | (with_reducible exact ih1 _ _ _ _ _ _ _ _ _)
      | (with_reducible exact ih2 _ _ _ _ _ _ _ _ _ _)
      | (with_reducible exact ih3 _ _ _ _ _ _ _ _ _)
      | (with_reducible exact ih4 _ _ _ _ _ _ _ _ _)
      | (with_reducible exact ih5 _ _ _ _ _ _ _ _ _)
      | (with_reducible exact ih6 _ _)
      | (with_reducible exact ih7 _)
      | (with_reducible exact impl_BoxOf.mono _ _)
      | (with_reducible exact impl_TurnBox.mono _ _ _ _ _ _)
      | (with_reducible exact impl_TurnPlace.mono _ _ _ _)
      | (with_reducible exact spec_DrawBoxOf.mono _ _)
      | (with_reducible exact spec_DrawInBox.mono _ _)
      | (with_reducible exact spec_DrawTurnBox.mono _ _)
      | (with_reducible exact LeO.refl _)
      | (with_reducible exact LeO.none _)
      | (with_reducible refine LeO.ite ?_ ?_)
      | (with_reducible refine LeO.bind ?_ (fun _ => ?_))
      | exact ih0 _ _ _ _ _ _ _ _ _
      | exact ih1 _ _ _ _ _ _ _ _ _
      | exact ih2 _ _ _ _ _ _ _ _ _ _
      | exact ih3 _ _ _ _ _ _ _ _ _
      | exact ih4 _ _ _ _ _ _ _ _ _
      | exact ih5 _ _ _ _ _ _ _ _ _
      | exact ih6 _ _
      | exact ih7 _
      | exact impl_BoxOf.mono _ _
      | exact impl_TurnBox.mono _ _ _ _ _ _
      | exact impl_TurnPlace.mono _ _ _ _
      | exact spec_DrawBoxOf.mono _ _
      | exact spec_DrawInBox.mono _ _
      | exact spec_DrawTurnBox.mono _ _
      | exact LeO.none _
      | refine LeO.ite ?_ ?_
      | refine LeO.bind ?_ (fun _ => ?_)
    · intro y0 y1 y2 y3 y4 y5 y6 y7 y8 y9
      unfold laws_FnBoxes.j2
      repeat' first
      | (with_reducible exact ih0 _ _ _ _ _ _ _ _ _)
      | (with_reducible exact ih1 _ _ _ _ _ _ _ _ _)
      | (with_reducible exact ih2 _ _ _ _ _ _ _ _ _ _)
      | (with_reducible exact ih3 _ _ _ _ _ _ _ _ _)
      | (with_reducible exact ih4 _ _ _ _ _ _ _ _ _)
      | (with_reducible exact ih5 _ _ _ _ _ _ _ _ _)
      | (with_reducible exact ih6 _ _)
      | (with_reducible exact ih7 _)
      | (with_reducible exact impl_BoxOf.mono _ _)
      | (with_reducible exact impl_TurnBox.mono _ _ _ _ _ _)
      | (with_reducible exact impl_TurnPlace.mono _ _ _ _)
      | (with_reducible exact spec_DrawBoxOf.mono _ _)
      | (with_reducible exact spec_DrawInBox.mono _ _)
      | (with_reducible exact spec_DrawTurnBox.mono _ _)
      | (with_reducible exact LeO.refl _)
      | (with_reducible exact LeO.none _)
      | (with_reducible refine LeO.ite ?_ ?_)
      | (with_reducible refine LeO.bind ?_ (fun _ => ?_))
      | exact ih0 _ _ _ _ _ _ _ _ _
      | exact ih1 _ _ _ _ _ _ _ _ _
      | exact ih2 _ _ _ _ _ _ _ _ _ _
      | exact ih3 _ _ _ _ _ _ _ _ _
      | exact ih4 _ _ _ _ _ _ _ _ _
      | exact ih5 _ _ _ _ _ _ _ _ _
      | exact ih6 _ _
      | exact ih7 _
      | exact impl_BoxOf.mono _ _
      | exact impl_TurnBox.mono _ _ _ _ _ _
      | exact impl_TurnPlace.mono _ _ _ _
      | exact spec_DrawBoxOf.mono _ _
      | exact spec_DrawInBox.mono _ _
      | exact spec_DrawTurnBox.mono _ _
      | exact LeO.none _
      | refine LeO.ite ?_ ?_
      | refine LeO.bind ?_ (fun _ => ?_)
    · intro y0 y1 y2 y3 y4 y5 y6 y7 y8
      unfold laws_FnBoxes.j5
      repeat' first
      | (with_reducible exact ih0 _ _ _ _ _ _ _ _ _)
      | (with_reducible exact ih1 _ _ _ _ _ _ _ _ _)
      | (with_reducible exact ih2 _ _ _ _ _ _ _ _ _ _)
      | (with_reducible exact ih3 _ _ _ _ _ _ _ _ _)
      | (with_reducible exact ih4 _ _ _ _ _ _ _ _ _)
      | (with_reducible exact ih5 _ _ _ _ _ _ _ _ _)
      | (with_reducible exact ih6 _ _)
      | (with_reducible exact ih7 _)
      | (with_reducible exact impl_BoxOf.mono _ _)
      | (with_reducible exact impl_TurnBox.mono _ _ _ _ _ _)
      | (with_reducible exact impl_TurnPlace.mono _ _ _ _)
      | (with_reducible exact spec_DrawBoxOf.mono _ _)
      | (with_reducible exact spec_DrawInBox.mono _ _)
      | (with_reducible exact spec_DrawTurnBox.mono _ _)
      | (with_reducible exact LeO.refl _)
      | (with_reducible exact LeO.none _)
      | (with_reducible refine LeO.ite ?_ ?_)
      | (with_reducible refine LeO.bind ?_ (fun _ => ?_))
      | exact ih0 _ _ _ _ _ _ _ _ _
      | exact ih1 _ _ _ _ _ _ _ _ _
      | exact ih2 _ _ _ _ _ _ _ _ _ _
      | exact ih3 _ _ _ _ _ _ _ _ _
      | exact ih4 _ _ _ _ _ _ _ _ _
      | exact ih5 _ _ _ _ _ _ _ _ _
      | exact ih6 _ _
      | exact ih7 _
      | exact impl_BoxOf.mono _ _
      | exact impl_TurnBox.mono _ _ _ _ _ _
      | exact impl_TurnPlace.mono _ _ _ _
      | exact spec_DrawBoxOf.mono _ _
      | exact spec_DrawInBox.mono _ _
      | exact spec_DrawTurnBox.mono _ _
      | exact LeO.none _
      | refine LeO.ite ?_ ?_
      | refine LeO.bind ?_ (fun _ => ?_)
    · intro y0 y1 y2 y3 y4 y5 y6 y7 y8
      unfold laws_FnBoxes.j6
      repeat' first
      | (with_reducible exact ih0 _ _ _ _ _ _ _ _ _)
      | (with_reducible exact ih1 _ _ _ _ _ _ _ _ _)
      | (with_reducible exact ih2 _ _ _ _ _ _ _ _ _ _)
      | (with_reducible exact ih3 _ _ _ _ _ _ _ _ _)
      | (with_reducible exact ih4 _ _ _ _ _ _ _ _ _)
      | (with_reducible exact ih5 _ _ _ _ _ _ _ _ _)
      | (with_reducible exact ih6 _ _)
      | (with_reducible exact ih7 _)
      | (with_reducible exact impl_BoxOf.mono _ _)
      | (with_reducible exact impl_TurnBox.mono _ _ _ _ _ _)
      | (with_reducible exact impl_TurnPlace.mono _ _ _ _)
      | (with_reducible exact spec_DrawBoxOf.mono _ _)
      | (with_reducible exact spec_DrawInBox.mono _ _)
      | (with_reducible exact spec_DrawTurnBox.mono _ _)
      | (with_reducible exact LeO.refl _)
      | (with_reducible exact LeO.none _)
      | (with_reducible refine LeO.ite ?_ ?_)
      | (with_reducible refine LeO.bind ?_ (fun _ => ?_))
      | exact ih0 _ _ _ _ _ _ _ _ _
      | exact ih1 _ _ _ _ _ _ _ _ _
      | exact ih2 _ _ _ _ _ _ _ _ _ _
      | exact ih3 _ _ _ _ _ _ _ _ _
      | exact ih4 _ _ _ _ _ _ _ _ _
      | exact ih5 _ _ _ _ _ _ _ _ _
      | exact ih6 _ _
      | exact ih7 _
      | exact impl_BoxOf.mono _ _
      | exact impl_TurnBox.mono _ _ _ _ _ _
      | exact impl_TurnPlace.mono _ _ _ _
      | exact spec_DrawBoxOf.mono _ _
      | exact spec_DrawInBox.mono _ _
      | exact spec_DrawTurnBox.mono _ _
      | exact LeO.none _
      | refine LeO.ite ?_ ?_
      | refine LeO.bind ?_ (fun _ => ?_)
    · intro y0 y1 y2 y3 y4 y5 y6 y7 y8
      unfold laws_FnBoxes.j7
      repeat' first
      | (with_reducible exact ih0 _ _ _ _ _ _ _ _ _)
      | (with_reducible exact ih1 _ _ _ _ _ _ _ _ _)
      | (with_reducible exact ih2 _ _ _ _ _ _ _ _ _ _)
      | (with_reducible exact ih3 _ _ _ _ _ _ _ _ _)
      | (with_reducible exact ih4 _ _ _ _ _ _ _ _ _)
      | (with_reducible exact ih5 _ _ _ _ _ _ _ _ _)
      | (with_reducible exact ih6 _ _)
      | (with_reducible exact ih7 _)
      | (with_reducible exact impl_BoxOf.mono _ _)
      | (with_reducible exact impl_TurnBox.mono _ _ _ _ _ _)
      | (with_reducible exact impl_TurnPlace.mono _ _ _ _)
      | (with_reducible exact spec_DrawBoxOf.mono _ _)
      | (with_reducible exact spec_DrawInBox.mono _ _)
      | (with_reducible exact spec_DrawTurnBox.mono _ _)
      | (with_reducible exact LeO.refl _)
      | (with_reducible exact LeO.none _)
      | (with_reducible refine LeO.ite ?_ ?_)
      | (with_reducible refine LeO.bind ?_ (fun _ => ?_))
      | exact ih0 _ _ _ _ _ _ _ _ _
      | exact ih1 _ _ _ _ _ _ _ _ _
      | exact ih2 _ _ _ _ _ _ _ _ _ _
      | exact ih3 _ _ _ _ _ _ _ _ _
      | exact ih4 _ _ _ _ _ _ _ _ _
      | exact ih5 _ _ _ _ _ _ _ _ _
      | exact ih6 _ _
      | exact ih7 _
      | exact impl_BoxOf.mono _ _
      | exact impl_TurnBox.mono _ _ _ _ _ _
      | exact impl_TurnPlace.mono _ _ _ _
      | exact spec_DrawBoxOf.mono _ _
      | exact spec_DrawInBox.mono _ _
      | exact spec_DrawTurnBox.mono _ _
      | exact LeO.none _
      | refine LeO.ite ?_ ?_
      | refine LeO.bind ?_ (fun _ => ?_)
    · intro y0 y1
      unfold laws_FnBoxes.j3
      repeat' first
      | (with_reducible exact ih0 _ _ _ _ _ _ _ _ _)
      | (with_reducible exact ih1 _ _ _ _ _ _ _ _ _)
      | (with_reducible exact ih2 _ _ _ _ _ _ _ _ _ _)
      | (with_reducible exact ih3 _ _ _ _ _ _ _ _ _)
      | (with_reducible exact ih4 _ _ _ _ _ _ _ _ _)
      | (with_reducible exact ih5 _ _ _ _ _ _ _ _ _)
      | (with_reducible exact ih6 _ _)
      | (with_reducible exact ih7 _)
      | (with_reducible exact impl_BoxOf.mono _ _)
      | (with_reducible exact impl_TurnBox.mono _ _ _ _ _ _)
      | (with_reducible exact impl_TurnPlace.mono _ _ _ _)
      | (with_reducible exact spec_DrawBoxOf.mono _ _)
      | (with_reducible exact spec_DrawInBox.mono _ _)
      | (with_reducible exact spec_DrawTurnBox.mono _ _)
      | (with_reducible exact LeO.refl _)
      | (with_reducible exact LeO.none _)
      | (with_reducible refine LeO.ite ?_ ?_)
      | (with_reducible refine LeO.bind ?_ (fun _ => ?_))
      | exact ih0 _ _ _ _ _ _ _ _ _
      | exact ih1 _ _ _ _ _ _ _ _ _
      | exact ih2 _ _ _ _ _ _ _ _ _ _
      | exact ih3 _ _ _ _ _ _ _ _ _
      | exact ih4 _ _ _ _ _ _ _ _ _
      | exact ih5 _ _ _ _ _ _ _ _ _
      | exact ih6 _ _
      | exact ih7 _
      | exact impl_BoxOf.mono _ _
      | exact impl_TurnBox.mono _ _ _ _ _ _
      | exact impl_TurnPlace.mono _ _ _ _
      | exact spec_DrawBoxOf.mono _ _
      | exact spec_DrawInBox.mono _ _
      | exact spec_DrawTurnBox.mono _ _
      | exact LeO.none _
      | refine LeO.ite ?_ ?_
      | refine LeO.bind ?_ (fun _ => ?_)
    · intro y0
      unfold laws_FnBoxes.j4
      repeat' first
      | (with_reducible exact ih0 _ _ _ _ _ _ _ _ _)
      | (with_reducible exact ih1 _ _ _ _ _ _ _ _ _)
      | (with_reducible exact ih2 _ _ _ _ _ _ _ _ _ _)
      | (with_reducible exact ih3 _ _ _ _ _ _ _ _ _)
      | (with_reducible exact ih4 _ _ _ _ _ _ _ _ _)
      | (with_reducible exact ih5 _ _ _ _ _ _ _ _ _)
      | (with_reducible exact ih6 _ _)
      | (with_reducible exact ih7 _)
      | (with_reducible exact impl_BoxOf.mono _ _)
      | (with_reducible exact impl_TurnBox.mono _ _ _ _ _ _)
      | (with_reducible exact impl_TurnPlace.mono _ _ _ _)
      | (with_reducible exact spec_DrawBoxOf.mono _ _)
      | (with_reducible exact spec_DrawInBox.mono _ _)
      | (with_reducible exact spec_DrawTurnBox.mono _ _)
      | (with_reducible exact LeO.refl _)
      | (with_reducible exact LeO.none _)
      | (with_reducible refine LeO.ite ?_ ?_)
      | (with_reducible refine LeO.bind ?_ (fun _ => ?_))
      | exact ih0 _ _ _ _ _ _ _ _ _
      | exact ih1 _ _ _ _ _ _ _ _ _
      | exact ih2 _ _ _ _ _ _ _ _ _ _
      | exact ih3 _ _ _ _ _ _ _ _ _
      | exact ih4 _ _ _ _ _ _ _ _ _
      | exact ih5 _ _ _ _ _ _ _ _ _
      | exact ih6 _ _
      | exact ih7 _
      | exact impl_BoxOf.mono _ _
      | exact impl_TurnBox.mono _ _ _ _ _ _
      | exact impl_TurnPlace.mono _ _ _ _
      | exact spec_DrawBoxOf.mono _ _
      | exact spec_DrawInBox.mono _ _
      | exact spec_DrawTurnBox.mono _ _
      | exact LeO.none _
      | refine LeO.ite ?_ ?_
      | refine LeO.bind ?_ (fun _ => ?_)
theorem laws_FnBoxes.mono : ∀ a0 k, LeO (laws_FnBoxes.f k a0) (laws_FnBoxes.f (k + 1) a0) := by
  intro a0 k
  obtain ⟨ih0, ih1, ih2, ih3, ih4, ih5, ih6, ih7⟩ := laws_FnBoxes.mono_l k
  unfold laws_FnBoxes.f
  repeat' first
      | (with_reducible exact ih0 _ _ _ _ _ _ _ _ _)
      | (with_reducible exact ih1 _ _ _ _ _ _ _ _ _)
      | (with_reducible exact ih2 _ _ _ _ _ _ _ _ _ _)
      | (with_reducible exact ih3 _ _ _ _ _ _ _ _ _)
      | (with_reducible exact ih4 _ _ _ _ _ _ _ _ _)
      | (with_reducible exact ih5 _ _ _ _ _ _ _ _ _)
      | (with_reducible exact ih6 _ _)
      | (with_reducible exact ih7 _)
      | (with_reducible exact impl_BoxOf.mono _ _)
      | (with_reducible exact impl_TurnBox.mono _ _ _ _ _ _)
      | (with_reducible exact impl_TurnPlace.mono _ _ _ _)
      | (with_reducible exact spec_DrawBoxOf.mono _ _)
      | (with_reducible exact spec_DrawInBox.mono _ _)
      | (with_reducible exact spec_DrawTurnBox.mono _ _)
      | (with_reducible exact LeO.refl _)
      | (with_reducible exact LeO.none _)
      | (with_reducible refine LeO.ite ?_ ?_)
      | (with_reducible refine LeO.bind ?_ (fun _ => ?_))
      | exact ih0 _ _ _ _ _ _ _ _ _
      | exact ih1 _ _ _ _ _ _ _ _ _
      | exact ih2 _ _ _ _ _ _ _ _ _ _
      | exact ih3 _ _ _ _ _ _ _ _ _
      | exact ih4 _ _ _ _ _ _ _ _ _
      | exact ih5 _ _ _ _ _ _ _ _ _
      | exact ih6 _ _
      | exact ih7 _
      | exact impl_BoxOf.mono _ _
      | exact impl_TurnBox.mono _ _ _ _ _ _
      | exact impl_TurnPlace.mono _ _ _ _
      | exact spec_DrawBoxOf.mono _ _
      | exact spec_DrawInBox.mono _ _
      | exact spec_DrawTurnBox.mono _ _
      | exact LeO.none _
      | refine LeO.ite ?_ ?_
      | refine LeO.bind ?_ (fun _ => ?_)
def laws_FnBoxes.T18 : Bool × List (List Nat × List Nat) := (true, [([], []), ([], []), ([1], [1]), ([2], [2]), ([3], [3]), ([4], [4]), ([4], [4]), ([5, 6, 4], [4, 5, 6]), ([7, 4], [4, 7]), ([8, 4], [4, 8]), ([4], [4]), ([10, 4], [4, 10]), ([11, 4], [4, 11]), ([9, 12, 4], [4, 9, 12]), ([4, 13], [4, 13]), ([0, 0, 1, 2, 3, 4, 5, 6, 7, 8, 9, 10, 11, 12, 13, 14], [0]), ([15, 14, 4, 0, 1, 2, 3, 4, 5, 6, 7, 8, 9, 10, 11, 12, 13, 14], [14, 15])])
def laws_FnBoxes.B18 : List Nat := [0, 0, 2, 6, 14, 30, 30, 126, 254, 510, 30, 1054, 3102, 8190, 16382, 32767, 65535]
theorem laws_FnBoxes.tab18 : rtab .any (opsOf Try.f12 18) = laws_FnBoxes.T18 := by kernel_rfl
theorem laws_FnBoxes.bits18 : waitsOk laws_FnBoxes.T18.2 laws_FnBoxes.B18 = true := by kernel_rfl
def laws_FnBoxes.T19 : Bool × List (List Nat × List Nat) := (true, [([], []), ([], []), ([1], [1]), ([2], [2]), ([3], [3]), ([4], [4]), ([4], [4]), ([5, 6, 4], [4, 5, 6]), ([7, 4], [4, 7]), ([8, 4], [4, 8]), ([4], [4]), ([10, 4], [4, 10]), ([11, 4], [4, 11]), ([9, 12, 4], [4, 9, 12]), ([4, 13], [4, 13]), ([0, 0, 1, 2, 3, 4, 5, 6, 7, 8, 9, 10, 11, 12, 13, 14], [0]), ([15, 14, 4, 0, 1, 2, 3, 4, 5, 6, 7, 8, 9, 10, 11, 12, 13, 14], [14, 15])])
def laws_FnBoxes.B19 : List Nat := [0, 0, 2, 6, 14, 30, 30, 126, 254, 510, 30, 1054, 3102, 8190, 16382, 32767, 65535]
theorem laws_FnBoxes.tab19 : rtab .any (opsOf Try.f12 19) = laws_FnBoxes.T19 := by kernel_rfl
theorem laws_FnBoxes.bits19 : waitsOk laws_FnBoxes.T19.2 laws_FnBoxes.B19 = true := by kernel_rfl
def laws_FnBoxes.T20 : Bool × List (List Nat × List Nat) := (true, [([], []), ([], []), ([1], [1]), ([2], [2]), ([3], [3]), ([4], [4]), ([4], [4]), ([5, 6, 4], [4, 5, 6]), ([7, 4], [4, 7]), ([8, 4], [4, 8]), ([4], [4]), ([10, 4], [4, 10]), ([11, 4], [4, 11]), ([9, 12, 4], [4, 9, 12]), ([4, 13], [4, 13]), ([0, 0, 1, 2, 3, 4, 5, 6, 7, 8, 9, 10, 11, 12, 13, 14], [0]), ([15, 14, 4, 0, 1, 2, 3, 4, 5, 6, 7, 8, 9, 10, 11, 12, 13, 14], [14, 15])])
def laws_FnBoxes.B20 : List Nat := [0, 0, 2, 6, 14, 30, 30, 126, 254, 510, 30, 1054, 3102, 8190, 16382, 32767, 65535]
theorem laws_FnBoxes.tab20 : rtab .any (opsOf Try.f12 20) = laws_FnBoxes.T20 := by kernel_rfl
theorem laws_FnBoxes.bits20 : waitsOk laws_FnBoxes.T20.2 laws_FnBoxes.B20 = true := by kernel_rfl
def laws_FnBoxes.T21 : Bool × List (List Nat × List Nat) := (true, [([], []), ([], []), ([1], [1]), ([2], [2]), ([3], [3]), ([4], [4]), ([4], [4]), ([5, 6, 4], [4, 5, 6]), ([7, 4], [4, 7]), ([8, 4], [4, 8]), ([4], [4]), ([10, 4], [4, 10]), ([11, 4], [4, 11]), ([9, 12, 4], [4, 9, 12]), ([4, 13], [4, 13]), ([0, 0, 1, 2, 3, 4, 5, 6, 7, 8, 9, 10, 11, 12, 13, 14], [0]), ([15, 14, 4, 0, 1, 2, 3, 4, 5, 6, 7, 8, 9, 10, 11, 12, 13, 14], [14, 15])])
def laws_FnBoxes.B21 : List Nat := [0, 0, 2, 6, 14, 30, 30, 126, 254, 510, 30, 1054, 3102, 8190, 16382, 32767, 65535]
theorem laws_FnBoxes.tab21 : rtab .any (opsOf Try.f12 21) = laws_FnBoxes.T21 := by kernel_rfl
theorem laws_FnBoxes.bits21 : waitsOk laws_FnBoxes.T21.2 laws_FnBoxes.B21 = true := by kernel_rfl
def laws_FnBoxes.T28 : Bool × List (List Nat × List Nat) := (true, [([], []), ([0], [0]), ([1], [1]), ([2, 1], [2]), ([3], [3]), ([4, 3, 3], [3, 4]), ([5, 3], [3, 5]), ([3, 6], [3, 6]), ([7, 5], [7]), ([8], [8]), ([8], [8]), ([9, 10, 8, 8], [8, 9, 10]), ([8], [8]), ([8], [8]), ([12, 13, 11, 8], [8, 12, 13]), ([11, 14, 14, 8], [8, 11, 14]), ([8], [8]), ([8], [8]), ([16, 17, 15, 8], [8, 16, 17]), ([15, 18, 8], [8, 15, 18]), ([8, 19], [8, 19]), ([20, 18, 0, 1, 2, 3, 4, 5, 6, 7, 8, 9, 10, 11, 12, 13, 14, 15, 16, 17, 18, 19, 20], [20])])
def laws_FnBoxes.B28 : List Nat := [0, 1, 3, 7, 15, 31, 63, 127, 255, 511, 511, 2047, 511, 511, 16383, 32767, 511, 511, 262143, 524287, 1048575, 2097151]
theorem laws_FnBoxes.tab28 : rtab .any (opsOf Try.f12 28) = laws_FnBoxes.T28 := by kernel_rfl
theorem laws_FnBoxes.bits28 : waitsOk laws_FnBoxes.T28.2 laws_FnBoxes.B28 = true := by kernel_rfl

end Go.Proofs.Ytkioodeeadhdaaa.PFnBoxes
