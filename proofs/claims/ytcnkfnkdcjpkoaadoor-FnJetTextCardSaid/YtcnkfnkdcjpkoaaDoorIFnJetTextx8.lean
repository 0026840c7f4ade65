/- Plain functions and walks of the law FnJetText: each function answers as its plain function does. No condition beside. Printed by a changed copy of the print (wip/tools/inject.py). -/
import Derived.Test.YtcnkfnkdcjpkoaaDoorIFnJetTextx0
import Derived.Test.YtcnkfnkdcjpkoaaDoorIFnJetTextx1
import Derived.Test.YtcnkfnkdcjpkoaaDoorIFnJetTextx2
import Derived.Test.YtcnkfnkdcjpkoaaDoorIFnJetTextx3
import Derived.Test.YtcnkfnkdcjpkoaaDoorIFnJetTextx4
import Derived.Test.YtcnkfnkdcjpkoaaDoorIFnJetTextx5
import Derived.Test.YtcnkfnkdcjpkoaaDoorIFnJetTextx6
import Derived.Test.YtcnkfnkdcjpkoaaDoorIFnJetTextx7
namespace Go.Proofs.YtcnkfnkdcjpkoaaDoor.PFnJetText
open Go.RowKit Go.Proofs.YtcnkfnkdcjpkoaaDoorV Go.Proofs.YtcnkfnkdcjpkoaaDoorW.PrintWords Go.Proofs.YtcnkfnkdcjpkoaaDoorW.PrintLast Go.Proofs.YtcnkfnkdcjpkoaaDoorW.PrintMore
attribute [local go_sem] max2_int min2_int max_two min_two max_three min_three max_four min_four   -- for this text's walks alone
set_option linter.unusedVariables false
set_option linter.unusedSimpArgs false

attribute [local go_sem high] eqA45
theorem p1i : type_of% @List.setIfInBounds_toArray := @List.setIfInBounds_toArray
theorem p2i : type_of% @List.set_cons_zero := @List.set_cons_zero
theorem p3i : type_of% @List.set_cons_succ := @List.set_cons_succ
theorem q1i : type_of% @below_alloc := @below_alloc
theorem q2i : type_of% @pw_below_drewN := @pw_below_drewN
theorem q3i : type_of% @below_drew1 := @below_drew1
theorem q4i : type_of% @below_set := @below_set
theorem q5i : type_of% @blk_drewN := @blk_drewN
theorem q6i : type_of% @blk_drew := @blk_drew
theorem q7i : type_of% @blk_alloc := @blk_alloc
theorem q8i : type_of% @blk_below := @blk_below
theorem q9i : type_of% @below_step := @below_step
theorem qai : type_of% @below_size := @below_size
theorem qbi : type_of% @blk_frozen := @blk_frozen
theorem qci : type_of% @blk_cell := @blk_cell
theorem qdi : type_of% @blk_lt := @blk_lt
theorem qei : type_of% @blk_far := @blk_far
theorem qfi : type_of% @blk_put := @blk_put
theorem qgi : type_of% @Aside0.mk := @Aside0.mk
theorem qhi : type_of% @box_event := @box_event
theorem qni : type_of% @Kd.C_below := @Kd.C_below
theorem qoi : type_of% @Kd.C_alloc := @Kd.C_alloc
theorem qri : type_of% @Kd.C_drewN := @Kd.C_drewN
theorem qsi : type_of% @Kd.C_drew := @Kd.C_drew
theorem qti : type_of% @gate_callee := @gate_callee
theorem qui : type_of% @gate_dst := @gate_dst
theorem qvi : type_of% @Nat.ne_of_lt := @Nat.ne_of_lt
theorem qwi : type_of% @Nat.ne_of_gt := @Nat.ne_of_gt
/-! ### laws_FnJetText: function 14 -/
def laws_FnJetText.j0 : Nat → List Int → Bool → Option (Bool)
  | 0, _, _ => none
  | k + 1, x0, x35 => if x35 = true then (some false) else ((spec_DrawParseJet.f k x0).bind fun t389 => ((impl_ParseJet.f k t389).bind fun bt390 => (if bt390.2.2.2.2.2 = true then ((impl_FormatJet.f k bt390.1 bt390.2.1 bt390.2.2.1 bt390.2.2.2.1 bt390.2.2.2.2.1).bind fun t397 => (some (t397.toList == t389.toList))) else (some true))))
def laws_FnJetText.f (k : Nat) (l0 : List Int) : Option (Bool) := (laws_big.f l0).bind fun t371 => (if t371 = true then (some true) else ((spec_DrawFormatJet.f k l0).bind fun bt372 => ((impl_FormatJet.f k bt372.1 bt372.2.1 bt372.2.2.1 bt372.2.2.2.1 bt372.2.2.2.2).bind fun t378 => ((impl_ParseJet.f k t378).bind fun bt379 => ((impl_IsJet.f bt372.1 bt372.2.1 bt372.2.2.1 bt372.2.2.2.1 bt372.2.2.2.2).bind fun t386 => ((spec_IsJet.f bt372.1 bt372.2.1 bt372.2.2.1 bt372.2.2.2.1 bt372.2.2.2.2).bind fun t387 => (if (t386 != t387) = true then (some false) else ((impl_IsJet.f bt372.1 bt372.2.1 bt372.2.2.1 bt372.2.2.2.1 bt372.2.2.2.2).bind fun t388 => (if (bt379.2.2.2.2.2 != t388) = true then (laws_FnJetText.j0 k l0 true) else (if bt379.2.2.2.2.2 = true then (laws_FnJetText.j0 k l0 ((!(bt372.1 == bt379.1) || (!(bt372.2.1 == bt379.2.1))) || (!(bt372.2.2.1 == bt379.2.2.1) || (!(bt372.2.2.2.1 == bt379.2.2.2.1) || (!(bt372.2.2.2.2 == bt379.2.2.2.2.1)))))) else (laws_FnJetText.j0 k l0 false)))))))))))
theorem laws_FnJetText.mono_l : ∀ k, (∀ y0 y1, LeO (laws_FnJetText.j0 k y0 y1) (laws_FnJetText.j0 (k + 1) y0 y1))
  | 0 => fun _ _ r h => by simp [laws_FnJetText.j0] at h
  | k + 1 => by
    have ih0 := laws_FnJetText.mono_l k
    · intro y0 y1
      unfold laws_FnJetText.j0
      repeat' first
      | (with_reducible exact ih0 _ _)
      | (with_reducible exact impl_FormatJet.mono _ _ _ _ _ _)
      | (with_reducible exact impl_ParseJet.mono _ _)
      | (with_reducible exact spec_DrawFormatJet.mono _ _)
      | (with_reducible exact spec_DrawParseJet.mono _ _)
      | (with_reducible exact LeO.refl _)
      | (with_reducible exact LeO.none _)
      | (with_reducible refine LeO.ite ?_ ?_)
      | (with_reducible refine LeO.bind ?_ (fun _ => ?_))
      | exact ih0 _ _
      | exact impl_FormatJet.mono _ _ _ _ _ _
      | exact impl_ParseJet.mono _ _
      | exact spec_DrawFormatJet.mono _ _
      | exact spec_DrawParseJet.mono _ _
      | exact LeO.none _
      | refine LeO.ite ?_ ?_
      | refine LeO.bind ?_ (fun _ => ?_)
theorem laws_FnJetText.mono : ∀ a0 k, LeO (laws_FnJetText.f k a0) (laws_FnJetText.f (k + 1) a0) := by
  intro a0 k
  have ih0 := laws_FnJetText.mono_l k
  unfold laws_FnJetText.f
  repeat' first
      | (with_reducible exact ih0 _ _)
      | (with_reducible exact impl_FormatJet.mono _ _ _ _ _ _)
      | (with_reducible exact impl_ParseJet.mono _ _)
      | (with_reducible exact spec_DrawFormatJet.mono _ _)
      | (with_reducible exact spec_DrawParseJet.mono _ _)
      | (with_reducible exact LeO.refl _)
      | (with_reducible exact LeO.none _)
      | (with_reducible refine LeO.ite ?_ ?_)
      | (with_reducible refine LeO.bind ?_ (fun _ => ?_))
      | exact ih0 _ _
      | exact impl_FormatJet.mono _ _ _ _ _ _
      | exact impl_ParseJet.mono _ _
      | exact spec_DrawFormatJet.mono _ _
      | exact spec_DrawParseJet.mono _ _
      | exact LeO.none _
      | refine LeO.ite ?_ ?_
      | refine LeO.bind ?_ (fun _ => ?_)
set_option maxHeartbeats 8000000 in
set_option maxRecDepth 100000 in
theorem laws_FnJetText.calls (k : Nat) (A0 : Option Addr) (c0 : Nat) (l0 : List Int) (r : Bool) (w : World) (hr0 : Kd.C (Kd.int .u8) w A0 l0.length l0) (hc0 : l0.length ≤ c0) (h : laws_FnJetText.f k l0 = some r) (ht : Tabs w) :
 Calls Tryd.prog 14 #[.slice A0 l0.length c0] w fun e w' => e = .returned (.bool r) ∧ Below w.heap.size w w' := by
 have HT := qgi ht
 clear ht
 have hu45 := Tryd.underlying45
 have HR0 := qgi hr0
 have HC0 := qgi hc0
 clear hr0 hc0
 have HB := qgi (Below.refl w.heap.size w)
 have H : ((laws_big.f l0).bind fun t371 => (if t371 = true then (some true) else ((spec_DrawFormatJet.f k l0).bind fun bt372 => ((impl_FormatJet.f k bt372.1 bt372.2.1 bt372.2.2.1 bt372.2.2.2.1 bt372.2.2.2.2).bind fun t378 => ((impl_ParseJet.f k t378).bind fun bt379 => ((impl_IsJet.f bt372.1 bt372.2.1 bt372.2.2.1 bt372.2.2.2.1 bt372.2.2.2.2).bind fun t386 => ((spec_IsJet.f bt372.1 bt372.2.1 bt372.2.2.1 bt372.2.2.2.1 bt372.2.2.2.2).bind fun t387 => (if (t386 != t387) = true then (some false) else ((impl_IsJet.f bt372.1 bt372.2.1 bt372.2.2.1 bt372.2.2.2.1 bt372.2.2.2.2).bind fun t388 => (if (bt379.2.2.2.2.2 != t388) = true then (laws_FnJetText.j0 k l0 true) else (if bt379.2.2.2.2.2 = true then (laws_FnJetText.j0 k l0 ((!(bt372.1 == bt379.1) || (!(bt372.2.1 == bt379.2.1))) || (!(bt372.2.2.1 == bt379.2.2.1) || (!(bt372.2.2.2.1 == bt379.2.2.2.1) || (!(bt372.2.2.2.2 == bt379.2.2.2.2.1)))))) else (laws_FnJetText.j0 k l0 false)))))))))))) = some r := h
 clear h
 replace H := Option.bind_eq_some_iff.mp H
 obtain ⟨t371, A20, H⟩ := H
 replace H : (if t371 = true then (some true) else ((spec_DrawFormatJet.f k l0).bind fun bt372 => ((impl_FormatJet.f k bt372.1 bt372.2.1 bt372.2.2.1 bt372.2.2.2.1 bt372.2.2.2.2).bind fun t378 => ((impl_ParseJet.f k t378).bind fun bt379 => ((impl_IsJet.f bt372.1 bt372.2.1 bt372.2.2.1 bt372.2.2.2.1 bt372.2.2.2.2).bind fun t386 => ((spec_IsJet.f bt372.1 bt372.2.1 bt372.2.2.1 bt372.2.2.2.1 bt372.2.2.2.2).bind fun t387 => (if (t386 != t387) = true then (some false) else ((impl_IsJet.f bt372.1 bt372.2.1 bt372.2.2.1 bt372.2.2.2.1 bt372.2.2.2.2).bind fun t388 => (if (bt379.2.2.2.2.2 != t388) = true then (laws_FnJetText.j0 k l0 true) else (if bt379.2.2.2.2.2 = true then (laws_FnJetText.j0 k l0 ((!(bt372.1 == bt379.1) || (!(bt372.2.1 == bt379.2.1))) || (!(bt372.2.2.1 == bt379.2.2.1) || (!(bt372.2.2.2.1 == bt379.2.2.2.1) || (!(bt372.2.2.2.2 == bt379.2.2.2.2.1)))))) else (laws_FnJetText.j0 k l0 false))))))))))) = some r := H
 have A2 := qgi A20
 clear A20
 by_cases c3 : t371 = true
 ·subst c3
  have H1 : (some true) = some r := by rw [if_pos rfl] at H; exact H
  clear H
  have H := H1
  clear H1
  obtain rfl := Option.some.inj H
  go_enter Tryd.func14, Tryd.ntmps14
  go_wp2_with (first | ((with_reducible refine qti (f := 38) rfl ?_); refine goesL_ (some 10) rfl rfl Tryd.func38 (by kernel_rfl) rfl #[.slice A0 l0.length c0] rfl (by (try simp only [List.map_toArray, List.map_cons, List.map_nil]); first | done | rfl | (simp only [List.length_drop, List.length_take]; rfl)) ?_; (with_reducible refine (laws_big.calls _ _ l0 true _ ?side1 ?side2 A2.out).mono ?_); (case side1 => repeat (first | exact HR0.out | (with_reducible refine qoi ?_ _) | (with_reducible refine qri ?_ _) | (with_reducible refine qsi ?_))); (case side2 => exact HC0.out); rintro e w' ⟨rfl, ⟨nd, rfl⟩⟩; refine ⟨_, rfl, ?_⟩))
  go_ret
  exact ⟨by first | rfl | (simp [errW_none, errW_some] <;> rfl) | (simp [*, errW_none, errW_some] <;> rfl), by repeat (first | (with_reducible first | exact HB.out | apply q1i | apply q2i | apply q3i) | exact HB.out)⟩
 ·replace c3 := Bool.eq_false_iff.mpr c3
  subst c3
  have H1 : ((spec_DrawFormatJet.f k l0).bind fun bt372 => ((impl_FormatJet.f k bt372.1 bt372.2.1 bt372.2.2.1 bt372.2.2.2.1 bt372.2.2.2.2).bind fun t378 => ((impl_ParseJet.f k t378).bind fun bt379 => ((impl_IsJet.f bt372.1 bt372.2.1 bt372.2.2.1 bt372.2.2.2.1 bt372.2.2.2.2).bind fun t386 => ((spec_IsJet.f bt372.1 bt372.2.1 bt372.2.2.1 bt372.2.2.2.1 bt372.2.2.2.2).bind fun t387 => (if (t386 != t387) = true then (some false) else ((impl_IsJet.f bt372.1 bt372.2.1 bt372.2.2.1 bt372.2.2.2.1 bt372.2.2.2.2).bind fun t388 => (if (bt379.2.2.2.2.2 != t388) = true then (laws_FnJetText.j0 k l0 true) else (if bt379.2.2.2.2.2 = true then (laws_FnJetText.j0 k l0 ((!(bt372.1 == bt379.1) || (!(bt372.2.1 == bt379.2.1))) || (!(bt372.2.2.1 == bt379.2.2.1) || (!(bt372.2.2.2.1 == bt379.2.2.2.1) || (!(bt372.2.2.2.2 == bt379.2.2.2.2.1)))))) else (laws_FnJetText.j0 k l0 false)))))))))) = some r := by rw [if_neg (show ¬ (false = true) by decide)] at H; exact H
  clear H
  have H := H1
  clear H1
  replace H := Option.bind_eq_some_iff.mp H
  obtain ⟨⟨t372, t373, t374, t375, t376⟩, A40, H⟩ := H
  replace H : ((impl_FormatJet.f k t372 t373 t374 t375 t376).bind fun t378 => ((impl_ParseJet.f k t378).bind fun bt379 => ((impl_IsJet.f t372 t373 t374 t375 t376).bind fun t386 => ((spec_IsJet.f t372 t373 t374 t375 t376).bind fun t387 => (if (t386 != t387) = true then (some false) else ((impl_IsJet.f t372 t373 t374 t375 t376).bind fun t388 => (if (bt379.2.2.2.2.2 != t388) = true then (laws_FnJetText.j0 k l0 true) else (if bt379.2.2.2.2.2 = true then (laws_FnJetText.j0 k l0 ((!(t372 == bt379.1) || (!(t373 == bt379.2.1))) || (!(t374 == bt379.2.2.1) || (!(t375 == bt379.2.2.2.1) || (!(t376 == bt379.2.2.2.2.1)))))) else (laws_FnJetText.j0 k l0 false))))))))) = some r := H
  have A4 := qgi A40
  clear A40
  replace H := Option.bind_eq_some_iff.mp H
  obtain ⟨t378, A50, H⟩ := H
  replace H : ((impl_ParseJet.f k t378).bind fun bt379 => ((impl_IsJet.f t372 t373 t374 t375 t376).bind fun t386 => ((spec_IsJet.f t372 t373 t374 t375 t376).bind fun t387 => (if (t386 != t387) = true then (some false) else ((impl_IsJet.f t372 t373 t374 t375 t376).bind fun t388 => (if (bt379.2.2.2.2.2 != t388) = true then (laws_FnJetText.j0 k l0 true) else (if bt379.2.2.2.2.2 = true then (laws_FnJetText.j0 k l0 ((!(t372 == bt379.1) || (!(t373 == bt379.2.1))) || (!(t374 == bt379.2.2.1) || (!(t375 == bt379.2.2.2.1) || (!(t376 == bt379.2.2.2.2.1)))))) else (laws_FnJetText.j0 k l0 false)))))))) = some r := H
  have A5 := qgi A50
  clear A50
  replace H := Option.bind_eq_some_iff.mp H
  obtain ⟨⟨t379, t380, t381, t382, t383, t384⟩, A60, H⟩ := H
  replace H : ((impl_IsJet.f t372 t373 t374 t375 t376).bind fun t386 => ((spec_IsJet.f t372 t373 t374 t375 t376).bind fun t387 => (if (t386 != t387) = true then (some false) else ((impl_IsJet.f t372 t373 t374 t375 t376).bind fun t388 => (if (t384 != t388) = true then (laws_FnJetText.j0 k l0 true) else (if t384 = true then (laws_FnJetText.j0 k l0 ((!(t372 == t379) || (!(t373 == t380))) || (!(t374 == t381) || (!(t375 == t382) || (!(t376 == t383)))))) else (laws_FnJetText.j0 k l0 false))))))) = some r := H
  have A6 := qgi A60
  clear A60
  replace H := Option.bind_eq_some_iff.mp H
  obtain ⟨t386, A70, H⟩ := H
  replace H : ((spec_IsJet.f t372 t373 t374 t375 t376).bind fun t387 => (if (t386 != t387) = true then (some false) else ((impl_IsJet.f t372 t373 t374 t375 t376).bind fun t388 => (if (t384 != t388) = true then (laws_FnJetText.j0 k l0 true) else (if t384 = true then (laws_FnJetText.j0 k l0 ((!(t372 == t379) || (!(t373 == t380))) || (!(t374 == t381) || (!(t375 == t382) || (!(t376 == t383)))))) else (laws_FnJetText.j0 k l0 false)))))) = some r := H
  have A7 := qgi A70
  clear A70
  replace H := Option.bind_eq_some_iff.mp H
  obtain ⟨t387, A80, H⟩ := H
  replace H : (if (t386 != t387) = true then (some false) else ((impl_IsJet.f t372 t373 t374 t375 t376).bind fun t388 => (if (t384 != t388) = true then (laws_FnJetText.j0 k l0 true) else (if t384 = true then (laws_FnJetText.j0 k l0 ((!(t372 == t379) || (!(t373 == t380))) || (!(t374 == t381) || (!(t375 == t382) || (!(t376 == t383)))))) else (laws_FnJetText.j0 k l0 false))))) = some r := H
  have A8 := qgi A80
  clear A80
  by_cases c9 : (t386 != t387) = true
  ·rw [if_pos c9] at H
   have c9b0 : (t386 != t387) = true := c9
   (try (have c9b1 : decide (t386 = t387) = false := by simpa using c9))
   (try (have c9b2 : (t386 == t387) = false := by simpa using c9))
   (try (have c9b3 : ¬ (t386 = t387) := by simpa using c9))
   clear c9
   obtain rfl := Option.some.inj H
   go_enter Tryd.func14, Tryd.ntmps14
   try go_wp2_with (first | ((with_reducible refine qti (f := 38) rfl ?_); refine goesL_ (some 10) rfl rfl Tryd.func38 (by kernel_rfl) rfl #[.slice A0 l0.length c0] rfl (by (try simp only [List.map_toArray, List.map_cons, List.map_nil]); first | done | rfl | (simp only [List.length_drop, List.length_take]; rfl)) ?_; (with_reducible refine (laws_big.calls _ _ l0 false _ ?side1 ?side2 A2.out).mono ?_); (case side1 => repeat (first | exact HR0.out | (with_reducible refine qoi ?_ _) | (with_reducible refine qri ?_ _) | (with_reducible refine qsi ?_))); (case side2 => exact HC0.out); rintro e w' ⟨rfl, ⟨nd, rfl⟩⟩; refine ⟨_, rfl, ?_⟩) | ((with_reducible refine qti (f := 52) rfl ?_); refine goesL_ (some 12) rfl rfl Tryd.func52 (by kernel_rfl) rfl #[.slice A0 l0.length c0] rfl (by (try simp only [List.map_toArray, List.map_cons, List.map_nil]); first | done | rfl | (simp only [List.length_drop, List.length_take]; rfl)) ?_; (with_reducible refine (spec_DrawFormatJet.calls k _ _ l0 t372 t373 t374 t375 t376 _ ?side1 ?side2 A4.out).mono ?_); (case side1 => repeat (first | exact HR0.out | (with_reducible refine qoi ?_ _) | (with_reducible refine qri ?_ _) | (with_reducible refine qsi ?_))); (case side2 => exact HC0.out); rintro e w10 ⟨rfl, hb⟩; refine ⟨_, rfl, ?_⟩; have n0_ := qgi (q9i (by repeat (first | (with_reducible first | exact HB.out | apply q1i | apply q2i | apply q3i) | exact HB.out)) hb); clear HB; have HB := n0_; clear n0_; (try clear hb); (try clear hb2); (try clear hk); (try clear hi)) | ((with_reducible refine qui (N := 3) rfl ?_); refine qhi ?hg (N := 3) ?hd (cs := #[.int .i64 0, .int .i64 0, .int .i64 0, .int .i64 0, .int .i64 0]) (t := 45) ?hr ?_; (case hd => rfl); (case hg => rfl); (case hr => first | (go_simp; done) | (go_simp; rfl)); intro gb377 hg w11 hbox hb; have n0_ := qgi (q9i (by repeat (first | (with_reducible first | exact HB.out | apply q1i | apply q2i | apply q3i) | exact HB.out)) hb); have n1_ := qgi (hbox); have n2_ := qgi ((by rw [hg]; exact (qai (by repeat (first | (with_reducible first | exact HB.out | apply q1i | apply q2i | apply q3i) | exact HB.out))) : w.heap.size ≤ gb377)); have n3_ := qgi ((by rw [hg]; exact (qai (by repeat (first | (with_reducible first | exact HB.out | apply q1i | apply q2i | apply q3i) | exact HB.out))) : w.heap.size ≤ gb377)); clear HB; have HB := n0_; have BK377 := n1_; have GW377 := n2_; have GE377 := n3_; clear n0_ n1_ n2_ n3_; clear hb hbox hg; have hcz12_0 : w11.cell? ⟨gb377, 0, none⟩ = some (.int .i64 0) := (qci BK377.out 0).trans rfl; have hcz12_1 : w11.cell? ⟨gb377, 1, none⟩ = some (.int .i64 0) := (qci BK377.out 1).trans rfl; have hcz12_2 : w11.cell? ⟨gb377, 2, none⟩ = some (.int .i64 0) := (qci BK377.out 2).trans rfl; have hcz12_3 : w11.cell? ⟨gb377, 3, none⟩ = some (.int .i64 0) := (qci BK377.out 3).trans rfl; have hcz12_4 : w11.cell? ⟨gb377, 4, none⟩ = some (.int .i64 0) := (qci BK377.out 4).trans rfl; have hfz12_0 := qbi BK377.out 0; have hfz12_1 := qbi BK377.out 1; have hfz12_2 := qbi BK377.out 2; have hfz12_3 := qbi BK377.out 3; have hfz12_4 := qbi BK377.out 4) | ((with_reducible refine qti (f := 34) rfl ?_); refine goesL_ (some 15) rfl rfl Tryd.func34 (by kernel_rfl) rfl #[.agg #[.int .i64 t372, .int .i64 t373, .int .i64 t374, .int .i64 t375, .int .i64 t376]] rfl (by (try simp only [List.map_toArray, List.map_cons, List.map_nil]); first | done | rfl | (simp only [List.length_drop, List.length_take]; rfl)) ?_; (with_reducible refine (impl_FormatJet.calls k t372 t373 t374 t375 t376 t378 _ A5.out ?tabs).mono ?_); (case tabs => exact Tabs.below HT.out (by repeat (first | (with_reducible first | exact HB.out | apply q1i | apply q2i | apply q3i | refine q4i ?_ GE377.out) | exact HB.out))); rintro e w13 ⟨rfl, hb⟩; refine ⟨_, rfl, ?_⟩; have n0_ := qgi (q8i (g := gb377) (o := .cells #[.int .i64 t372, .int .i64 t373, .int .i64 t374, .int .i64 t375, .int .i64 t376] 45 (0, 0)) (by (with_reducible repeat (first | refine q5i ?_ _ | refine q6i ?_ | refine q7i ?_ _)); refine qfi (cs := #[.int .i64 t372, .int .i64 t373, .int .i64 t374, .int .i64 t375, .int .i64 0]) ?_ 4 _ rfl; (with_reducible repeat (first | refine q5i ?_ _ | refine q6i ?_ | refine q7i ?_ _)); refine qfi (cs := #[.int .i64 t372, .int .i64 t373, .int .i64 t374, .int .i64 0, .int .i64 0]) ?_ 3 _ rfl; (with_reducible repeat (first | refine q5i ?_ _ | refine q6i ?_ | refine q7i ?_ _)); refine qfi (cs := #[.int .i64 t372, .int .i64 t373, .int .i64 0, .int .i64 0, .int .i64 0]) ?_ 2 _ rfl; (with_reducible repeat (first | refine q5i ?_ _ | refine q6i ?_ | refine q7i ?_ _)); refine qfi (cs := #[.int .i64 t372, .int .i64 0, .int .i64 0, .int .i64 0, .int .i64 0]) ?_ 1 _ rfl; (with_reducible repeat (first | refine q5i ?_ _ | refine q6i ?_ | refine q7i ?_ _)); refine qfi (cs := #[.int .i64 0, .int .i64 0, .int .i64 0, .int .i64 0, .int .i64 0]) ?_ 0 _ rfl; (with_reducible repeat (first | refine q5i ?_ _ | refine q6i ?_ | refine q7i ?_ _)); exact BK377.out) hb); have n1_ := qgi (q9i (by repeat (first | (with_reducible first | exact HB.out | apply q1i | apply q2i | apply q3i | refine q4i ?_ GE377.out) | exact HB.out)) hb); clear BK377; clear HB; have BK377 := n0_; have HB := n1_; clear n0_ n1_; (try clear hb); (try clear hb2); (try clear hk); (try clear hi)) | ((with_reducible refine qti (f := 36) rfl ?_); refine goesL_ (some 16) rfl rfl Tryd.func36 (by kernel_rfl) rfl #[.string t378] rfl (by (try simp only [List.map_toArray, List.map_cons, List.map_nil]); first | done | rfl | (simp only [List.length_drop, List.length_take]; rfl)) ?_; (with_reducible refine (impl_ParseJet.calls k t378 t379 t380 t381 t382 t383 t384 _ A6.out ?tabs).mono ?_); (case tabs => exact Tabs.below HT.out (by repeat (first | (with_reducible first | exact HB.out | apply q1i | apply q2i | apply q3i | refine q4i ?_ GE377.out) | exact HB.out))); rintro e w14 ⟨rfl, hb⟩; refine ⟨_, rfl, ?_⟩; have n0_ := qgi (q8i (g := gb377) (o := .cells #[.int .i64 t372, .int .i64 t373, .int .i64 t374, .int .i64 t375, .int .i64 t376] 45 (0, 0)) (by (with_reducible repeat (first | refine q5i ?_ _ | refine q6i ?_ | refine q7i ?_ _)); exact BK377.out) hb); have n1_ := qgi (q9i (by repeat (first | (with_reducible first | exact HB.out | apply q1i | apply q2i | apply q3i | refine q4i ?_ GE377.out) | exact HB.out)) hb); clear BK377; clear HB; have BK377 := n0_; have HB := n1_; clear n0_ n1_; (try clear hb); (try clear hb2); (try clear hk); (try clear hi)) | ((with_reducible refine qui (N := 4) rfl ?_); refine qhi ?hg (N := 4) ?hd (cs := #[.int .i64 0, .int .i64 0, .int .i64 0, .int .i64 0, .int .i64 0]) (t := 45) ?hr ?_; (case hd => rfl); (case hg => rfl); (case hr => first | (go_simp; done) | (go_simp; rfl)); intro gb385 hg w15 hbox hb; have n0_ := qgi (q8i (g := gb377) (o := .cells #[.int .i64 t372, .int .i64 t373, .int .i64 t374, .int .i64 t375, .int .i64 t376] 45 (0, 0)) (by (with_reducible repeat (first | refine q5i ?_ _ | refine q6i ?_ | refine q7i ?_ _)); exact BK377.out) hb); have n1_ := qgi (q9i (by repeat (first | (with_reducible first | exact HB.out | apply q1i | apply q2i | apply q3i | refine q4i ?_ GE377.out) | exact HB.out)) hb); have n2_ := qgi (hbox); have n3_ := qgi ((by rw [hg]; exact (qai (by repeat (first | (with_reducible first | exact HB.out | apply q1i | apply q2i | apply q3i | refine q4i ?_ GE377.out) | exact HB.out))) : w.heap.size ≤ gb385)); have n4_ := qgi ((by rw [hg]; exact (qai (by repeat (first | (with_reducible first | exact HB.out | apply q1i | apply q2i | apply q3i | refine q4i ?_ GE377.out) | exact HB.out))) : w.heap.size ≤ gb385)); have n5_ := qgi ((by rw [hg]; exact qvi (qdi (g := gb377) (o := .cells #[.int .i64 t372, .int .i64 t373, .int .i64 t374, .int .i64 t375, .int .i64 t376] 45 (0, 0)) (by (with_reducible repeat (first | refine q5i ?_ _ | refine q6i ?_ | refine q7i ?_ _)); exact BK377.out)) : gb377 ≠ gb385)); have n6_ := qgi ((by rw [hg]; exact qwi (qdi (g := gb377) (o := .cells #[.int .i64 t372, .int .i64 t373, .int .i64 t374, .int .i64 t375, .int .i64 t376] 45 (0, 0)) (by (with_reducible repeat (first | refine q5i ?_ _ | refine q6i ?_ | refine q7i ?_ _)); exact BK377.out)) : gb385 ≠ gb377)); clear BK377; clear HB; have BK377 := n0_; have HB := n1_; have BK385 := n2_; have GW385 := n3_; have GE385 := n4_; have NB377_385 := n5_; have NB385_377 := n6_; clear n0_ n1_ n2_ n3_ n4_ n5_ n6_; clear hb hbox hg; have hnb16 := NB385_377.out; have hnc16 := NB377_385.out; have hcz17_0 : w15.cell? ⟨gb385, 0, none⟩ = some (.int .i64 0) := (qci BK385.out 0).trans rfl; have hcz17_1 : w15.cell? ⟨gb385, 1, none⟩ = some (.int .i64 0) := (qci BK385.out 1).trans rfl; have hcz17_2 : w15.cell? ⟨gb385, 2, none⟩ = some (.int .i64 0) := (qci BK385.out 2).trans rfl; have hcz17_3 : w15.cell? ⟨gb385, 3, none⟩ = some (.int .i64 0) := (qci BK385.out 3).trans rfl; have hcz17_4 : w15.cell? ⟨gb385, 4, none⟩ = some (.int .i64 0) := (qci BK385.out 4).trans rfl; have hfz17_0 := qbi BK385.out 0; have hfz17_1 := qbi BK385.out 1; have hfz17_2 := qbi BK385.out 2; have hfz17_3 := qbi BK385.out 3; have hfz17_4 := qbi BK385.out 4))
   have n0_ : Aside0 ((((((w15.setCell ⟨gb385, 0, none⟩ (.int .i64 t379)).setCell ⟨gb385, 1, none⟩ (.int .i64 t380)).setCell ⟨gb385, 2, none⟩ (.int .i64 t381)).setCell ⟨gb385, 3, none⟩ (.int .i64 t382)).setCell ⟨gb385, 4, none⟩ (.int .i64 t383)).heap[gb377]? = some (.cells #[.int .i64 t372, .int .i64 t373, .int .i64 t374, .int .i64 t375, .int .i64 t376] 45 (0, 0))) := ⟨by (with_reducible repeat (first | refine q5i ?_ _ | refine q6i ?_ | refine q7i ?_ _)); refine qei ?_ NB377_385.out _; (with_reducible repeat (first | refine q5i ?_ _ | refine q6i ?_ | refine q7i ?_ _)); refine qei ?_ NB377_385.out _; (with_reducible repeat (first | refine q5i ?_ _ | refine q6i ?_ | refine q7i ?_ _)); refine qei ?_ NB377_385.out _; (with_reducible repeat (first | refine q5i ?_ _ | refine q6i ?_ | refine q7i ?_ _)); refine qei ?_ NB377_385.out _; (with_reducible repeat (first | refine q5i ?_ _ | refine q6i ?_ | refine q7i ?_ _)); refine qei ?_ NB377_385.out _; (with_reducible repeat (first | refine q5i ?_ _ | refine q6i ?_ | refine q7i ?_ _)); exact BK377.out⟩
   have n1_ : Aside0 ((((((w15.setCell ⟨gb385, 0, none⟩ (.int .i64 t379)).setCell ⟨gb385, 1, none⟩ (.int .i64 t380)).setCell ⟨gb385, 2, none⟩ (.int .i64 t381)).setCell ⟨gb385, 3, none⟩ (.int .i64 t382)).setCell ⟨gb385, 4, none⟩ (.int .i64 t383)).heap[gb385]? = some (.cells #[.int .i64 t379, .int .i64 t380, .int .i64 t381, .int .i64 t382, .int .i64 t383] 45 (0, 0))) := ⟨by (with_reducible repeat (first | refine q5i ?_ _ | refine q6i ?_ | refine q7i ?_ _)); refine qfi (cs := #[.int .i64 t379, .int .i64 t380, .int .i64 t381, .int .i64 t382, .int .i64 0]) ?_ 4 _ rfl; (with_reducible repeat (first | refine q5i ?_ _ | refine q6i ?_ | refine q7i ?_ _)); refine qfi (cs := #[.int .i64 t379, .int .i64 t380, .int .i64 t381, .int .i64 0, .int .i64 0]) ?_ 3 _ rfl; (with_reducible repeat (first | refine q5i ?_ _ | refine q6i ?_ | refine q7i ?_ _)); refine qfi (cs := #[.int .i64 t379, .int .i64 t380, .int .i64 0, .int .i64 0, .int .i64 0]) ?_ 2 _ rfl; (with_reducible repeat (first | refine q5i ?_ _ | refine q6i ?_ | refine q7i ?_ _)); refine qfi (cs := #[.int .i64 t379, .int .i64 0, .int .i64 0, .int .i64 0, .int .i64 0]) ?_ 1 _ rfl; (with_reducible repeat (first | refine q5i ?_ _ | refine q6i ?_ | refine q7i ?_ _)); refine qfi (cs := #[.int .i64 0, .int .i64 0, .int .i64 0, .int .i64 0, .int .i64 0]) ?_ 0 _ rfl; (with_reducible repeat (first | refine q5i ?_ _ | refine q6i ?_ | refine q7i ?_ _)); exact BK385.out⟩
   have n2_ : Aside0 (Below w.heap.size w (((((w15.setCell ⟨gb385, 0, none⟩ (.int .i64 t379)).setCell ⟨gb385, 1, none⟩ (.int .i64 t380)).setCell ⟨gb385, 2, none⟩ (.int .i64 t381)).setCell ⟨gb385, 3, none⟩ (.int .i64 t382)).setCell ⟨gb385, 4, none⟩ (.int .i64 t383))) := ⟨by repeat (first | (with_reducible first | exact HB.out | apply q1i | apply q2i | apply q3i | refine q4i ?_ GE377.out | refine q4i ?_ GE385.out) | exact HB.out)⟩
   (try clear BK377)
   (try clear BK385)
   (try clear HB)
   generalize (((((w15.setCell ⟨gb385, 0, none⟩ (.int .i64 t379)).setCell ⟨gb385, 1, none⟩ (.int .i64 t380)).setCell ⟨gb385, 2, none⟩ (.int .i64 t381)).setCell ⟨gb385, 3, none⟩ (.int .i64 t382)).setCell ⟨gb385, 4, none⟩ (.int .i64 t383)) = w18 at n0_ n1_ n2_ ⊢
   have BK377 := n0_
   have BK385 := n1_
   have HB := n2_
   clear n0_ n1_ n2_
   have n0_ := qgi (q6i BK377.out)
   have n1_ := qgi (q6i BK385.out)
   have n2_ := qgi (q3i HB.out)
   clear BK377
   clear BK385
   clear HB
   have BK377 := n0_
   have BK385 := n1_
   have HB := n2_
   clear n0_ n1_ n2_
   refine start_ (n := 5) (S := fun w' => w'.cell? ⟨gb377, 0, none⟩ = some (.int .i64 t372) ∧ w'.cell? ⟨gb377, 1, none⟩ = some (.int .i64 t373) ∧ w'.cell? ⟨gb377, 2, none⟩ = some (.int .i64 t374) ∧ w'.cell? ⟨gb377, 3, none⟩ = some (.int .i64 t375) ∧ w'.cell? ⟨gb377, 4, none⟩ = some (.int .i64 t376)) (ds := []) #[false, false, false, false, false] (by kernel_rfl) rfl rfl ⟨(qci BK377.out 0).trans rfl, (qci BK377.out 1).trans rfl, (qci BK377.out 2).trans rfl, (qci BK377.out 3).trans rfl, (qci BK377.out 4).trans rfl⟩ (fun hHeld => ?_)
   generalize w18.drew = w19 at BK377 BK385 HB hHeld ⊢
   refine take_ (i := 0) (N := some 19) (v := ?_) (a' := ?_) #[true, false, false, false, false] rfl rfl (by kernel_rfl) (fun _ _ _ h => h) (Or.inl ⟨by rfl, ?_⟩) hHeld ?_ ?_
   rotate_left
   ·rintro w' ⟨s0, s1, s2, s3, s4⟩
    go_simp
    with_reducible rfl
   rotate_left
   ·simp only [Act.put, p1i, p2i, p3i, i64_w, i32_w]
    rfl
   refine take_ (i := 2) (N := some 21) (v := ?_) (a' := ?_) #[true, false, true, false, false] rfl rfl (by kernel_rfl) (fun _ _ _ h => h) (Or.inl ⟨by rfl, ?_⟩) hHeld ?_ ?_
   rotate_left
   ·rintro w' ⟨s0, s1, s2, s3, s4⟩
    go_simp
    with_reducible rfl
   rotate_left
   ·simp only [Act.put, p1i, p2i, p3i, i64_w, i32_w]
    rfl
   refine one_ (i := 1) (N := some 20) #[true, true, true, false, false] rfl rfl (by kernel_rfl) (by decide) (fun K hK => ?_)
   refine goes_ Tryd.func53 (by kernel_rfl) rfl #[.agg #[.int .i64 t372, .int .i64 t373, .int .i64 t374, .int .i64 t375, .int .i64 t376]] (by rfl) rfl rfl (by (try simp only [List.map_toArray, List.map_cons, List.map_nil]); first | done | rfl | (simp only [List.length_drop, List.length_take]; rfl)) ?_
   with_reducible refine (impl_IsJet.calls t372 t373 t374 t375 t376 t386 _ A7.out).mono ?_
   rintro e w20 ⟨rfl, hb⟩
   refine ⟨_, rfl, ?_⟩
   have n0_ := qgi (q8i (g := gb377) (o := .cells #[.int .i64 t372, .int .i64 t373, .int .i64 t374, .int .i64 t375, .int .i64 t376] 45 (0, 0)) (by (with_reducible repeat (first | refine q5i ?_ _ | refine q6i ?_ | refine q7i ?_ _)); exact BK377.out) hb)
   have n1_ := qgi (q8i (g := gb385) (o := .cells #[.int .i64 t379, .int .i64 t380, .int .i64 t381, .int .i64 t382, .int .i64 t383] 45 (0, 0)) (by (with_reducible repeat (first | refine q5i ?_ _ | refine q6i ?_ | refine q7i ?_ _)); exact BK385.out) hb)
   have n2_ := qgi (q9i (by repeat (first | (with_reducible first | exact HB.out | apply q1i | apply q2i | apply q3i | refine q4i ?_ GE377.out | refine q4i ?_ GE385.out) | exact HB.out)) hb)
   clear BK377
   clear BK385
   clear HB
   have BK377 := n0_
   have BK385 := n1_
   have HB := n2_
   clear n0_ n1_ n2_
   (try clear hb)
   (try clear hb2)
   (try clear hk)
   (try clear hi)
   refine hK.out _ _ ⟨(qci BK377.out 0).trans rfl, (qci BK377.out 1).trans rfl, (qci BK377.out 2).trans rfl, (qci BK377.out 3).trans rfl, (qci BK377.out 4).trans rfl⟩ (fun hHeld => ?_)
   clear hK K
   refine norm_ (a' := ?_) ?_ ?_
   rotate_left
   ·show Act.put _ (some 20) _ = _
    simp only [Act.put, p1i, p2i, p3i, i64_w, i32_w]
    rfl
   refine one_ (i := 3) (N := some 22) #[true, true, true, true, false] rfl rfl (by kernel_rfl) (by decide) (fun K hK => ?_)
   refine goes_ Tryd.func54 (by kernel_rfl) rfl #[.agg #[.int .i64 t372, .int .i64 t373, .int .i64 t374, .int .i64 t375, .int .i64 t376]] (by rfl) rfl rfl (by (try simp only [List.map_toArray, List.map_cons, List.map_nil]); first | done | rfl | (simp only [List.length_drop, List.length_take]; rfl)) ?_
   with_reducible refine (spec_IsJet.calls t372 t373 t374 t375 t376 t387 _ A8.out).mono ?_
   rintro e w21 ⟨rfl, hb⟩
   refine ⟨_, rfl, ?_⟩
   have n0_ := qgi (q8i (g := gb377) (o := .cells #[.int .i64 t372, .int .i64 t373, .int .i64 t374, .int .i64 t375, .int .i64 t376] 45 (0, 0)) (by (with_reducible repeat (first | refine q5i ?_ _ | refine q6i ?_ | refine q7i ?_ _)); exact BK377.out) hb)
   have n1_ := qgi (q8i (g := gb385) (o := .cells #[.int .i64 t379, .int .i64 t380, .int .i64 t381, .int .i64 t382, .int .i64 t383] 45 (0, 0)) (by (with_reducible repeat (first | refine q5i ?_ _ | refine q6i ?_ | refine q7i ?_ _)); exact BK385.out) hb)
   have n2_ := qgi (q9i (by repeat (first | (with_reducible first | exact HB.out | apply q1i | apply q2i | apply q3i | refine q4i ?_ GE377.out | refine q4i ?_ GE385.out) | exact HB.out)) hb)
   clear BK377
   clear BK385
   clear HB
   have BK377 := n0_
   have BK385 := n1_
   have HB := n2_
   clear n0_ n1_ n2_
   (try clear hb)
   (try clear hb2)
   (try clear hk)
   (try clear hi)
   refine hK.out _ _ ⟨(qci BK377.out 0).trans rfl, (qci BK377.out 1).trans rfl, (qci BK377.out 2).trans rfl, (qci BK377.out 3).trans rfl, (qci BK377.out 4).trans rfl⟩ (fun hHeld => ?_)
   clear hK K
   refine norm_ (a' := ?_) ?_ ?_
   rotate_left
   ·show Act.put _ (some 22) _ = _
    simp only [Act.put, p1i, p2i, p3i, i64_w, i32_w]
    rfl
   refine pure_ (i := 4) (N := some 23) (v := ?_) (a' := ?_) #[true, true, true, true, true] rfl rfl (by kernel_rfl) (fun _ _ _ h => h) (Or.inl ⟨by rfl, ?_⟩) ?_ ?_
   rotate_left
   ·intro w'
    go_simp
    with_reducible rfl
   rotate_left
   ·simp only [Act.put, p1i, p2i, p3i, i64_w, i32_w]
    rfl
   refine done_ (by kernel_rfl) ?_
   try go_wp2
   go_ret
   exact ⟨by first | rfl | (simp [errW_none, errW_some] <;> rfl) | (simp [*, errW_none, errW_some] <;> rfl), by repeat (first | (with_reducible first | exact HB.out | apply q1i | apply q2i | apply q3i | refine q4i ?_ GE377.out | refine q4i ?_ GE385.out) | exact HB.out)⟩
  ·rw [if_neg c9] at H
   have c9b0 : (t386 != t387) = false := by simpa using c9
   (try (have c9b1 : decide (t386 = t387) = true := by simpa using c9))
   (try (have c9b2 : (t386 == t387) = true := by simpa using c9))
   clear c9
   have HC22 := qgi H
   clear H
   go_enter Tryd.func14, Tryd.ntmps14
   try go_wp2_with (first | ((with_reducible refine qti (f := 38) rfl ?_); refine goesL_ (some 10) rfl rfl Tryd.func38 (by kernel_rfl) rfl #[.slice A0 l0.length c0] rfl (by (try simp only [List.map_toArray, List.map_cons, List.map_nil]); first | done | rfl | (simp only [List.length_drop, List.length_take]; rfl)) ?_; (with_reducible refine (laws_big.calls _ _ l0 false _ ?side1 ?side2 A2.out).mono ?_); (case side1 => repeat (first | exact HR0.out | (with_reducible refine qoi ?_ _) | (with_reducible refine qri ?_ _) | (with_reducible refine qsi ?_))); (case side2 => exact HC0.out); rintro e w' ⟨rfl, ⟨nd, rfl⟩⟩; refine ⟨_, rfl, ?_⟩) | ((with_reducible refine qti (f := 52) rfl ?_); refine goesL_ (some 12) rfl rfl Tryd.func52 (by kernel_rfl) rfl #[.slice A0 l0.length c0] rfl (by (try simp only [List.map_toArray, List.map_cons, List.map_nil]); first | done | rfl | (simp only [List.length_drop, List.length_take]; rfl)) ?_; (with_reducible refine (spec_DrawFormatJet.calls k _ _ l0 t372 t373 t374 t375 t376 _ ?side1 ?side2 A4.out).mono ?_); (case side1 => repeat (first | exact HR0.out | (with_reducible refine qoi ?_ _) | (with_reducible refine qri ?_ _) | (with_reducible refine qsi ?_))); (case side2 => exact HC0.out); rintro e w23 ⟨rfl, hb⟩; refine ⟨_, rfl, ?_⟩; have n0_ := qgi (q9i (by repeat (first | (with_reducible first | exact HB.out | apply q1i | apply q2i | apply q3i) | exact HB.out)) hb); clear HB; have HB := n0_; clear n0_; (try clear hb); (try clear hb2); (try clear hk); (try clear hi)) | ((with_reducible refine qui (N := 3) rfl ?_); refine qhi ?hg (N := 3) ?hd (cs := #[.int .i64 0, .int .i64 0, .int .i64 0, .int .i64 0, .int .i64 0]) (t := 45) ?hr ?_; (case hd => rfl); (case hg => rfl); (case hr => first | (go_simp; done) | (go_simp; rfl)); intro gb377 hg w24 hbox hb; have n0_ := qgi (q9i (by repeat (first | (with_reducible first | exact HB.out | apply q1i | apply q2i | apply q3i) | exact HB.out)) hb); have n1_ := qgi (hbox); have n2_ := qgi ((by rw [hg]; exact (qai (by repeat (first | (with_reducible first | exact HB.out | apply q1i | apply q2i | apply q3i) | exact HB.out))) : w.heap.size ≤ gb377)); have n3_ := qgi ((by rw [hg]; exact (qai (by repeat (first | (with_reducible first | exact HB.out | apply q1i | apply q2i | apply q3i) | exact HB.out))) : w.heap.size ≤ gb377)); clear HB; have HB := n0_; have BK377 := n1_; have GW377 := n2_; have GE377 := n3_; clear n0_ n1_ n2_ n3_; clear hb hbox hg; have hcz25_0 : w24.cell? ⟨gb377, 0, none⟩ = some (.int .i64 0) := (qci BK377.out 0).trans rfl; have hcz25_1 : w24.cell? ⟨gb377, 1, none⟩ = some (.int .i64 0) := (qci BK377.out 1).trans rfl; have hcz25_2 : w24.cell? ⟨gb377, 2, none⟩ = some (.int .i64 0) := (qci BK377.out 2).trans rfl; have hcz25_3 : w24.cell? ⟨gb377, 3, none⟩ = some (.int .i64 0) := (qci BK377.out 3).trans rfl; have hcz25_4 : w24.cell? ⟨gb377, 4, none⟩ = some (.int .i64 0) := (qci BK377.out 4).trans rfl; have hfz25_0 := qbi BK377.out 0; have hfz25_1 := qbi BK377.out 1; have hfz25_2 := qbi BK377.out 2; have hfz25_3 := qbi BK377.out 3; have hfz25_4 := qbi BK377.out 4) | ((with_reducible refine qti (f := 34) rfl ?_); refine goesL_ (some 15) rfl rfl Tryd.func34 (by kernel_rfl) rfl #[.agg #[.int .i64 t372, .int .i64 t373, .int .i64 t374, .int .i64 t375, .int .i64 t376]] rfl (by (try simp only [List.map_toArray, List.map_cons, List.map_nil]); first | done | rfl | (simp only [List.length_drop, List.length_take]; rfl)) ?_; (with_reducible refine (impl_FormatJet.calls k t372 t373 t374 t375 t376 t378 _ A5.out ?tabs).mono ?_); (case tabs => exact Tabs.below HT.out (by repeat (first | (with_reducible first | exact HB.out | apply q1i | apply q2i | apply q3i | refine q4i ?_ GE377.out) | exact HB.out))); rintro e w26 ⟨rfl, hb⟩; refine ⟨_, rfl, ?_⟩; have n0_ := qgi (q8i (g := gb377) (o := .cells #[.int .i64 t372, .int .i64 t373, .int .i64 t374, .int .i64 t375, .int .i64 t376] 45 (0, 0)) (by (with_reducible repeat (first | refine q5i ?_ _ | refine q6i ?_ | refine q7i ?_ _)); refine qfi (cs := #[.int .i64 t372, .int .i64 t373, .int .i64 t374, .int .i64 t375, .int .i64 0]) ?_ 4 _ rfl; (with_reducible repeat (first | refine q5i ?_ _ | refine q6i ?_ | refine q7i ?_ _)); refine qfi (cs := #[.int .i64 t372, .int .i64 t373, .int .i64 t374, .int .i64 0, .int .i64 0]) ?_ 3 _ rfl; (with_reducible repeat (first | refine q5i ?_ _ | refine q6i ?_ | refine q7i ?_ _)); refine qfi (cs := #[.int .i64 t372, .int .i64 t373, .int .i64 0, .int .i64 0, .int .i64 0]) ?_ 2 _ rfl; (with_reducible repeat (first | refine q5i ?_ _ | refine q6i ?_ | refine q7i ?_ _)); refine qfi (cs := #[.int .i64 t372, .int .i64 0, .int .i64 0, .int .i64 0, .int .i64 0]) ?_ 1 _ rfl; (with_reducible repeat (first | refine q5i ?_ _ | refine q6i ?_ | refine q7i ?_ _)); refine qfi (cs := #[.int .i64 0, .int .i64 0, .int .i64 0, .int .i64 0, .int .i64 0]) ?_ 0 _ rfl; (with_reducible repeat (first | refine q5i ?_ _ | refine q6i ?_ | refine q7i ?_ _)); exact BK377.out) hb); have n1_ := qgi (q9i (by repeat (first | (with_reducible first | exact HB.out | apply q1i | apply q2i | apply q3i | refine q4i ?_ GE377.out) | exact HB.out)) hb); clear BK377; clear HB; have BK377 := n0_; have HB := n1_; clear n0_ n1_; (try clear hb); (try clear hb2); (try clear hk); (try clear hi)) | ((with_reducible refine qti (f := 36) rfl ?_); refine goesL_ (some 16) rfl rfl Tryd.func36 (by kernel_rfl) rfl #[.string t378] rfl (by (try simp only [List.map_toArray, List.map_cons, List.map_nil]); first | done | rfl | (simp only [List.length_drop, List.length_take]; rfl)) ?_; (with_reducible refine (impl_ParseJet.calls k t378 t379 t380 t381 t382 t383 t384 _ A6.out ?tabs).mono ?_); (case tabs => exact Tabs.below HT.out (by repeat (first | (with_reducible first | exact HB.out | apply q1i | apply q2i | apply q3i | refine q4i ?_ GE377.out) | exact HB.out))); rintro e w27 ⟨rfl, hb⟩; refine ⟨_, rfl, ?_⟩; have n0_ := qgi (q8i (g := gb377) (o := .cells #[.int .i64 t372, .int .i64 t373, .int .i64 t374, .int .i64 t375, .int .i64 t376] 45 (0, 0)) (by (with_reducible repeat (first | refine q5i ?_ _ | refine q6i ?_ | refine q7i ?_ _)); exact BK377.out) hb); have n1_ := qgi (q9i (by repeat (first | (with_reducible first | exact HB.out | apply q1i | apply q2i | apply q3i | refine q4i ?_ GE377.out) | exact HB.out)) hb); clear BK377; clear HB; have BK377 := n0_; have HB := n1_; clear n0_ n1_; (try clear hb); (try clear hb2); (try clear hk); (try clear hi)) | ((with_reducible refine qui (N := 4) rfl ?_); refine qhi ?hg (N := 4) ?hd (cs := #[.int .i64 0, .int .i64 0, .int .i64 0, .int .i64 0, .int .i64 0]) (t := 45) ?hr ?_; (case hd => rfl); (case hg => rfl); (case hr => first | (go_simp; done) | (go_simp; rfl)); intro gb385 hg w28 hbox hb; have n0_ := qgi (q8i (g := gb377) (o := .cells #[.int .i64 t372, .int .i64 t373, .int .i64 t374, .int .i64 t375, .int .i64 t376] 45 (0, 0)) (by (with_reducible repeat (first | refine q5i ?_ _ | refine q6i ?_ | refine q7i ?_ _)); exact BK377.out) hb); have n1_ := qgi (q9i (by repeat (first | (with_reducible first | exact HB.out | apply q1i | apply q2i | apply q3i | refine q4i ?_ GE377.out) | exact HB.out)) hb); have n2_ := qgi (hbox); have n3_ := qgi ((by rw [hg]; exact (qai (by repeat (first | (with_reducible first | exact HB.out | apply q1i | apply q2i | apply q3i | refine q4i ?_ GE377.out) | exact HB.out))) : w.heap.size ≤ gb385)); have n4_ := qgi ((by rw [hg]; exact (qai (by repeat (first | (with_reducible first | exact HB.out | apply q1i | apply q2i | apply q3i | refine q4i ?_ GE377.out) | exact HB.out))) : w.heap.size ≤ gb385)); have n5_ := qgi ((by rw [hg]; exact qvi (qdi (g := gb377) (o := .cells #[.int .i64 t372, .int .i64 t373, .int .i64 t374, .int .i64 t375, .int .i64 t376] 45 (0, 0)) (by (with_reducible repeat (first | refine q5i ?_ _ | refine q6i ?_ | refine q7i ?_ _)); exact BK377.out)) : gb377 ≠ gb385)); have n6_ := qgi ((by rw [hg]; exact qwi (qdi (g := gb377) (o := .cells #[.int .i64 t372, .int .i64 t373, .int .i64 t374, .int .i64 t375, .int .i64 t376] 45 (0, 0)) (by (with_reducible repeat (first | refine q5i ?_ _ | refine q6i ?_ | refine q7i ?_ _)); exact BK377.out)) : gb385 ≠ gb377)); clear BK377; clear HB; have BK377 := n0_; have HB := n1_; have BK385 := n2_; have GW385 := n3_; have GE385 := n4_; have NB377_385 := n5_; have NB385_377 := n6_; clear n0_ n1_ n2_ n3_ n4_ n5_ n6_; clear hb hbox hg; have hnb29 := NB385_377.out; have hnc29 := NB377_385.out; have hcz30_0 : w28.cell? ⟨gb385, 0, none⟩ = some (.int .i64 0) := (qci BK385.out 0).trans rfl; have hcz30_1 : w28.cell? ⟨gb385, 1, none⟩ = some (.int .i64 0) := (qci BK385.out 1).trans rfl; have hcz30_2 : w28.cell? ⟨gb385, 2, none⟩ = some (.int .i64 0) := (qci BK385.out 2).trans rfl; have hcz30_3 : w28.cell? ⟨gb385, 3, none⟩ = some (.int .i64 0) := (qci BK385.out 3).trans rfl; have hcz30_4 : w28.cell? ⟨gb385, 4, none⟩ = some (.int .i64 0) := (qci BK385.out 4).trans rfl; have hfz30_0 := qbi BK385.out 0; have hfz30_1 := qbi BK385.out 1; have hfz30_2 := qbi BK385.out 2; have hfz30_3 := qbi BK385.out 3; have hfz30_4 := qbi BK385.out 4))
   have n0_ : Aside0 ((((((w28.setCell ⟨gb385, 0, none⟩ (.int .i64 t379)).setCell ⟨gb385, 1, none⟩ (.int .i64 t380)).setCell ⟨gb385, 2, none⟩ (.int .i64 t381)).setCell ⟨gb385, 3, none⟩ (.int .i64 t382)).setCell ⟨gb385, 4, none⟩ (.int .i64 t383)).heap[gb377]? = some (.cells #[.int .i64 t372, .int .i64 t373, .int .i64 t374, .int .i64 t375, .int .i64 t376] 45 (0, 0))) := ⟨by (with_reducible repeat (first | refine q5i ?_ _ | refine q6i ?_ | refine q7i ?_ _)); refine qei ?_ NB377_385.out _; (with_reducible repeat (first | refine q5i ?_ _ | refine q6i ?_ | refine q7i ?_ _)); refine qei ?_ NB377_385.out _; (with_reducible repeat (first | refine q5i ?_ _ | refine q6i ?_ | refine q7i ?_ _)); refine qei ?_ NB377_385.out _; (with_reducible repeat (first | refine q5i ?_ _ | refine q6i ?_ | refine q7i ?_ _)); refine qei ?_ NB377_385.out _; (with_reducible repeat (first | refine q5i ?_ _ | refine q6i ?_ | refine q7i ?_ _)); refine qei ?_ NB377_385.out _; (with_reducible repeat (first | refine q5i ?_ _ | refine q6i ?_ | refine q7i ?_ _)); exact BK377.out⟩
   have n1_ : Aside0 ((((((w28.setCell ⟨gb385, 0, none⟩ (.int .i64 t379)).setCell ⟨gb385, 1, none⟩ (.int .i64 t380)).setCell ⟨gb385, 2, none⟩ (.int .i64 t381)).setCell ⟨gb385, 3, none⟩ (.int .i64 t382)).setCell ⟨gb385, 4, none⟩ (.int .i64 t383)).heap[gb385]? = some (.cells #[.int .i64 t379, .int .i64 t380, .int .i64 t381, .int .i64 t382, .int .i64 t383] 45 (0, 0))) := ⟨by (with_reducible repeat (first | refine q5i ?_ _ | refine q6i ?_ | refine q7i ?_ _)); refine qfi (cs := #[.int .i64 t379, .int .i64 t380, .int .i64 t381, .int .i64 t382, .int .i64 0]) ?_ 4 _ rfl; (with_reducible repeat (first | refine q5i ?_ _ | refine q6i ?_ | refine q7i ?_ _)); refine qfi (cs := #[.int .i64 t379, .int .i64 t380, .int .i64 t381, .int .i64 0, .int .i64 0]) ?_ 3 _ rfl; (with_reducible repeat (first | refine q5i ?_ _ | refine q6i ?_ | refine q7i ?_ _)); refine qfi (cs := #[.int .i64 t379, .int .i64 t380, .int .i64 0, .int .i64 0, .int .i64 0]) ?_ 2 _ rfl; (with_reducible repeat (first | refine q5i ?_ _ | refine q6i ?_ | refine q7i ?_ _)); refine qfi (cs := #[.int .i64 t379, .int .i64 0, .int .i64 0, .int .i64 0, .int .i64 0]) ?_ 1 _ rfl; (with_reducible repeat (first | refine q5i ?_ _ | refine q6i ?_ | refine q7i ?_ _)); refine qfi (cs := #[.int .i64 0, .int .i64 0, .int .i64 0, .int .i64 0, .int .i64 0]) ?_ 0 _ rfl; (with_reducible repeat (first | refine q5i ?_ _ | refine q6i ?_ | refine q7i ?_ _)); exact BK385.out⟩
   have n2_ : Aside0 (Below w.heap.size w (((((w28.setCell ⟨gb385, 0, none⟩ (.int .i64 t379)).setCell ⟨gb385, 1, none⟩ (.int .i64 t380)).setCell ⟨gb385, 2, none⟩ (.int .i64 t381)).setCell ⟨gb385, 3, none⟩ (.int .i64 t382)).setCell ⟨gb385, 4, none⟩ (.int .i64 t383))) := ⟨by repeat (first | (with_reducible first | exact HB.out | apply q1i | apply q2i | apply q3i | refine q4i ?_ GE377.out | refine q4i ?_ GE385.out) | exact HB.out)⟩
   (try clear BK377)
   (try clear BK385)
   (try clear HB)
   generalize (((((w28.setCell ⟨gb385, 0, none⟩ (.int .i64 t379)).setCell ⟨gb385, 1, none⟩ (.int .i64 t380)).setCell ⟨gb385, 2, none⟩ (.int .i64 t381)).setCell ⟨gb385, 3, none⟩ (.int .i64 t382)).setCell ⟨gb385, 4, none⟩ (.int .i64 t383)) = w31 at n0_ n1_ n2_ ⊢
   have BK377 := n0_
   have BK385 := n1_
   have HB := n2_
   clear n0_ n1_ n2_
   have n0_ := qgi (q6i BK377.out)
   have n1_ := qgi (q6i BK385.out)
   have n2_ := qgi (q3i HB.out)
   clear BK377
   clear BK385
   clear HB
   have BK377 := n0_
   have BK385 := n1_
   have HB := n2_
   clear n0_ n1_ n2_
   refine start_ (n := 5) (S := fun w' => w'.cell? ⟨gb377, 0, none⟩ = some (.int .i64 t372) ∧ w'.cell? ⟨gb377, 1, none⟩ = some (.int .i64 t373) ∧ w'.cell? ⟨gb377, 2, none⟩ = some (.int .i64 t374) ∧ w'.cell? ⟨gb377, 3, none⟩ = some (.int .i64 t375) ∧ w'.cell? ⟨gb377, 4, none⟩ = some (.int .i64 t376)) (ds := []) #[false, false, false, false, false] (by kernel_rfl) rfl rfl ⟨(qci BK377.out 0).trans rfl, (qci BK377.out 1).trans rfl, (qci BK377.out 2).trans rfl, (qci BK377.out 3).trans rfl, (qci BK377.out 4).trans rfl⟩ (fun hHeld => ?_)
   generalize w31.drew = w32 at BK377 BK385 HB hHeld ⊢
   refine take_ (i := 0) (N := some 19) (v := ?_) (a' := ?_) #[true, false, false, false, false] rfl rfl (by kernel_rfl) (fun _ _ _ h => h) (Or.inl ⟨by rfl, ?_⟩) hHeld ?_ ?_
   rotate_left
   ·rintro w' ⟨s0, s1, s2, s3, s4⟩
    go_simp
    with_reducible rfl
   rotate_left
   ·simp only [Act.put, p1i, p2i, p3i, i64_w, i32_w]
    rfl
   refine take_ (i := 2) (N := some 21) (v := ?_) (a' := ?_) #[true, false, true, false, false] rfl rfl (by kernel_rfl) (fun _ _ _ h => h) (Or.inl ⟨by rfl, ?_⟩) hHeld ?_ ?_
   rotate_left
   ·rintro w' ⟨s0, s1, s2, s3, s4⟩
    go_simp
    with_reducible rfl
   rotate_left
   ·simp only [Act.put, p1i, p2i, p3i, i64_w, i32_w]
    rfl
   refine one_ (i := 1) (N := some 20) #[true, true, true, false, false] rfl rfl (by kernel_rfl) (by decide) (fun K hK => ?_)
   refine goes_ Tryd.func53 (by kernel_rfl) rfl #[.agg #[.int .i64 t372, .int .i64 t373, .int .i64 t374, .int .i64 t375, .int .i64 t376]] (by rfl) rfl rfl (by (try simp only [List.map_toArray, List.map_cons, List.map_nil]); first | done | rfl | (simp only [List.length_drop, List.length_take]; rfl)) ?_
   with_reducible refine (impl_IsJet.calls t372 t373 t374 t375 t376 t386 _ A7.out).mono ?_
   rintro e w33 ⟨rfl, hb⟩
   refine ⟨_, rfl, ?_⟩
   have n0_ := qgi (q8i (g := gb377) (o := .cells #[.int .i64 t372, .int .i64 t373, .int .i64 t374, .int .i64 t375, .int .i64 t376] 45 (0, 0)) (by (with_reducible repeat (first | refine q5i ?_ _ | refine q6i ?_ | refine q7i ?_ _)); exact BK377.out) hb)
   have n1_ := qgi (q8i (g := gb385) (o := .cells #[.int .i64 t379, .int .i64 t380, .int .i64 t381, .int .i64 t382, .int .i64 t383] 45 (0, 0)) (by (with_reducible repeat (first | refine q5i ?_ _ | refine q6i ?_ | refine q7i ?_ _)); exact BK385.out) hb)
   have n2_ := qgi (q9i (by repeat (first | (with_reducible first | exact HB.out | apply q1i | apply q2i | apply q3i | refine q4i ?_ GE377.out | refine q4i ?_ GE385.out) | exact HB.out)) hb)
   clear BK377
   clear BK385
   clear HB
   have BK377 := n0_
   have BK385 := n1_
   have HB := n2_
   clear n0_ n1_ n2_
   (try clear hb)
   (try clear hb2)
   (try clear hk)
   (try clear hi)
   refine hK.out _ _ ⟨(qci BK377.out 0).trans rfl, (qci BK377.out 1).trans rfl, (qci BK377.out 2).trans rfl, (qci BK377.out 3).trans rfl, (qci BK377.out 4).trans rfl⟩ (fun hHeld => ?_)
   clear hK K
   refine norm_ (a' := ?_) ?_ ?_
   rotate_left
   ·show Act.put _ (some 20) _ = _
    simp only [Act.put, p1i, p2i, p3i, i64_w, i32_w]
    rfl
   refine one_ (i := 3) (N := some 22) #[true, true, true, true, false] rfl rfl (by kernel_rfl) (by decide) (fun K hK => ?_)
   refine goes_ Tryd.func54 (by kernel_rfl) rfl #[.agg #[.int .i64 t372, .int .i64 t373, .int .i64 t374, .int .i64 t375, .int .i64 t376]] (by rfl) rfl rfl (by (try simp only [List.map_toArray, List.map_cons, List.map_nil]); first | done | rfl | (simp only [List.length_drop, List.length_take]; rfl)) ?_
   with_reducible refine (spec_IsJet.calls t372 t373 t374 t375 t376 t387 _ A8.out).mono ?_
   rintro e w34 ⟨rfl, hb⟩
   refine ⟨_, rfl, ?_⟩
   have n0_ := qgi (q8i (g := gb377) (o := .cells #[.int .i64 t372, .int .i64 t373, .int .i64 t374, .int .i64 t375, .int .i64 t376] 45 (0, 0)) (by (with_reducible repeat (first | refine q5i ?_ _ | refine q6i ?_ | refine q7i ?_ _)); exact BK377.out) hb)
   have n1_ := qgi (q8i (g := gb385) (o := .cells #[.int .i64 t379, .int .i64 t380, .int .i64 t381, .int .i64 t382, .int .i64 t383] 45 (0, 0)) (by (with_reducible repeat (first | refine q5i ?_ _ | refine q6i ?_ | refine q7i ?_ _)); exact BK385.out) hb)
   have n2_ := qgi (q9i (by repeat (first | (with_reducible first | exact HB.out | apply q1i | apply q2i | apply q3i | refine q4i ?_ GE377.out | refine q4i ?_ GE385.out) | exact HB.out)) hb)
   clear BK377
   clear BK385
   clear HB
   have BK377 := n0_
   have BK385 := n1_
   have HB := n2_
   clear n0_ n1_ n2_
   (try clear hb)
   (try clear hb2)
   (try clear hk)
   (try clear hi)
   refine hK.out _ _ ⟨(qci BK377.out 0).trans rfl, (qci BK377.out 1).trans rfl, (qci BK377.out 2).trans rfl, (qci BK377.out 3).trans rfl, (qci BK377.out 4).trans rfl⟩ (fun hHeld => ?_)
   clear hK K
   refine norm_ (a' := ?_) ?_ ?_
   rotate_left
   ·show Act.put _ (some 22) _ = _
    simp only [Act.put, p1i, p2i, p3i, i64_w, i32_w]
    rfl
   refine pure_ (i := 4) (N := some 23) (v := ?_) (a' := ?_) #[true, true, true, true, true] rfl rfl (by kernel_rfl) (fun _ _ _ h => h) (Or.inl ⟨by rfl, ?_⟩) ?_ ?_
   rotate_left
   ·intro w'
    go_simp
    with_reducible rfl
   rotate_left
   ·simp only [Act.put, p1i, p2i, p3i, i64_w, i32_w]
    rfl
   refine done_ (by kernel_rfl) ?_
   go_upto_region 7 with (fail)
   go_cut [35] (fun v35 wc => ∃ (kq : Nat) (x35_21 : Bool), v35 = .bool x35_21 ∧ Aside0 (laws_FnJetText.j0 kq l0 x35_21 = some r) ∧ Aside0 (kq ≤ k) ∧ Aside0 (wc.heap[gb377]? = some (.cells #[.int .i64 t372, .int .i64 t373, .int .i64 t374, .int .i64 t375, .int .i64 t376] 45 (0, 0))) ∧ Aside0 (wc.heap[gb385]? = some (.cells #[.int .i64 t379, .int .i64 t380, .int .i64 t381, .int .i64 t382, .int .i64 t383] 45 (0, 0))) ∧ Aside0 (Below w.heap.size w wc))
   case first =>
    have H := HC22.out
    clear HC22
    replace H := Option.bind_eq_some_iff.mp H
    obtain ⟨t388, A350, H⟩ := H
    replace H : (if (t384 != t388) = true then (laws_FnJetText.j0 k l0 true) else (if t384 = true then (laws_FnJetText.j0 k l0 ((!(t372 == t379) || (!(t373 == t380))) || (!(t374 == t381) || (!(t375 == t382) || (!(t376 == t383)))))) else (laws_FnJetText.j0 k l0 false))) = some r := H
    have A35 := qgi A350
    clear A350
    by_cases c36 : (t384 != t388) = true
    ·rw [if_pos c36] at H
     have c36b0 : (t384 != t388) = true := c36
     (try (have c36b1 : decide (t384 = t388) = false := by simpa using c36))
     (try (have c36b2 : (t384 == t388) = false := by simpa using c36))
     (try (have c36b3 : ¬ (t384 = t388) := by simpa using c36))
     clear c36
     (first | rw [c36b0] | (simp only [i64_w, i32_w]; rw [c36b0]) | skip)
     have H' := qgi H
     clear H
     have hnb37 := NB377_385.out
     have hnc37 := NB385_377.out
     have hcz38_0 : w34.cell? ⟨gb377, 0, none⟩ = some (.int .i64 t372) := (qci BK377.out 0).trans rfl
     have hcz38_1 : w34.cell? ⟨gb377, 1, none⟩ = some (.int .i64 t373) := (qci BK377.out 1).trans rfl
     have hcz38_2 : w34.cell? ⟨gb377, 2, none⟩ = some (.int .i64 t374) := (qci BK377.out 2).trans rfl
     have hcz38_3 : w34.cell? ⟨gb377, 3, none⟩ = some (.int .i64 t375) := (qci BK377.out 3).trans rfl
     have hcz38_4 : w34.cell? ⟨gb377, 4, none⟩ = some (.int .i64 t376) := (qci BK377.out 4).trans rfl
     have hfz38_0 := qbi BK377.out 0
     have hfz38_1 := qbi BK377.out 1
     have hfz38_2 := qbi BK377.out 2
     have hfz38_3 := qbi BK377.out 3
     have hfz38_4 := qbi BK377.out 4
     go_wp2_with (first | ((with_reducible refine qti (f := 53) rfl ?_); refine goesL_ (some 26) rfl rfl Tryd.func53 (by kernel_rfl) rfl #[.agg #[.int .i64 t372, .int .i64 t373, .int .i64 t374, .int .i64 t375, .int .i64 t376]] rfl (by (try simp only [List.map_toArray, List.map_cons, List.map_nil]); first | done | rfl | (simp only [List.length_drop, List.length_take]; rfl)) ?_; (with_reducible refine (impl_IsJet.calls t372 t373 t374 t375 t376 t388 _ A35.out).mono ?_); rintro e w39 ⟨rfl, hb⟩; refine ⟨_, rfl, ?_⟩; have n0_ := qgi (q8i (g := gb377) (o := .cells #[.int .i64 t372, .int .i64 t373, .int .i64 t374, .int .i64 t375, .int .i64 t376] 45 (0, 0)) (by (with_reducible repeat (first | refine q5i ?_ _ | refine q6i ?_ | refine q7i ?_ _)); exact BK377.out) hb); have n1_ := qgi (q8i (g := gb385) (o := .cells #[.int .i64 t379, .int .i64 t380, .int .i64 t381, .int .i64 t382, .int .i64 t383] 45 (0, 0)) (by (with_reducible repeat (first | refine q5i ?_ _ | refine q6i ?_ | refine q7i ?_ _)); exact BK385.out) hb); have n2_ := qgi (q9i (by repeat (first | (with_reducible first | exact HB.out | apply q1i | apply q2i | apply q3i | refine q4i ?_ GE377.out | refine q4i ?_ GE385.out) | exact HB.out)) hb); clear BK377; clear BK385; clear HB; have BK377 := n0_; have BK385 := n1_; have HB := n2_; clear n0_ n1_ n2_; (try clear hb); (try clear hb2); (try clear hk); (try clear hi)))
     go_meet
     case rel => exact ⟨_, (true), (by first | rfl | (simp; done) | (simp [*]; done)), H', ⟨by first | omega | exact Nat.le_refl _⟩, ⟨by (with_reducible repeat (first | refine q5i ?_ _ | refine q6i ?_ | refine q7i ?_ _)); exact BK377.out⟩, ⟨by (with_reducible repeat (first | refine q5i ?_ _ | refine q6i ?_ | refine q7i ?_ _)); exact BK385.out⟩, ⟨by repeat (first | (with_reducible first | exact HB.out | apply q1i | apply q2i | apply q3i | refine q4i ?_ GE377.out | refine q4i ?_ GE385.out) | exact HB.out)⟩⟩
    ·rw [if_neg c36] at H
     have c36b0 : (t384 != t388) = false := by simpa using c36
     (try (have c36b1 : decide (t384 = t388) = true := by simpa using c36))
     (try (have c36b2 : (t384 == t388) = true := by simpa using c36))
     clear c36
     (first | rw [c36b0] | (simp only [i64_w, i32_w]; rw [c36b0]) | skip)
     by_cases c40 : t384 = true
     ·subst c40
      have H1 : (laws_FnJetText.j0 k l0 ((!(t372 == t379) || (!(t373 == t380))) || (!(t374 == t381) || (!(t375 == t382) || (!(t376 == t383)))))) = some r := by rw [if_pos rfl] at H; exact H
      clear H
      have H := H1
      clear H1
      have H' := qgi H
      clear H
      have hnb41 := NB377_385.out
      have hnc41 := NB385_377.out
      have hcz42_0 : w34.cell? ⟨gb377, 0, none⟩ = some (.int .i64 t372) := (qci BK377.out 0).trans rfl
      have hcz42_1 : w34.cell? ⟨gb377, 1, none⟩ = some (.int .i64 t373) := (qci BK377.out 1).trans rfl
      have hcz42_2 : w34.cell? ⟨gb377, 2, none⟩ = some (.int .i64 t374) := (qci BK377.out 2).trans rfl
      have hcz42_3 : w34.cell? ⟨gb377, 3, none⟩ = some (.int .i64 t375) := (qci BK377.out 3).trans rfl
      have hcz42_4 : w34.cell? ⟨gb377, 4, none⟩ = some (.int .i64 t376) := (qci BK377.out 4).trans rfl
      have hfz42_0 := qbi BK377.out 0
      have hfz42_1 := qbi BK377.out 1
      have hfz42_2 := qbi BK377.out 2
      have hfz42_3 := qbi BK377.out 3
      have hfz42_4 := qbi BK377.out 4
      go_wp2_with (first | ((with_reducible refine qti (f := 53) rfl ?_); refine goesL_ (some 26) rfl rfl Tryd.func53 (by kernel_rfl) rfl #[.agg #[.int .i64 t372, .int .i64 t373, .int .i64 t374, .int .i64 t375, .int .i64 t376]] rfl (by (try simp only [List.map_toArray, List.map_cons, List.map_nil]); first | done | rfl | (simp only [List.length_drop, List.length_take]; rfl)) ?_; (with_reducible refine (impl_IsJet.calls t372 t373 t374 t375 t376 t388 _ A35.out).mono ?_); rintro e w43 ⟨rfl, hb⟩; refine ⟨_, rfl, ?_⟩; have n0_ := qgi (q8i (g := gb377) (o := .cells #[.int .i64 t372, .int .i64 t373, .int .i64 t374, .int .i64 t375, .int .i64 t376] 45 (0, 0)) (by (with_reducible repeat (first | refine q5i ?_ _ | refine q6i ?_ | refine q7i ?_ _)); exact BK377.out) hb); have n1_ := qgi (q8i (g := gb385) (o := .cells #[.int .i64 t379, .int .i64 t380, .int .i64 t381, .int .i64 t382, .int .i64 t383] 45 (0, 0)) (by (with_reducible repeat (first | refine q5i ?_ _ | refine q6i ?_ | refine q7i ?_ _)); exact BK385.out) hb); have n2_ := qgi (q9i (by repeat (first | (with_reducible first | exact HB.out | apply q1i | apply q2i | apply q3i | refine q4i ?_ GE377.out | refine q4i ?_ GE385.out) | exact HB.out)) hb); clear BK377; clear BK385; clear HB; have BK377 := n0_; have BK385 := n1_; have HB := n2_; clear n0_ n1_ n2_; (try clear hb); (try clear hb2); (try clear hk); (try clear hi); have hcz44_0 : w43.cell? ⟨gb377, 0, none⟩ = some (.int .i64 t372) := (qci BK377.out 0).trans rfl; have hcz44_1 : w43.cell? ⟨gb377, 1, none⟩ = some (.int .i64 t373) := (qci BK377.out 1).trans rfl; have hcz44_2 : w43.cell? ⟨gb377, 2, none⟩ = some (.int .i64 t374) := (qci BK377.out 2).trans rfl; have hcz44_3 : w43.cell? ⟨gb377, 3, none⟩ = some (.int .i64 t375) := (qci BK377.out 3).trans rfl; have hcz44_4 : w43.cell? ⟨gb377, 4, none⟩ = some (.int .i64 t376) := (qci BK377.out 4).trans rfl; have hfz44_0 := qbi BK377.out 0; have hfz44_1 := qbi BK377.out 1; have hfz44_2 := qbi BK377.out 2; have hfz44_3 := qbi BK377.out 3; have hfz44_4 := qbi BK377.out 4; have hcz45_0 : w43.cell? ⟨gb385, 0, none⟩ = some (.int .i64 t379) := (qci BK385.out 0).trans rfl; have hcz45_1 : w43.cell? ⟨gb385, 1, none⟩ = some (.int .i64 t380) := (qci BK385.out 1).trans rfl; have hcz45_2 : w43.cell? ⟨gb385, 2, none⟩ = some (.int .i64 t381) := (qci BK385.out 2).trans rfl; have hcz45_3 : w43.cell? ⟨gb385, 3, none⟩ = some (.int .i64 t382) := (qci BK385.out 3).trans rfl; have hcz45_4 : w43.cell? ⟨gb385, 4, none⟩ = some (.int .i64 t383) := (qci BK385.out 4).trans rfl; have hfz45_0 := qbi BK385.out 0; have hfz45_1 := qbi BK385.out 1; have hfz45_2 := qbi BK385.out 2; have hfz45_3 := qbi BK385.out 3; have hfz45_4 := qbi BK385.out 4))
      go_meet
      case rel => exact ⟨_, (((!(t372 == t379) || (!(t373 == t380))) || (!(t374 == t381) || (!(t375 == t382) || (!(t376 == t383)))))), (by first | rfl | (simp; done) | (simp [*]; done)), H', ⟨by first | omega | exact Nat.le_refl _⟩, ⟨by (with_reducible repeat (first | refine q5i ?_ _ | refine q6i ?_ | refine q7i ?_ _)); exact BK377.out⟩, ⟨by (with_reducible repeat (first | refine q5i ?_ _ | refine q6i ?_ | refine q7i ?_ _)); exact BK385.out⟩, ⟨by repeat (first | (with_reducible first | exact HB.out | apply q1i | apply q2i | apply q3i | refine q4i ?_ GE377.out | refine q4i ?_ GE385.out) | exact HB.out)⟩⟩
     ·replace c40 := Bool.eq_false_iff.mpr c40
      subst c40
      have H1 : (laws_FnJetText.j0 k l0 false) = some r := by rw [if_neg (show ¬ (false = true) by decide)] at H; exact H
      clear H
      have H := H1
      clear H1
      have H' := qgi H
      clear H
      have hnb46 := NB377_385.out
      have hnc46 := NB385_377.out
      have hcz47_0 : w34.cell? ⟨gb377, 0, none⟩ = some (.int .i64 t372) := (qci BK377.out 0).trans rfl
      have hcz47_1 : w34.cell? ⟨gb377, 1, none⟩ = some (.int .i64 t373) := (qci BK377.out 1).trans rfl
      have hcz47_2 : w34.cell? ⟨gb377, 2, none⟩ = some (.int .i64 t374) := (qci BK377.out 2).trans rfl
      have hcz47_3 : w34.cell? ⟨gb377, 3, none⟩ = some (.int .i64 t375) := (qci BK377.out 3).trans rfl
      have hcz47_4 : w34.cell? ⟨gb377, 4, none⟩ = some (.int .i64 t376) := (qci BK377.out 4).trans rfl
      have hfz47_0 := qbi BK377.out 0
      have hfz47_1 := qbi BK377.out 1
      have hfz47_2 := qbi BK377.out 2
      have hfz47_3 := qbi BK377.out 3
      have hfz47_4 := qbi BK377.out 4
      go_wp2_with (first | ((with_reducible refine qti (f := 53) rfl ?_); refine goesL_ (some 26) rfl rfl Tryd.func53 (by kernel_rfl) rfl #[.agg #[.int .i64 t372, .int .i64 t373, .int .i64 t374, .int .i64 t375, .int .i64 t376]] rfl (by (try simp only [List.map_toArray, List.map_cons, List.map_nil]); first | done | rfl | (simp only [List.length_drop, List.length_take]; rfl)) ?_; (with_reducible refine (impl_IsJet.calls t372 t373 t374 t375 t376 t388 _ A35.out).mono ?_); rintro e w48 ⟨rfl, hb⟩; refine ⟨_, rfl, ?_⟩; have n0_ := qgi (q8i (g := gb377) (o := .cells #[.int .i64 t372, .int .i64 t373, .int .i64 t374, .int .i64 t375, .int .i64 t376] 45 (0, 0)) (by (with_reducible repeat (first | refine q5i ?_ _ | refine q6i ?_ | refine q7i ?_ _)); exact BK377.out) hb); have n1_ := qgi (q8i (g := gb385) (o := .cells #[.int .i64 t379, .int .i64 t380, .int .i64 t381, .int .i64 t382, .int .i64 t383] 45 (0, 0)) (by (with_reducible repeat (first | refine q5i ?_ _ | refine q6i ?_ | refine q7i ?_ _)); exact BK385.out) hb); have n2_ := qgi (q9i (by repeat (first | (with_reducible first | exact HB.out | apply q1i | apply q2i | apply q3i | refine q4i ?_ GE377.out | refine q4i ?_ GE385.out) | exact HB.out)) hb); clear BK377; clear BK385; clear HB; have BK377 := n0_; have BK385 := n1_; have HB := n2_; clear n0_ n1_ n2_; (try clear hb); (try clear hb2); (try clear hk); (try clear hi)))
      go_meet
      case rel => exact ⟨_, (false), (by first | rfl | (simp; done) | (simp [*]; done)), H', ⟨by first | omega | exact Nat.le_refl _⟩, ⟨by (with_reducible repeat (first | refine q5i ?_ _ | refine q6i ?_ | refine q7i ?_ _)); exact BK377.out⟩, ⟨by (with_reducible repeat (first | refine q5i ?_ _ | refine q6i ?_ | refine q7i ?_ _)); exact BK385.out⟩, ⟨by repeat (first | (with_reducible first | exact HB.out | apply q1i | apply q2i | apply q3i | refine q4i ?_ GE377.out | refine q4i ?_ GE385.out) | exact HB.out)⟩⟩
   case rest =>
    clear HC22
    try clear c1
    try clear c2
    try clear p2
    try clear c3
    try clear c4
    try clear c5
    try clear c9
    try clear c9b0
    try clear c9b1
    try clear c9b2
    try clear c14
    try clear c16
    try clear c29
    try clear c34
    try clear c36
    try clear c36b0
    try clear c36b1
    try clear c36b2
    try clear c37
    try clear c38
    try clear c40
    try clear c41
    try clear c46
    try clear hcz12_0
    try clear hcz12_1
    try clear hcz12_2
    try clear hcz12_3
    try clear hcz12_4
    try clear hcz17_0
    try clear hcz17_1
    try clear hcz17_2
    try clear hcz17_3
    try clear hcz17_4
    try clear hcz25_0
    try clear hcz25_1
    try clear hcz25_2
    try clear hcz25_3
    try clear hcz25_4
    try clear hcz30_0
    try clear hcz30_1
    try clear hcz30_2
    try clear hcz30_3
    try clear hcz30_4
    try clear hcz38_0
    try clear hcz38_1
    try clear hcz38_2
    try clear hcz38_3
    try clear hcz38_4
    try clear hcz42_0
    try clear hcz42_1
    try clear hcz42_2
    try clear hcz42_3
    try clear hcz42_4
    try clear hcz44_0
    try clear hcz44_1
    try clear hcz44_2
    try clear hcz44_3
    try clear hcz44_4
    try clear hcz45_0
    try clear hcz45_1
    try clear hcz45_2
    try clear hcz45_3
    try clear hcz45_4
    try clear hcz47_0
    try clear hcz47_1
    try clear hcz47_2
    try clear hcz47_3
    try clear hcz47_4
    try clear hfz12_0
    try clear hfz12_1
    try clear hfz12_2
    try clear hfz12_3
    try clear hfz12_4
    try clear hfz17_0
    try clear hfz17_1
    try clear hfz17_2
    try clear hfz17_3
    try clear hfz17_4
    try clear hfz25_0
    try clear hfz25_1
    try clear hfz25_2
    try clear hfz25_3
    try clear hfz25_4
    try clear hfz30_0
    try clear hfz30_1
    try clear hfz30_2
    try clear hfz30_3
    try clear hfz30_4
    try clear hfz38_0
    try clear hfz38_1
    try clear hfz38_2
    try clear hfz38_3
    try clear hfz38_4
    try clear hfz42_0
    try clear hfz42_1
    try clear hfz42_2
    try clear hfz42_3
    try clear hfz42_4
    try clear hfz44_0
    try clear hfz44_1
    try clear hfz44_2
    try clear hfz44_3
    try clear hfz44_4
    try clear hfz45_0
    try clear hfz45_1
    try clear hfz45_2
    try clear hfz45_3
    try clear hfz45_4
    try clear hfz47_0
    try clear hfz47_1
    try clear hfz47_2
    try clear hfz47_3
    try clear hfz47_4
    obtain ⟨kq, x35_21, rfl, HA, HJ21, BK377, BK385, HB⟩ := hcut
    cases kq with
    | zero => exact absurd HA.out (by simp [laws_FnJetText.j0])
    | succ kj21 =>
     have H := HA.out
     clear HA
     simp only [laws_FnJetText.j0] at H
     by_cases c49 : x35_21 = true
     ·subst c49
      have H1 : (some false) = some r := by rw [if_pos rfl] at H; exact H
      clear H
      have H := H1
      clear H1
      obtain rfl := Option.some.inj H
      go_wp2
      go_ret
      exact ⟨by first | rfl | (simp [errW_none, errW_some] <;> rfl) | (simp [*, errW_none, errW_some] <;> rfl), by repeat (first | (with_reducible first | exact HB.out | apply q1i | apply q2i | apply q3i | refine q4i ?_ GE377.out | refine q4i ?_ GE385.out) | exact HB.out)⟩
     ·replace c49 := Bool.eq_false_iff.mpr c49
      subst c49
      have H1 : ((spec_DrawParseJet.f kj21 l0).bind fun t389 => ((impl_ParseJet.f kj21 t389).bind fun bt390 => (if bt390.2.2.2.2.2 = true then ((impl_FormatJet.f kj21 bt390.1 bt390.2.1 bt390.2.2.1 bt390.2.2.2.1 bt390.2.2.2.2.1).bind fun t397 => (some (t397.toList == t389.toList))) else (some true)))) = some r := by rw [if_neg (show ¬ (false = true) by decide)] at H; exact H
      clear H
      have H := H1
      clear H1
      replace H := Option.bind_eq_some_iff.mp H
      obtain ⟨t389, A500, H⟩ := H
      replace H : ((impl_ParseJet.f kj21 t389).bind fun bt390 => (if bt390.2.2.2.2.2 = true then ((impl_FormatJet.f kj21 bt390.1 bt390.2.1 bt390.2.2.1 bt390.2.2.2.1 bt390.2.2.2.2.1).bind fun t397 => (some (t397.toList == t389.toList))) else (some true))) = some r := H
      have A50 := qgi A500
      clear A500
      replace H := Option.bind_eq_some_iff.mp H
      obtain ⟨⟨t390, t391, t392, t393, t394, t395⟩, A510, H⟩ := H
      replace H : (if t395 = true then ((impl_FormatJet.f kj21 t390 t391 t392 t393 t394).bind fun t397 => (some (t397.toList == t389.toList))) else (some true)) = some r := H
      have A51 := qgi A510
      clear A510
      by_cases c52 : t395 = true
      ·subst c52
       have H1 : ((impl_FormatJet.f kj21 t390 t391 t392 t393 t394).bind fun t397 => (some (t397.toList == t389.toList))) = some r := by rw [if_pos rfl] at H; exact H
       clear H
       have H := H1
       clear H1
       replace H := Option.bind_eq_some_iff.mp H
       obtain ⟨t397, A530, H⟩ := H
       replace H : (some (t397.toList == t389.toList)) = some r := H
       have A53 := qgi A530
       clear A530
       obtain rfl := Option.some.inj H
       go_wp2_with (first | ((with_reducible refine qti (f := 55) rfl ?_); refine goesL_ (some 37) rfl rfl Tryd.func55 (by kernel_rfl) rfl #[.slice A0 l0.length c0] rfl (by (try simp only [List.map_toArray, List.map_cons, List.map_nil]); first | done | rfl | (simp only [List.length_drop, List.length_take]; rfl)) ?_; (with_reducible refine (spec_DrawParseJet.calls kj21 _ _ l0 t389 _ ?side1 ?side2 A50.out).mono ?_); (case side1 => repeat (first | exact (qni HR0.out HB.out) | (with_reducible refine qoi ?_ _) | (with_reducible refine qri ?_ _) | (with_reducible refine qsi ?_))); (case side2 => exact HC0.out); rintro e w54 ⟨rfl, hb⟩; refine ⟨_, rfl, ?_⟩; have n0_ := qgi (q8i (g := gb377) (o := .cells #[.int .i64 t372, .int .i64 t373, .int .i64 t374, .int .i64 t375, .int .i64 t376] 45 (0, 0)) (by (with_reducible repeat (first | refine q5i ?_ _ | refine q6i ?_ | refine q7i ?_ _)); exact BK377.out) hb); have n1_ := qgi (q8i (g := gb385) (o := .cells #[.int .i64 t379, .int .i64 t380, .int .i64 t381, .int .i64 t382, .int .i64 t383] 45 (0, 0)) (by (with_reducible repeat (first | refine q5i ?_ _ | refine q6i ?_ | refine q7i ?_ _)); exact BK385.out) hb); have n2_ := qgi (q9i (by repeat (first | (with_reducible first | exact HB.out | apply q1i | apply q2i | apply q3i | refine q4i ?_ GE377.out | refine q4i ?_ GE385.out) | exact HB.out)) hb); clear BK377; clear BK385; clear HB; have BK377 := n0_; have BK385 := n1_; have HB := n2_; clear n0_ n1_ n2_; (try clear hb); (try clear hb2); (try clear hk); (try clear hi)) | ((with_reducible refine qti (f := 36) rfl ?_); refine goesL_ (some 40) rfl rfl Tryd.func36 (by kernel_rfl) rfl #[.string t389] rfl (by (try simp only [List.map_toArray, List.map_cons, List.map_nil]); first | done | rfl | (simp only [List.length_drop, List.length_take]; rfl)) ?_; (with_reducible refine (impl_ParseJet.calls kj21 t389 t390 t391 t392 t393 t394 true _ A51.out ?tabs).mono ?_); (case tabs => exact Tabs.below HT.out (by repeat (first | (with_reducible first | exact HB.out | apply q1i | apply q2i | apply q3i | refine q4i ?_ GE377.out | refine q4i ?_ GE385.out) | exact HB.out))); rintro e w55 ⟨rfl, hb⟩; refine ⟨_, rfl, ?_⟩; have n0_ := qgi (q8i (g := gb377) (o := .cells #[.int .i64 t372, .int .i64 t373, .int .i64 t374, .int .i64 t375, .int .i64 t376] 45 (0, 0)) (by (with_reducible repeat (first | refine q5i ?_ _ | refine q6i ?_ | refine q7i ?_ _)); exact BK377.out) hb); have n1_ := qgi (q8i (g := gb385) (o := .cells #[.int .i64 t379, .int .i64 t380, .int .i64 t381, .int .i64 t382, .int .i64 t383] 45 (0, 0)) (by (with_reducible repeat (first | refine q5i ?_ _ | refine q6i ?_ | refine q7i ?_ _)); exact BK385.out) hb); have n2_ := qgi (q9i (by repeat (first | (with_reducible first | exact HB.out | apply q1i | apply q2i | apply q3i | refine q4i ?_ GE377.out | refine q4i ?_ GE385.out) | exact HB.out)) hb); clear BK377; clear BK385; clear HB; have BK377 := n0_; have BK385 := n1_; have HB := n2_; clear n0_ n1_ n2_; (try clear hb); (try clear hb2); (try clear hk); (try clear hi)) | ((with_reducible refine qui (N := 7) rfl ?_); refine qhi ?hg (N := 7) ?hd (cs := #[.int .i64 0, .int .i64 0, .int .i64 0, .int .i64 0, .int .i64 0]) (t := 45) ?hr ?_; (case hd => rfl); (case hg => rfl); (case hr => first | (go_simp; done) | (go_simp; rfl)); intro gb396 hg w56 hbox hb; have n0_ := qgi (q8i (g := gb377) (o := .cells #[.int .i64 t372, .int .i64 t373, .int .i64 t374, .int .i64 t375, .int .i64 t376] 45 (0, 0)) (by (with_reducible repeat (first | refine q5i ?_ _ | refine q6i ?_ | refine q7i ?_ _)); exact BK377.out) hb); have n1_ := qgi (q8i (g := gb385) (o := .cells #[.int .i64 t379, .int .i64 t380, .int .i64 t381, .int .i64 t382, .int .i64 t383] 45 (0, 0)) (by (with_reducible repeat (first | refine q5i ?_ _ | refine q6i ?_ | refine q7i ?_ _)); exact BK385.out) hb); have n2_ := qgi (q9i (by repeat (first | (with_reducible first | exact HB.out | apply q1i | apply q2i | apply q3i | refine q4i ?_ GE377.out | refine q4i ?_ GE385.out) | exact HB.out)) hb); have n3_ := qgi (hbox); have n4_ := qgi ((by rw [hg]; exact (qai (by repeat (first | (with_reducible first | exact HB.out | apply q1i | apply q2i | apply q3i | refine q4i ?_ GE377.out | refine q4i ?_ GE385.out) | exact HB.out))) : w.heap.size ≤ gb396)); have n5_ := qgi ((by rw [hg]; exact (qai (by repeat (first | (with_reducible first | exact HB.out | apply q1i | apply q2i | apply q3i | refine q4i ?_ GE377.out | refine q4i ?_ GE385.out) | exact HB.out))) : w.heap.size ≤ gb396)); have n6_ := qgi ((by rw [hg]; exact qvi (qdi (g := gb377) (o := .cells #[.int .i64 t372, .int .i64 t373, .int .i64 t374, .int .i64 t375, .int .i64 t376] 45 (0, 0)) (by (with_reducible repeat (first | refine q5i ?_ _ | refine q6i ?_ | refine q7i ?_ _)); exact BK377.out)) : gb377 ≠ gb396)); have n7_ := qgi ((by rw [hg]; exact qwi (qdi (g := gb377) (o := .cells #[.int .i64 t372, .int .i64 t373, .int .i64 t374, .int .i64 t375, .int .i64 t376] 45 (0, 0)) (by (with_reducible repeat (first | refine q5i ?_ _ | refine q6i ?_ | refine q7i ?_ _)); exact BK377.out)) : gb396 ≠ gb377)); have n8_ := qgi ((by rw [hg]; exact qvi (qdi (g := gb385) (o := .cells #[.int .i64 t379, .int .i64 t380, .int .i64 t381, .int .i64 t382, .int .i64 t383] 45 (0, 0)) (by (with_reducible repeat (first | refine q5i ?_ _ | refine q6i ?_ | refine q7i ?_ _)); exact BK385.out)) : gb385 ≠ gb396)); have n9_ := qgi ((by rw [hg]; exact qwi (qdi (g := gb385) (o := .cells #[.int .i64 t379, .int .i64 t380, .int .i64 t381, .int .i64 t382, .int .i64 t383] 45 (0, 0)) (by (with_reducible repeat (first | refine q5i ?_ _ | refine q6i ?_ | refine q7i ?_ _)); exact BK385.out)) : gb396 ≠ gb385)); clear BK377; clear BK385; clear HB; have BK377 := n0_; have BK385 := n1_; have HB := n2_; have BK396 := n3_; have GW396 := n4_; have GE396 := n5_; have NB377_396 := n6_; have NB396_377 := n7_; have NB385_396 := n8_; have NB396_385 := n9_; clear n0_ n1_ n2_ n3_ n4_ n5_ n6_ n7_ n8_ n9_; clear hb hbox hg; have hnb57 := NB396_377.out; have hnc57 := NB377_396.out; have hnb58 := NB396_385.out; have hnc58 := NB385_396.out; have hcz59_0 : w56.cell? ⟨gb396, 0, none⟩ = some (.int .i64 0) := (qci BK396.out 0).trans rfl; have hcz59_1 : w56.cell? ⟨gb396, 1, none⟩ = some (.int .i64 0) := (qci BK396.out 1).trans rfl; have hcz59_2 : w56.cell? ⟨gb396, 2, none⟩ = some (.int .i64 0) := (qci BK396.out 2).trans rfl; have hcz59_3 : w56.cell? ⟨gb396, 3, none⟩ = some (.int .i64 0) := (qci BK396.out 3).trans rfl; have hcz59_4 : w56.cell? ⟨gb396, 4, none⟩ = some (.int .i64 0) := (qci BK396.out 4).trans rfl; have hfz59_0 := qbi BK396.out 0; have hfz59_1 := qbi BK396.out 1; have hfz59_2 := qbi BK396.out 2; have hfz59_3 := qbi BK396.out 3; have hfz59_4 := qbi BK396.out 4) | (go_at_call 34; (with_reducible refine (impl_FormatJet.calls kj21 t390 t391 t392 t393 t394 t397 _ A53.out ?tabs).mono ?_); (case tabs => exact Tabs.below HT.out (by repeat (first | (with_reducible first | exact HB.out | apply q1i | apply q2i | apply q3i | refine q4i ?_ GE377.out | refine q4i ?_ GE385.out | refine q4i ?_ GE396.out) | exact HB.out))); rintro e w60 ⟨rfl, hb⟩; have n0_ := qgi (q8i (g := gb377) (o := .cells #[.int .i64 t372, .int .i64 t373, .int .i64 t374, .int .i64 t375, .int .i64 t376] 45 (0, 0)) (by (with_reducible repeat (first | refine q5i ?_ _ | refine q6i ?_ | refine q7i ?_ _)); refine qei ?_ NB377_396.out _; (with_reducible repeat (first | refine q5i ?_ _ | refine q6i ?_ | refine q7i ?_ _)); refine qei ?_ NB377_396.out _; (with_reducible repeat (first | refine q5i ?_ _ | refine q6i ?_ | refine q7i ?_ _)); refine qei ?_ NB377_396.out _; (with_reducible repeat (first | refine q5i ?_ _ | refine q6i ?_ | refine q7i ?_ _)); refine qei ?_ NB377_396.out _; (with_reducible repeat (first | refine q5i ?_ _ | refine q6i ?_ | refine q7i ?_ _)); refine qei ?_ NB377_396.out _; (with_reducible repeat (first | refine q5i ?_ _ | refine q6i ?_ | refine q7i ?_ _)); exact BK377.out) hb); have n1_ := qgi (q8i (g := gb385) (o := .cells #[.int .i64 t379, .int .i64 t380, .int .i64 t381, .int .i64 t382, .int .i64 t383] 45 (0, 0)) (by (with_reducible repeat (first | refine q5i ?_ _ | refine q6i ?_ | refine q7i ?_ _)); refine qei ?_ NB385_396.out _; (with_reducible repeat (first | refine q5i ?_ _ | refine q6i ?_ | refine q7i ?_ _)); refine qei ?_ NB385_396.out _; (with_reducible repeat (first | refine q5i ?_ _ | refine q6i ?_ | refine q7i ?_ _)); refine qei ?_ NB385_396.out _; (with_reducible repeat (first | refine q5i ?_ _ | refine q6i ?_ | refine q7i ?_ _)); refine qei ?_ NB385_396.out _; (with_reducible repeat (first | refine q5i ?_ _ | refine q6i ?_ | refine q7i ?_ _)); refine qei ?_ NB385_396.out _; (with_reducible repeat (first | refine q5i ?_ _ | refine q6i ?_ | refine q7i ?_ _)); exact BK385.out) hb); have n2_ := qgi (q8i (g := gb396) (o := .cells #[.int .i64 t390, .int .i64 t391, .int .i64 t392, .int .i64 t393, .int .i64 t394] 45 (0, 0)) (by (with_reducible repeat (first | refine q5i ?_ _ | refine q6i ?_ | refine q7i ?_ _)); refine qfi (cs := #[.int .i64 t390, .int .i64 t391, .int .i64 t392, .int .i64 t393, .int .i64 0]) ?_ 4 _ rfl; (with_reducible repeat (first | refine q5i ?_ _ | refine q6i ?_ | refine q7i ?_ _)); refine qfi (cs := #[.int .i64 t390, .int .i64 t391, .int .i64 t392, .int .i64 0, .int .i64 0]) ?_ 3 _ rfl; (with_reducible repeat (first | refine q5i ?_ _ | refine q6i ?_ | refine q7i ?_ _)); refine qfi (cs := #[.int .i64 t390, .int .i64 t391, .int .i64 0, .int .i64 0, .int .i64 0]) ?_ 2 _ rfl; (with_reducible repeat (first | refine q5i ?_ _ | refine q6i ?_ | refine q7i ?_ _)); refine qfi (cs := #[.int .i64 t390, .int .i64 0, .int .i64 0, .int .i64 0, .int .i64 0]) ?_ 1 _ rfl; (with_reducible repeat (first | refine q5i ?_ _ | refine q6i ?_ | refine q7i ?_ _)); refine qfi (cs := #[.int .i64 0, .int .i64 0, .int .i64 0, .int .i64 0, .int .i64 0]) ?_ 0 _ rfl; (with_reducible repeat (first | refine q5i ?_ _ | refine q6i ?_ | refine q7i ?_ _)); exact BK396.out) hb); have n3_ := qgi (q9i (by repeat (first | (with_reducible first | exact HB.out | apply q1i | apply q2i | apply q3i | refine q4i ?_ GE377.out | refine q4i ?_ GE385.out | refine q4i ?_ GE396.out) | exact HB.out)) hb); clear BK377; clear BK385; clear BK396; clear HB; have BK377 := n0_; have BK385 := n1_; have BK396 := n2_; have HB := n3_; clear n0_ n1_ n2_ n3_; (try clear hb); (try clear hb2); (try clear hk); (try clear hi)))
       go_ret
       exact ⟨by first | rfl | (simp [errW_none, errW_some] <;> rfl) | (simp [*, errW_none, errW_some] <;> rfl), by repeat (first | (with_reducible first | exact HB.out | apply q1i | apply q2i | apply q3i | refine q4i ?_ GE377.out | refine q4i ?_ GE385.out | refine q4i ?_ GE396.out) | exact HB.out)⟩
      ·replace c52 := Bool.eq_false_iff.mpr c52
       subst c52
       have H1 : (some true) = some r := by rw [if_neg (show ¬ (false = true) by decide)] at H; exact H
       clear H
       have H := H1
       clear H1
       obtain rfl := Option.some.inj H
       go_wp2_with (first | ((with_reducible refine qti (f := 55) rfl ?_); refine goesL_ (some 37) rfl rfl Tryd.func55 (by kernel_rfl) rfl #[.slice A0 l0.length c0] rfl (by (try simp only [List.map_toArray, List.map_cons, List.map_nil]); first | done | rfl | (simp only [List.length_drop, List.length_take]; rfl)) ?_; (with_reducible refine (spec_DrawParseJet.calls kj21 _ _ l0 t389 _ ?side1 ?side2 A50.out).mono ?_); (case side1 => repeat (first | exact (qni HR0.out HB.out) | (with_reducible refine qoi ?_ _) | (with_reducible refine qri ?_ _) | (with_reducible refine qsi ?_))); (case side2 => exact HC0.out); rintro e w61 ⟨rfl, hb⟩; refine ⟨_, rfl, ?_⟩; have n0_ := qgi (q8i (g := gb377) (o := .cells #[.int .i64 t372, .int .i64 t373, .int .i64 t374, .int .i64 t375, .int .i64 t376] 45 (0, 0)) (by (with_reducible repeat (first | refine q5i ?_ _ | refine q6i ?_ | refine q7i ?_ _)); exact BK377.out) hb); have n1_ := qgi (q8i (g := gb385) (o := .cells #[.int .i64 t379, .int .i64 t380, .int .i64 t381, .int .i64 t382, .int .i64 t383] 45 (0, 0)) (by (with_reducible repeat (first | refine q5i ?_ _ | refine q6i ?_ | refine q7i ?_ _)); exact BK385.out) hb); have n2_ := qgi (q9i (by repeat (first | (with_reducible first | exact HB.out | apply q1i | apply q2i | apply q3i | refine q4i ?_ GE377.out | refine q4i ?_ GE385.out) | exact HB.out)) hb); clear BK377; clear BK385; clear HB; have BK377 := n0_; have BK385 := n1_; have HB := n2_; clear n0_ n1_ n2_; (try clear hb); (try clear hb2); (try clear hk); (try clear hi)) | ((with_reducible refine qti (f := 36) rfl ?_); refine goesL_ (some 40) rfl rfl Tryd.func36 (by kernel_rfl) rfl #[.string t389] rfl (by (try simp only [List.map_toArray, List.map_cons, List.map_nil]); first | done | rfl | (simp only [List.length_drop, List.length_take]; rfl)) ?_; (with_reducible refine (impl_ParseJet.calls kj21 t389 t390 t391 t392 t393 t394 false _ A51.out ?tabs).mono ?_); (case tabs => exact Tabs.below HT.out (by repeat (first | (with_reducible first | exact HB.out | apply q1i | apply q2i | apply q3i | refine q4i ?_ GE377.out | refine q4i ?_ GE385.out) | exact HB.out))); rintro e w62 ⟨rfl, hb⟩; refine ⟨_, rfl, ?_⟩; have n0_ := qgi (q8i (g := gb377) (o := .cells #[.int .i64 t372, .int .i64 t373, .int .i64 t374, .int .i64 t375, .int .i64 t376] 45 (0, 0)) (by (with_reducible repeat (first | refine q5i ?_ _ | refine q6i ?_ | refine q7i ?_ _)); exact BK377.out) hb); have n1_ := qgi (q8i (g := gb385) (o := .cells #[.int .i64 t379, .int .i64 t380, .int .i64 t381, .int .i64 t382, .int .i64 t383] 45 (0, 0)) (by (with_reducible repeat (first | refine q5i ?_ _ | refine q6i ?_ | refine q7i ?_ _)); exact BK385.out) hb); have n2_ := qgi (q9i (by repeat (first | (with_reducible first | exact HB.out | apply q1i | apply q2i | apply q3i | refine q4i ?_ GE377.out | refine q4i ?_ GE385.out) | exact HB.out)) hb); clear BK377; clear BK385; clear HB; have BK377 := n0_; have BK385 := n1_; have HB := n2_; clear n0_ n1_ n2_; (try clear hb); (try clear hb2); (try clear hk); (try clear hi)) | ((with_reducible refine qui (N := 7) rfl ?_); refine qhi ?hg (N := 7) ?hd (cs := #[.int .i64 0, .int .i64 0, .int .i64 0, .int .i64 0, .int .i64 0]) (t := 45) ?hr ?_; (case hd => rfl); (case hg => rfl); (case hr => first | (go_simp; done) | (go_simp; rfl)); intro gb396 hg w63 hbox hb; have n0_ := qgi (q8i (g := gb377) (o := .cells #[.int .i64 t372, .int .i64 t373, .int .i64 t374, .int .i64 t375, .int .i64 t376] 45 (0, 0)) (by (with_reducible repeat (first | refine q5i ?_ _ | refine q6i ?_ | refine q7i ?_ _)); exact BK377.out) hb); have n1_ := qgi (q8i (g := gb385) (o := .cells #[.int .i64 t379, .int .i64 t380, .int .i64 t381, .int .i64 t382, .int .i64 t383] 45 (0, 0)) (by (with_reducible repeat (first | refine q5i ?_ _ | refine q6i ?_ | refine q7i ?_ _)); exact BK385.out) hb); have n2_ := qgi (q9i (by repeat (first | (with_reducible first | exact HB.out | apply q1i | apply q2i | apply q3i | refine q4i ?_ GE377.out | refine q4i ?_ GE385.out) | exact HB.out)) hb); have n3_ := qgi (hbox); have n4_ := qgi ((by rw [hg]; exact (qai (by repeat (first | (with_reducible first | exact HB.out | apply q1i | apply q2i | apply q3i | refine q4i ?_ GE377.out | refine q4i ?_ GE385.out) | exact HB.out))) : w.heap.size ≤ gb396)); have n5_ := qgi ((by rw [hg]; exact (qai (by repeat (first | (with_reducible first | exact HB.out | apply q1i | apply q2i | apply q3i | refine q4i ?_ GE377.out | refine q4i ?_ GE385.out) | exact HB.out))) : w.heap.size ≤ gb396)); have n6_ := qgi ((by rw [hg]; exact qvi (qdi (g := gb377) (o := .cells #[.int .i64 t372, .int .i64 t373, .int .i64 t374, .int .i64 t375, .int .i64 t376] 45 (0, 0)) (by (with_reducible repeat (first | refine q5i ?_ _ | refine q6i ?_ | refine q7i ?_ _)); exact BK377.out)) : gb377 ≠ gb396)); have n7_ := qgi ((by rw [hg]; exact qwi (qdi (g := gb377) (o := .cells #[.int .i64 t372, .int .i64 t373, .int .i64 t374, .int .i64 t375, .int .i64 t376] 45 (0, 0)) (by (with_reducible repeat (first | refine q5i ?_ _ | refine q6i ?_ | refine q7i ?_ _)); exact BK377.out)) : gb396 ≠ gb377)); have n8_ := qgi ((by rw [hg]; exact qvi (qdi (g := gb385) (o := .cells #[.int .i64 t379, .int .i64 t380, .int .i64 t381, .int .i64 t382, .int .i64 t383] 45 (0, 0)) (by (with_reducible repeat (first | refine q5i ?_ _ | refine q6i ?_ | refine q7i ?_ _)); exact BK385.out)) : gb385 ≠ gb396)); have n9_ := qgi ((by rw [hg]; exact qwi (qdi (g := gb385) (o := .cells #[.int .i64 t379, .int .i64 t380, .int .i64 t381, .int .i64 t382, .int .i64 t383] 45 (0, 0)) (by (with_reducible repeat (first | refine q5i ?_ _ | refine q6i ?_ | refine q7i ?_ _)); exact BK385.out)) : gb396 ≠ gb385)); clear BK377; clear BK385; clear HB; have BK377 := n0_; have BK385 := n1_; have HB := n2_; have BK396 := n3_; have GW396 := n4_; have GE396 := n5_; have NB377_396 := n6_; have NB396_377 := n7_; have NB385_396 := n8_; have NB396_385 := n9_; clear n0_ n1_ n2_ n3_ n4_ n5_ n6_ n7_ n8_ n9_; clear hb hbox hg; have hnb64 := NB396_377.out; have hnc64 := NB377_396.out; have hnb65 := NB396_385.out; have hnc65 := NB385_396.out; have hcz66_0 : w63.cell? ⟨gb396, 0, none⟩ = some (.int .i64 0) := (qci BK396.out 0).trans rfl; have hcz66_1 : w63.cell? ⟨gb396, 1, none⟩ = some (.int .i64 0) := (qci BK396.out 1).trans rfl; have hcz66_2 : w63.cell? ⟨gb396, 2, none⟩ = some (.int .i64 0) := (qci BK396.out 2).trans rfl; have hcz66_3 : w63.cell? ⟨gb396, 3, none⟩ = some (.int .i64 0) := (qci BK396.out 3).trans rfl; have hcz66_4 : w63.cell? ⟨gb396, 4, none⟩ = some (.int .i64 0) := (qci BK396.out 4).trans rfl; have hfz66_0 := qbi BK396.out 0; have hfz66_1 := qbi BK396.out 1; have hfz66_2 := qbi BK396.out 2; have hfz66_3 := qbi BK396.out 3; have hfz66_4 := qbi BK396.out 4))
       go_ret
       exact ⟨by first | rfl | (simp [errW_none, errW_some] <;> rfl) | (simp [*, errW_none, errW_some] <;> rfl), by repeat (first | (with_reducible first | exact HB.out | apply q1i | apply q2i | apply q3i | refine q4i ?_ GE377.out | refine q4i ?_ GE385.out | refine q4i ?_ GE396.out) | exact HB.out)⟩
end Go.Proofs.YtcnkfnkdcjpkoaaDoor.PFnJetText
