-- PRINTED BY print.sh 35421559b90ae4d0a3588c463048766b98c2df88dd9212a6774a882060cdf62d: not written by this session
import Derived.Test.YtkioodeeadhdaaaPFnRampx0
import Derived.Test.YtkioodeeadhdaaaPFnRampx1
namespace Go.Proofs.Ytkioodeeadhdaaa.PFnRamp
open Go.RowKit Go.Proofs.YtkioodeeadhdaaaW.PrintWords Go.Proofs.YtkioodeeadhdaaaW.PrintLast Go.Proofs.YtkioodeeadhdaaaW.PrintMore
attribute [local go_sem] max2_int min2_int max_two min_two max_three min_three max_four min_four   -- for this text's walks alone
set_option linter.unusedVariables false
set_option linter.unusedSimpArgs false

/-! ### laws_FnRamp: function 5 -/
mutual
def laws_FnRamp.j0 : Nat → Int → Int → Int → Int → Bool → Option (Bool)
  | 0, _, _, _, _, _ => none
  | k + 1, x3, x4, x5, x6, x30 => if x30 = true then ((impl_RampAt.f k x3 x4 x5 x6).bind fun t186 => (some (t186 == 0))) else ((impl_RampAt.f k x3 x4 x5 x6).bind fun t187 => (if t187 < (mn x3 x4) then (laws_FnRamp.j1 k x3 x4 x5 x6 t187 true) else (if t187 > (mx x3 x4) then (laws_FnRamp.j1 k x3 x4 x5 x6 t187 true) else (if x6 > 0 then ((impl_RampAt.f k x3 x4 0 x6).bind fun t188 => (if t188 = x3 then ((impl_RampAt.f k x3 x4 x6 x6).bind fun t189 => (laws_FnRamp.j1 k x3 x4 x5 x6 t187 (t189 != x4))) else (laws_FnRamp.j1 k x3 x4 x5 x6 t187 true))) else ((impl_RampAt.f k x3 x4 x6 x6).bind fun t190 => (laws_FnRamp.j1 k x3 x4 x5 x6 t187 (t190 != x4)))))))
def laws_FnRamp.j1 : Nat → Int → Int → Int → Int → Int → Bool → Option (Bool)
  | 0, _, _, _, _, _, _ => none
  | k + 1, x3, x4, x5, x6, x7, x74 => if x74 = true then (some false) else (if x5 ≥ 999 then (some true) else (if x6 > 999 then (some true) else (if x5 < 0 then (some true) else ((impl_RampAt.f k x3 x4 (wrap64 (x5 + 1)) x6).bind fun t191 => (if x3 > x4 then (if x3 < x4 then (some true) else (some (decide (x7 ≥ t191)))) else (if x7 ≤ t191 then (if x3 < x4 then (some true) else (some (decide (x7 ≥ t191)))) else (some false)))))))
end
def laws_FnRamp.f (k : Nat) (l0 : List Int) : Option (Bool) := (laws_big.f l0).bind fun t177 => (if t177 = true then (some true) else ((spec_DrawRampAt.f k l0).bind fun bt178 => ((impl_IsMeasure.f bt178.1).bind fun t182 => ((spec_IsMeasure.f bt178.1).bind fun t183 => (if (t182 != t183) = true then (some false) else ((impl_IsMeasure.f bt178.1).bind fun t184 => (if t184 = true then ((impl_IsMeasure.f bt178.2.1).bind fun t185 => (laws_FnRamp.j0 k bt178.1 bt178.2.1 bt178.2.2.1 bt178.2.2.2 (!t185))) else (laws_FnRamp.j0 k bt178.1 bt178.2.1 bt178.2.2.1 bt178.2.2.2 true))))))))
theorem laws_FnRamp.mono_l : ∀ k, (∀ y0 y1 y2 y3 y4, LeO (laws_FnRamp.j0 k y0 y1 y2 y3 y4) (laws_FnRamp.j0 (k + 1) y0 y1 y2 y3 y4)) ∧ (∀ y0 y1 y2 y3 y4 y5, LeO (laws_FnRamp.j1 k y0 y1 y2 y3 y4 y5) (laws_FnRamp.j1 (k + 1) y0 y1 y2 y3 y4 y5))
  | 0 => ⟨fun _ _ _ _ _ r h => by simp [laws_FnRamp.j0] at h, fun _ _ _ _ _ _ r h => by simp [laws_FnRamp.j1] at h⟩
  | k + 1 => by
    obtain ⟨ih0, ih1⟩ := laws_FnRamp.mono_l k
    refine ⟨?_, ?_⟩
    · intro y0 y1 y2 y3 y4
      unfold laws_FnRamp.j0
      repeat' first
      | (with_reducible exact ih0 _ _ _ _ _)
      | (with_reducible exact ih1 _ _ _ _ _ _)
      | (with_reducible exact impl_RampAt.mono _ _ _ _ _)
      | (with_reducible exact spec_DrawRampAt.mono _ _)
      | (with_reducible exact LeO.refl _)
      | (with_reducible exact LeO.none _)
      | (with_reducible refine LeO.ite ?_ ?_)
      | (with_reducible refine LeO.bind ?_ (fun _ => ?_))
      | exact ih0 _ _ _ _ _
      | exact ih1 _ _ _ _ _ _
      | exact impl_RampAt.mono _ _ _ _ _
      | exact spec_DrawRampAt.mono _ _
      | exact LeO.none _
      | refine LeO.ite ?_ ?_
      | refine LeO.bind ?_ (fun _ => ?_)
    · intro y0 y1 y2 y3 y4 y5
      unfold laws_FnRamp.j1
      repeat' first
      | (with_reducible exact ih0 _ _ _ _ _)
      | (with_reducible exact ih1 _ _ _ _ _ _)
      | (with_reducible exact impl_RampAt.mono _ _ _ _ _)
      | (with_reducible exact spec_DrawRampAt.mono _ _)
      | (with_reducible exact LeO.refl _)
      | (with_reducible exact LeO.none _)
      | (with_reducible refine LeO.ite ?_ ?_)
      | (with_reducible refine LeO.bind ?_ (fun _ => ?_))
      | exact ih0 _ _ _ _ _
      | exact ih1 _ _ _ _ _ _
      | exact impl_RampAt.mono _ _ _ _ _
      | exact spec_DrawRampAt.mono _ _
      | exact LeO.none _
      | refine LeO.ite ?_ ?_
      | refine LeO.bind ?_ (fun _ => ?_)
theorem laws_FnRamp.mono : ∀ a0 k, LeO (laws_FnRamp.f k a0) (laws_FnRamp.f (k + 1) a0) := by
  intro a0 k
  obtain ⟨ih0, ih1⟩ := laws_FnRamp.mono_l k
  unfold laws_FnRamp.f
  repeat' first
      | (with_reducible exact ih0 _ _ _ _ _)
      | (with_reducible exact ih1 _ _ _ _ _ _)
      | (with_reducible exact impl_RampAt.mono _ _ _ _ _)
      | (with_reducible exact spec_DrawRampAt.mono _ _)
      | (with_reducible exact LeO.refl _)
      | (with_reducible exact LeO.none _)
      | (with_reducible refine LeO.ite ?_ ?_)
      | (with_reducible refine LeO.bind ?_ (fun _ => ?_))
      | exact ih0 _ _ _ _ _
      | exact ih1 _ _ _ _ _ _
      | exact impl_RampAt.mono _ _ _ _ _
      | exact spec_DrawRampAt.mono _ _
      | exact LeO.none _
      | refine LeO.ite ?_ ?_
      | refine LeO.bind ?_ (fun _ => ?_)
set_option maxHeartbeats 8000000 in
set_option maxRecDepth 100000 in
theorem laws_FnRamp.calls (k : Nat) (A0 : Option Addr) (c0 : Nat) (l0 : List Int) (r : Bool) (w : World) (hr0 : Kd.C (Kd.int .u8) w A0 l0.length l0) (hc0 : l0.length ≤ c0) (h : laws_FnRamp.f k l0 = some r) :
    Calls Try.prog 5 #[.slice A0 l0.length c0] w fun e w' => e = .returned (.bool r) ∧ Below w.heap.size w w' := by
  have HR0 := Aside0.mk hr0
  have HC0 := Aside0.mk hc0
  clear hr0 hc0
  have HB := Aside0.mk (Below.refl w.heap.size w)
  have H : ((laws_big.f l0).bind fun t177 => (if t177 = true then (some true) else ((spec_DrawRampAt.f k l0).bind fun bt178 => ((impl_IsMeasure.f bt178.1).bind fun t182 => ((spec_IsMeasure.f bt178.1).bind fun t183 => (if (t182 != t183) = true then (some false) else ((impl_IsMeasure.f bt178.1).bind fun t184 => (if t184 = true then ((impl_IsMeasure.f bt178.2.1).bind fun t185 => (laws_FnRamp.j0 k bt178.1 bt178.2.1 bt178.2.2.1 bt178.2.2.2 (!t185))) else (laws_FnRamp.j0 k bt178.1 bt178.2.1 bt178.2.2.1 bt178.2.2.2 true))))))))) = some r := h
  clear h
  replace H := Option.bind_eq_some_iff.mp H
  obtain ⟨t177, A20, H⟩ := H
  replace H : (if t177 = true then (some true) else ((spec_DrawRampAt.f k l0).bind fun bt178 => ((impl_IsMeasure.f bt178.1).bind fun t182 => ((spec_IsMeasure.f bt178.1).bind fun t183 => (if (t182 != t183) = true then (some false) else ((impl_IsMeasure.f bt178.1).bind fun t184 => (if t184 = true then ((impl_IsMeasure.f bt178.2.1).bind fun t185 => (laws_FnRamp.j0 k bt178.1 bt178.2.1 bt178.2.2.1 bt178.2.2.2 (!t185))) else (laws_FnRamp.j0 k bt178.1 bt178.2.1 bt178.2.2.1 bt178.2.2.2 true)))))))) = some r := H
  have A2 := Aside0.mk A20
  clear A20
  by_cases c3 : t177 = true
  · subst c3
    have H1 : (some true) = some r := by rw [if_pos rfl] at H; exact H
    clear H
    have H := H1
    clear H1
    obtain rfl := Option.some.inj H
    go_enter Try.func5, Try.ntmps5
    go_wp2_with (first | ((with_reducible refine gate_callee (f := 14) rfl ?_); refine goesL_ (some 10) rfl rfl Try.func14 (by kernel_rfl) rfl #[.slice A0 l0.length c0] rfl (by (try simp only [List.map_toArray, List.map_cons, List.map_nil]); first | done | rfl | (simp only [List.length_drop, List.length_take]; rfl)) ?_; (with_reducible refine (laws_big.calls _ _ l0 true _ ?side1 ?side2 A2.out).mono ?_); (case side1 => repeat (first | exact HR0.out | (with_reducible refine Kd.C_alloc ?_ _) | (with_reducible refine Kd.C_drewN ?_ _) | (with_reducible refine Kd.C_drew ?_))); (case side2 => exact HC0.out); rintro e w' ⟨rfl, ⟨nd, rfl⟩⟩; refine ⟨_, rfl, ?_⟩))
    go_ret
    exact ⟨by first | rfl | (simp [errW_none, errW_some] <;> rfl) | (simp [*, errW_none, errW_some] <;> rfl), by repeat (first | (with_reducible first | exact HB.out | apply below_alloc | apply pw_below_drewN | apply below_drew1) | exact HB.out)⟩
  · replace c3 := Bool.eq_false_iff.mpr c3
    subst c3
    have H1 : ((spec_DrawRampAt.f k l0).bind fun bt178 => ((impl_IsMeasure.f bt178.1).bind fun t182 => ((spec_IsMeasure.f bt178.1).bind fun t183 => (if (t182 != t183) = true then (some false) else ((impl_IsMeasure.f bt178.1).bind fun t184 => (if t184 = true then ((impl_IsMeasure.f bt178.2.1).bind fun t185 => (laws_FnRamp.j0 k bt178.1 bt178.2.1 bt178.2.2.1 bt178.2.2.2 (!t185))) else (laws_FnRamp.j0 k bt178.1 bt178.2.1 bt178.2.2.1 bt178.2.2.2 true))))))) = some r := by rw [if_neg (show ¬ (false = true) by decide)] at H; exact H
    clear H
    have H := H1
    clear H1
    replace H := Option.bind_eq_some_iff.mp H
    obtain ⟨⟨t178, t179, t180, t181⟩, A40, H⟩ := H
    replace H : ((impl_IsMeasure.f t178).bind fun t182 => ((spec_IsMeasure.f t178).bind fun t183 => (if (t182 != t183) = true then (some false) else ((impl_IsMeasure.f t178).bind fun t184 => (if t184 = true then ((impl_IsMeasure.f t179).bind fun t185 => (laws_FnRamp.j0 k t178 t179 t180 t181 (!t185))) else (laws_FnRamp.j0 k t178 t179 t180 t181 true)))))) = some r := H
    have A4 := Aside0.mk A40
    clear A40
    replace H := Option.bind_eq_some_iff.mp H
    obtain ⟨t182, A50, H⟩ := H
    replace H : ((spec_IsMeasure.f t178).bind fun t183 => (if (t182 != t183) = true then (some false) else ((impl_IsMeasure.f t178).bind fun t184 => (if t184 = true then ((impl_IsMeasure.f t179).bind fun t185 => (laws_FnRamp.j0 k t178 t179 t180 t181 (!t185))) else (laws_FnRamp.j0 k t178 t179 t180 t181 true))))) = some r := H
    have A5 := Aside0.mk A50
    clear A50
    replace H := Option.bind_eq_some_iff.mp H
    obtain ⟨t183, A60, H⟩ := H
    replace H : (if (t182 != t183) = true then (some false) else ((impl_IsMeasure.f t178).bind fun t184 => (if t184 = true then ((impl_IsMeasure.f t179).bind fun t185 => (laws_FnRamp.j0 k t178 t179 t180 t181 (!t185))) else (laws_FnRamp.j0 k t178 t179 t180 t181 true)))) = some r := H
    have A6 := Aside0.mk A60
    clear A60
    by_cases c7 : (t182 != t183) = true
    · rw [if_pos c7] at H
      have c7b0 : (t182 != t183) = true := c7
      (try (have c7b1 : decide (t182 = t183) = false := by simpa using c7))
      (try (have c7b2 : (t182 == t183) = false := by simpa using c7))
      (try (have c7b3 : ¬ (t182 = t183) := by simpa using c7))
      clear c7
      obtain rfl := Option.some.inj H
      go_enter Try.func5, Try.ntmps5
      go_wp2_with (first | ((with_reducible refine gate_callee (f := 14) rfl ?_); refine goesL_ (some 10) rfl rfl Try.func14 (by kernel_rfl) rfl #[.slice A0 l0.length c0] rfl (by (try simp only [List.map_toArray, List.map_cons, List.map_nil]); first | done | rfl | (simp only [List.length_drop, List.length_take]; rfl)) ?_; (with_reducible refine (laws_big.calls _ _ l0 false _ ?side1 ?side2 A2.out).mono ?_); (case side1 => repeat (first | exact HR0.out | (with_reducible refine Kd.C_alloc ?_ _) | (with_reducible refine Kd.C_drewN ?_ _) | (with_reducible refine Kd.C_drew ?_))); (case side2 => exact HC0.out); rintro e w' ⟨rfl, ⟨nd, rfl⟩⟩; refine ⟨_, rfl, ?_⟩) | ((with_reducible refine gate_callee (f := 20) rfl ?_); refine goesL_ (some 13) rfl rfl Try.func20 (by kernel_rfl) rfl #[.slice A0 l0.length c0] rfl (by (try simp only [List.map_toArray, List.map_cons, List.map_nil]); first | done | rfl | (simp only [List.length_drop, List.length_take]; rfl)) ?_; (with_reducible refine (spec_DrawRampAt.calls k _ _ l0 t178 t179 t180 t181 _ ?side1 ?side2 A4.out).mono ?_); (case side1 => repeat (first | exact HR0.out | (with_reducible refine Kd.C_alloc ?_ _) | (with_reducible refine Kd.C_drewN ?_ _) | (with_reducible refine Kd.C_drew ?_))); (case side2 => exact HC0.out); rintro e w8 ⟨rfl, hb⟩; refine ⟨_, rfl, ?_⟩; have n0_ := Aside0.mk (below_step (by repeat (first | (with_reducible first | exact HB.out | apply below_alloc | apply pw_below_drewN | apply below_drew1) | exact HB.out)) hb); clear HB; have HB := n0_; clear n0_; (try clear hb); (try clear hb2); (try clear hk); (try clear hi)) | ((with_reducible refine gate_callee (f := 21) rfl ?_); refine goesL_ (some 19) rfl rfl Try.func21 (by kernel_rfl) rfl #[.int .i64 t178] rfl (by (try simp only [List.map_toArray, List.map_cons, List.map_nil]); first | done | rfl | (simp only [List.length_drop, List.length_take]; rfl)) ?_; (with_reducible refine (impl_IsMeasure.calls t178 t182 _ A5.out).mono ?_); rintro e w' ⟨rfl, ⟨nd, rfl⟩⟩; refine ⟨_, rfl, ?_⟩) | ((with_reducible refine gate_callee (f := 22) rfl ?_); refine goesL_ (some 21) rfl rfl Try.func22 (by kernel_rfl) rfl #[.int .i64 t178] rfl (by (try simp only [List.map_toArray, List.map_cons, List.map_nil]); first | done | rfl | (simp only [List.length_drop, List.length_take]; rfl)) ?_; (with_reducible refine (spec_IsMeasure.calls t178 t183 _ A6.out).mono ?_); rintro e w' ⟨rfl, ⟨nd, rfl⟩⟩; refine ⟨_, rfl, ?_⟩))
      go_ret
      exact ⟨by first | rfl | (simp [errW_none, errW_some] <;> rfl) | (simp [*, errW_none, errW_some] <;> rfl), by repeat (first | (with_reducible first | exact HB.out | apply below_alloc | apply pw_below_drewN | apply below_drew1) | exact HB.out)⟩
    · rw [if_neg c7] at H
      have c7b0 : (t182 != t183) = false := by simpa using c7
      (try (have c7b1 : decide (t182 = t183) = true := by simpa using c7))
      (try (have c7b2 : (t182 == t183) = true := by simpa using c7))
      clear c7
      have HC9 := Aside0.mk H
      clear H
      go_enter Try.func5, Try.ntmps5
      go_upto_region 6 with (first | ((with_reducible refine gate_callee (f := 14) rfl ?_); refine goesL_ (some 10) rfl rfl Try.func14 (by kernel_rfl) rfl #[.slice A0 l0.length c0] rfl (by (try simp only [List.map_toArray, List.map_cons, List.map_nil]); first | done | rfl | (simp only [List.length_drop, List.length_take]; rfl)) ?_; (with_reducible refine (laws_big.calls _ _ l0 false _ ?side1 ?side2 A2.out).mono ?_); (case side1 => repeat (first | exact HR0.out | (with_reducible refine Kd.C_alloc ?_ _) | (with_reducible refine Kd.C_drewN ?_ _) | (with_reducible refine Kd.C_drew ?_))); (case side2 => exact HC0.out); rintro e w' ⟨rfl, ⟨nd, rfl⟩⟩; refine ⟨_, rfl, ?_⟩) | ((with_reducible refine gate_callee (f := 20) rfl ?_); refine goesL_ (some 13) rfl rfl Try.func20 (by kernel_rfl) rfl #[.slice A0 l0.length c0] rfl (by (try simp only [List.map_toArray, List.map_cons, List.map_nil]); first | done | rfl | (simp only [List.length_drop, List.length_take]; rfl)) ?_; (with_reducible refine (spec_DrawRampAt.calls k _ _ l0 t178 t179 t180 t181 _ ?side1 ?side2 A4.out).mono ?_); (case side1 => repeat (first | exact HR0.out | (with_reducible refine Kd.C_alloc ?_ _) | (with_reducible refine Kd.C_drewN ?_ _) | (with_reducible refine Kd.C_drew ?_))); (case side2 => exact HC0.out); rintro e w10 ⟨rfl, hb⟩; refine ⟨_, rfl, ?_⟩; have n0_ := Aside0.mk (below_step (by repeat (first | (with_reducible first | exact HB.out | apply below_alloc | apply pw_below_drewN | apply below_drew1) | exact HB.out)) hb); clear HB; have HB := n0_; clear n0_; (try clear hb); (try clear hb2); (try clear hk); (try clear hi)) | ((with_reducible refine gate_callee (f := 21) rfl ?_); refine goesL_ (some 19) rfl rfl Try.func21 (by kernel_rfl) rfl #[.int .i64 t178] rfl (by (try simp only [List.map_toArray, List.map_cons, List.map_nil]); first | done | rfl | (simp only [List.length_drop, List.length_take]; rfl)) ?_; (with_reducible refine (impl_IsMeasure.calls t178 t182 _ A5.out).mono ?_); rintro e w' ⟨rfl, ⟨nd, rfl⟩⟩; refine ⟨_, rfl, ?_⟩) | ((with_reducible refine gate_callee (f := 22) rfl ?_); refine goesL_ (some 21) rfl rfl Try.func22 (by kernel_rfl) rfl #[.int .i64 t178] rfl (by (try simp only [List.map_toArray, List.map_cons, List.map_nil]); first | done | rfl | (simp only [List.length_drop, List.length_take]; rfl)) ?_; (with_reducible refine (spec_IsMeasure.calls t178 t183 _ A6.out).mono ?_); rintro e w' ⟨rfl, ⟨nd, rfl⟩⟩; refine ⟨_, rfl, ?_⟩))
      (try simp only [Act.put, List.setIfInBounds_toArray, List.set_cons_zero, List.set_cons_succ])
      go_cut [30] (fun v30 wc => ∃ (kq : Nat) (x30_8 : Bool), v30 = .bool x30_8 ∧ Aside0 (laws_FnRamp.j0 kq t178 t179 t180 t181 x30_8 = some r) ∧ Aside0 (kq ≤ k) ∧ Aside0 (Below w.heap.size w wc))
      case first =>
        have H := HC9.out
        clear HC9
        replace H := Option.bind_eq_some_iff.mp H
        obtain ⟨t184, A110, H⟩ := H
        replace H : (if t184 = true then ((impl_IsMeasure.f t179).bind fun t185 => (laws_FnRamp.j0 k t178 t179 t180 t181 (!t185))) else (laws_FnRamp.j0 k t178 t179 t180 t181 true)) = some r := H
        have A11 := Aside0.mk A110
        clear A110
        by_cases c12 : t184 = true
        · subst c12
          have H1 : ((impl_IsMeasure.f t179).bind fun t185 => (laws_FnRamp.j0 k t178 t179 t180 t181 (!t185))) = some r := by rw [if_pos rfl] at H; exact H
          clear H
          have H := H1
          clear H1
          replace H := Option.bind_eq_some_iff.mp H
          obtain ⟨t185, A130, H⟩ := H
          replace H : (laws_FnRamp.j0 k t178 t179 t180 t181 (!t185)) = some r := H
          have A13 := Aside0.mk A130
          clear A130
          have H' := Aside0.mk H
          clear H
          go_wp2_with (first | ((with_reducible refine gate_callee (f := 21) rfl ?_); refine goesL_ (some 24) rfl rfl Try.func21 (by kernel_rfl) rfl #[.int .i64 t178] rfl (by (try simp only [List.map_toArray, List.map_cons, List.map_nil]); first | done | rfl | (simp only [List.length_drop, List.length_take]; rfl)) ?_; (with_reducible refine (impl_IsMeasure.calls t178 true _ A11.out).mono ?_); rintro e w' ⟨rfl, ⟨nd, rfl⟩⟩; refine ⟨_, rfl, ?_⟩) | (go_at_call 21; (with_reducible refine (impl_IsMeasure.calls t179 t185 _ A13.out).mono ?_); rintro e w' ⟨rfl, ⟨nd, rfl⟩⟩))
          go_meet
          case rel => exact ⟨_, (!t185), (by first | rfl | (simp; done) | (simp [*]; done)), H', ⟨by first | omega | exact Nat.le_refl _⟩, ⟨by repeat (first | (with_reducible first | exact HB.out | apply below_alloc | apply pw_below_drewN | apply below_drew1) | exact HB.out)⟩⟩
        · replace c12 := Bool.eq_false_iff.mpr c12
          subst c12
          have H1 : (laws_FnRamp.j0 k t178 t179 t180 t181 true) = some r := by rw [if_neg (show ¬ (false = true) by decide)] at H; exact H
          clear H
          have H := H1
          clear H1
          have H' := Aside0.mk H
          clear H
          go_wp2_with (first | ((with_reducible refine gate_callee (f := 21) rfl ?_); refine goesL_ (some 24) rfl rfl Try.func21 (by kernel_rfl) rfl #[.int .i64 t178] rfl (by (try simp only [List.map_toArray, List.map_cons, List.map_nil]); first | done | rfl | (simp only [List.length_drop, List.length_take]; rfl)) ?_; (with_reducible refine (impl_IsMeasure.calls t178 false _ A11.out).mono ?_); rintro e w' ⟨rfl, ⟨nd, rfl⟩⟩; refine ⟨_, rfl, ?_⟩))
          go_meet
          case rel => exact ⟨_, (true), (by first | rfl | (simp; done) | (simp [*]; done)), H', ⟨by first | omega | exact Nat.le_refl _⟩, ⟨by repeat (first | (with_reducible first | exact HB.out | apply below_alloc | apply pw_below_drewN | apply below_drew1) | exact HB.out)⟩⟩
      case rest =>
        clear HC9
        try clear c1
        try clear c2
        try clear p2
        try clear c3
        try clear c5
        try clear c7
        try clear c7b0
        try clear c7b1
        try clear c7b2
        try clear c12
        obtain ⟨kq, x30_8, rfl, HA, HJ8, HB⟩ := hcut
        cases kq with
        | zero => exact absurd HA.out (by simp [laws_FnRamp.j0])
        | succ kj8 =>
          have H := HA.out
          clear HA
          simp only [laws_FnRamp.j0] at H
          by_cases c14 : x30_8 = true
          · subst c14
            have H1 : ((impl_RampAt.f kj8 t178 t179 t180 t181).bind fun t186 => (some (t186 == 0))) = some r := by rw [if_pos rfl] at H; exact H
            clear H
            have H := H1
            clear H1
            replace H := Option.bind_eq_some_iff.mp H
            obtain ⟨t186, A150, H⟩ := H
            replace H : (some (t186 == 0)) = some r := H
            have A15 := Aside0.mk A150
            clear A150
            obtain rfl := Option.some.inj H
            go_wp2_with (first | ((with_reducible refine gate_callee (f := 23) rfl ?_); refine goesL_ (some 35) rfl rfl Try.func23 (by kernel_rfl) rfl #[.int .i64 t178, .int .i64 t179, .int .i64 t180, .int .i64 t181] rfl (by (try simp only [List.map_toArray, List.map_cons, List.map_nil]); first | done | rfl | (simp only [List.length_drop, List.length_take]; rfl)) ?_; (with_reducible refine (impl_RampAt.calls kj8 t178 t179 t180 t181 t186 _ A15.out).mono ?_); rintro e w' ⟨rfl, ⟨nd, rfl⟩⟩; refine ⟨_, rfl, ?_⟩))
            go_ret
            exact ⟨by first | rfl | (simp [errW_none, errW_some] <;> rfl) | (simp [*, errW_none, errW_some] <;> rfl), by repeat (first | (with_reducible first | exact HB.out | apply below_alloc | apply pw_below_drewN | apply below_drew1) | exact HB.out)⟩
          · replace c14 := Bool.eq_false_iff.mpr c14
            subst c14
            have H1 : ((impl_RampAt.f kj8 t178 t179 t180 t181).bind fun t187 => (if t187 < (mn t178 t179) then (laws_FnRamp.j1 kj8 t178 t179 t180 t181 t187 true) else (if t187 > (mx t178 t179) then (laws_FnRamp.j1 kj8 t178 t179 t180 t181 t187 true) else (if t181 > 0 then ((impl_RampAt.f kj8 t178 t179 0 t181).bind fun t188 => (if t188 = t178 then ((impl_RampAt.f kj8 t178 t179 t181 t181).bind fun t189 => (laws_FnRamp.j1 kj8 t178 t179 t180 t181 t187 (t189 != t179))) else (laws_FnRamp.j1 kj8 t178 t179 t180 t181 t187 true))) else ((impl_RampAt.f kj8 t178 t179 t181 t181).bind fun t190 => (laws_FnRamp.j1 kj8 t178 t179 t180 t181 t187 (t190 != t179))))))) = some r := by rw [if_neg (show ¬ (false = true) by decide)] at H; exact H
            clear H
            have H := H1
            clear H1
            replace H := Option.bind_eq_some_iff.mp H
            obtain ⟨t187, A160, H⟩ := H
            replace H : (if t187 < (mn t178 t179) then (laws_FnRamp.j1 kj8 t178 t179 t180 t181 t187 true) else (if t187 > (mx t178 t179) then (laws_FnRamp.j1 kj8 t178 t179 t180 t181 t187 true) else (if t181 > 0 then ((impl_RampAt.f kj8 t178 t179 0 t181).bind fun t188 => (if t188 = t178 then ((impl_RampAt.f kj8 t178 t179 t181 t181).bind fun t189 => (laws_FnRamp.j1 kj8 t178 t179 t180 t181 t187 (t189 != t179))) else (laws_FnRamp.j1 kj8 t178 t179 t180 t181 t187 true))) else ((impl_RampAt.f kj8 t178 t179 t181 t181).bind fun t190 => (laws_FnRamp.j1 kj8 t178 t179 t180 t181 t187 (t190 != t179)))))) = some r := H
            have A16 := Aside0.mk A160
            clear A160
            have HC17 := Aside0.mk H
            clear H
            go_upto_region 9 with (first | ((with_reducible refine gate_callee (f := 23) rfl ?_); refine goesL_ (some 41) rfl rfl Try.func23 (by kernel_rfl) rfl #[.int .i64 t178, .int .i64 t179, .int .i64 t180, .int .i64 t181] rfl (by (try simp only [List.map_toArray, List.map_cons, List.map_nil]); first | done | rfl | (simp only [List.length_drop, List.length_take]; rfl)) ?_; (with_reducible refine (impl_RampAt.calls kj8 t178 t179 t180 t181 t187 _ A16.out).mono ?_); rintro e w' ⟨rfl, ⟨nd, rfl⟩⟩; refine ⟨_, rfl, ?_⟩))
            (try simp only [Act.put, List.setIfInBounds_toArray, List.set_cons_zero, List.set_cons_succ])
            go_cut [74] (fun v74 wc => ∃ (kq : Nat) (x74_16 : Bool), v74 = .bool x74_16 ∧ Aside0 (laws_FnRamp.j1 kq t178 t179 t180 t181 t187 x74_16 = some r) ∧ Aside0 (kq ≤ kj8) ∧ Aside0 (Below w.heap.size w wc))
            case first =>
              have H := HC17.out
              clear HC17
              obtain ⟨ji18, hji18⟩ : ∃ j_ : Int, (mn t178 t179) = j_ := ⟨_, rfl⟩
              replace H : (if t187 < (ji18) then (laws_FnRamp.j1 kj8 t178 t179 t180 t181 t187 true) else (if t187 > (mx t178 t179) then (laws_FnRamp.j1 kj8 t178 t179 t180 t181 t187 true) else (if t181 > 0 then ((impl_RampAt.f kj8 t178 t179 0 t181).bind fun t188 => (if t188 = t178 then ((impl_RampAt.f kj8 t178 t179 t181 t181).bind fun t189 => (laws_FnRamp.j1 kj8 t178 t179 t180 t181 t187 (t189 != t179))) else (laws_FnRamp.j1 kj8 t178 t179 t180 t181 t187 true))) else ((impl_RampAt.f kj8 t178 t179 t181 t181).bind fun t190 => (laws_FnRamp.j1 kj8 t178 t179 t180 t181 t187 (t190 != t179)))))) = some r := by first | (rw [hji18] at H; exact H) | (simp only [hji18] at H ⊢; exact H)
              have hji18_ : (if t179 < t178 then t179 else t178) = ji18 := hji18
              by_cases c19 : t187 < (ji18)
              · rw [if_pos c19] at H
                have c19b0 : decide (t187 < (ji18)) = true := decide_eq_true c19
                clear c19
                (first | rw [c19b0] | (simp only [i64_w, i32_w]; rw [c19b0]) | skip)
                have H' := Aside0.mk H
                clear H
                go_wp2
                go_meet
                case rel => exact ⟨_, (true), (by first | rfl | (simp; done) | (simp [*]; done)), H', ⟨by have := HJ8.out; first | omega | exact Nat.le_refl _⟩, ⟨by repeat (first | (with_reducible first | exact HB.out | apply below_alloc | apply pw_below_drewN | apply below_drew1) | exact HB.out)⟩⟩
              · rw [if_neg c19] at H
                have c19b0 : decide (t187 < (ji18)) = false := decide_eq_false c19
                clear c19
                (first | rw [c19b0] | (simp only [i64_w, i32_w]; rw [c19b0]) | skip)
                obtain ⟨ji20, hji20⟩ : ∃ j_ : Int, (mx t178 t179) = j_ := ⟨_, rfl⟩
                replace H : (if t187 > (ji20) then (laws_FnRamp.j1 kj8 t178 t179 t180 t181 t187 true) else (if t181 > 0 then ((impl_RampAt.f kj8 t178 t179 0 t181).bind fun t188 => (if t188 = t178 then ((impl_RampAt.f kj8 t178 t179 t181 t181).bind fun t189 => (laws_FnRamp.j1 kj8 t178 t179 t180 t181 t187 (t189 != t179))) else (laws_FnRamp.j1 kj8 t178 t179 t180 t181 t187 true))) else ((impl_RampAt.f kj8 t178 t179 t181 t181).bind fun t190 => (laws_FnRamp.j1 kj8 t178 t179 t180 t181 t187 (t190 != t179))))) = some r := by first | (rw [hji20] at H; exact H) | (simp only [hji20] at H ⊢; exact H)
                have hji20_ : (if t178 < t179 then t179 else t178) = ji20 := hji20
                by_cases c21 : t187 > (ji20)
                · rw [if_pos c21] at H
                  have c21b0 : decide ((ji20) < t187) = true := decide_eq_true c21
                  clear c21
                  have H' := Aside0.mk H
                  clear H
                  go_wp2
                  go_meet
                  case rel => exact ⟨_, (true), (by first | rfl | (simp; done) | (simp [*]; done)), H', ⟨by have := HJ8.out; first | omega | exact Nat.le_refl _⟩, ⟨by repeat (first | (with_reducible first | exact HB.out | apply below_alloc | apply pw_below_drewN | apply below_drew1) | exact HB.out)⟩⟩
                · rw [if_neg c21] at H
                  have c21b0 : decide ((ji20) < t187) = false := decide_eq_false c21
                  clear c21
                  by_cases c22 : t181 > 0
                  · rw [if_pos c22] at H
                    have c22b0 : decide (0 < t181) = true := decide_eq_true c22
                    clear c22
                    replace H := Option.bind_eq_some_iff.mp H
                    obtain ⟨t188, A230, H⟩ := H
                    replace H : (if t188 = t178 then ((impl_RampAt.f kj8 t178 t179 t181 t181).bind fun t189 => (laws_FnRamp.j1 kj8 t178 t179 t180 t181 t187 (t189 != t179))) else (laws_FnRamp.j1 kj8 t178 t179 t180 t181 t187 true)) = some r := H
                    have A23 := Aside0.mk A230
                    clear A230
                    by_cases c24 : t188 = t178
                    · rw [if_pos c24] at H
                      have c24b0 : (t188 == t178) = true := beq_iff_eq.mpr c24
                      have c24b1 : (t188 != t178) = false := bne_eq_false_iff_eq.mpr c24
                      clear c24
                      replace H := Option.bind_eq_some_iff.mp H
                      obtain ⟨t189, A250, H⟩ := H
                      replace H : (laws_FnRamp.j1 kj8 t178 t179 t180 t181 t187 (t189 != t179)) = some r := H
                      have A25 := Aside0.mk A250
                      clear A250
                      have H' := Aside0.mk H
                      clear H
                      go_wp2_with (first | (go_at_call 23; (with_reducible refine (impl_RampAt.calls kj8 t178 t179 0 t181 t188 _ A23.out).mono ?_); rintro e w' ⟨rfl, ⟨nd, rfl⟩⟩) | (go_at_call 23; (with_reducible refine (impl_RampAt.calls kj8 t178 t179 t181 t181 t189 _ A25.out).mono ?_); rintro e w' ⟨rfl, ⟨nd, rfl⟩⟩))
                      go_meet
                      case rel => exact ⟨_, ((t189 != t179)), (by first | rfl | (simp; done) | (simp [*]; done)), H', ⟨by have := HJ8.out; first | omega | exact Nat.le_refl _⟩, ⟨by repeat (first | (with_reducible first | exact HB.out | apply below_alloc | apply pw_below_drewN | apply below_drew1) | exact HB.out)⟩⟩
                    · rw [if_neg c24] at H
                      have c24b0 : (t188 == t178) = false := beq_eq_false_iff_ne.mpr c24
                      have c24b1 : (t188 != t178) = true := bne_iff_ne.mpr c24
                      have H' := Aside0.mk H
                      clear H
                      go_wp2_with (first | (go_at_call 23; (with_reducible refine (impl_RampAt.calls kj8 t178 t179 0 t181 t188 _ A23.out).mono ?_); rintro e w' ⟨rfl, ⟨nd, rfl⟩⟩))
                      go_meet
                      case rel => exact ⟨_, (true), (by first | rfl | (simp; done) | (simp [*]; done)), H', ⟨by have := HJ8.out; first | omega | exact Nat.le_refl _⟩, ⟨by repeat (first | (with_reducible first | exact HB.out | apply below_alloc | apply pw_below_drewN | apply below_drew1) | exact HB.out)⟩⟩
                  · rw [if_neg c22] at H
                    have c22b0 : decide (0 < t181) = false := decide_eq_false c22
                    clear c22
                    replace H := Option.bind_eq_some_iff.mp H
                    obtain ⟨t190, A260, H⟩ := H
                    replace H : (laws_FnRamp.j1 kj8 t178 t179 t180 t181 t187 (t190 != t179)) = some r := H
                    have A26 := Aside0.mk A260
                    clear A260
                    have H' := Aside0.mk H
                    clear H
                    go_wp2_with (first | (go_at_call 23; (with_reducible refine (impl_RampAt.calls kj8 t178 t179 t181 t181 t190 _ A26.out).mono ?_); rintro e w' ⟨rfl, ⟨nd, rfl⟩⟩))
                    go_meet
                    case rel => exact ⟨_, ((t190 != t179)), (by first | rfl | (simp; done) | (simp [*]; done)), H', ⟨by have := HJ8.out; first | omega | exact Nat.le_refl _⟩, ⟨by repeat (first | (with_reducible first | exact HB.out | apply below_alloc | apply pw_below_drewN | apply below_drew1) | exact HB.out)⟩⟩
            case rest =>
              clear HC17
              try clear c1
              try clear c2
              try clear p2
              try clear c3
              try clear c5
              try clear c7
              try clear c7b0
              try clear c7b1
              try clear c7b2
              try clear c12
              try clear c14
              try clear c19
              try clear c19b0
              try clear c20
              try clear c21
              try clear c21b0
              try clear c22
              try clear c22b0
              try clear c23
              try clear c24
              try clear c24b0
              try clear c24b1
              try clear p2
              obtain ⟨kq, x74_16, rfl, HA, HJ16, HB⟩ := hcut
              cases kq with
              | zero => exact absurd HA.out (by simp [laws_FnRamp.j1])
              | succ kj16 =>
                have H := HA.out
                clear HA
                simp only [laws_FnRamp.j1] at H
                by_cases c27 : x74_16 = true
                · subst c27
                  have H1 : (some false) = some r := by rw [if_pos rfl] at H; exact H
                  clear H
                  have H := H1
                  clear H1
                  obtain rfl := Option.some.inj H
                  go_wp2
                  go_ret
                  exact ⟨by first | rfl | (simp [errW_none, errW_some] <;> rfl) | (simp [*, errW_none, errW_some] <;> rfl), by repeat (first | (with_reducible first | exact HB.out | apply below_alloc | apply pw_below_drewN | apply below_drew1) | exact HB.out)⟩
                · replace c27 := Bool.eq_false_iff.mpr c27
                  subst c27
                  have H1 : (if t180 ≥ 999 then (some true) else (if t181 > 999 then (some true) else (if t180 < 0 then (some true) else ((impl_RampAt.f kj16 t178 t179 (wrap64 (t180 + 1)) t181).bind fun t191 => (if t178 > t179 then (if t178 < t179 then (some true) else (some (decide (t187 ≥ t191)))) else (if t187 ≤ t191 then (if t178 < t179 then (some true) else (some (decide (t187 ≥ t191)))) else (some false))))))) = some r := by rw [if_neg (show ¬ (false = true) by decide)] at H; exact H
                  clear H
                  have H := H1
                  clear H1
                  by_cases c28 : t180 ≥ 999
                  · rw [if_pos c28] at H
                    have c28b0 : decide (999 ≤ t180) = true := decide_eq_true c28
                    clear c28
                    obtain rfl := Option.some.inj H
                    go_wp2
                    go_ret
                    exact ⟨by first | rfl | (simp [errW_none, errW_some] <;> rfl) | (simp [*, errW_none, errW_some] <;> rfl), by repeat (first | (with_reducible first | exact HB.out | apply below_alloc | apply pw_below_drewN | apply below_drew1) | exact HB.out)⟩
                  · rw [if_neg c28] at H
                    have c28b0 : decide (999 ≤ t180) = false := decide_eq_false c28
                    clear c28
                    by_cases c29 : t181 > 999
                    · rw [if_pos c29] at H
                      have c29b0 : decide (999 < t181) = true := decide_eq_true c29
                      clear c29
                      obtain rfl := Option.some.inj H
                      go_wp2
                      go_ret
                      exact ⟨by first | rfl | (simp [errW_none, errW_some] <;> rfl) | (simp [*, errW_none, errW_some] <;> rfl), by repeat (first | (with_reducible first | exact HB.out | apply below_alloc | apply pw_below_drewN | apply below_drew1) | exact HB.out)⟩
                    · rw [if_neg c29] at H
                      have c29b0 : decide (999 < t181) = false := decide_eq_false c29
                      clear c29
                      by_cases c30 : t180 < 0
                      · rw [if_pos c30] at H
                        have c30b0 : decide (t180 < 0) = true := decide_eq_true c30
                        clear c30
                        obtain rfl := Option.some.inj H
                        go_wp2
                        go_ret
                        exact ⟨by first | rfl | (simp [errW_none, errW_some] <;> rfl) | (simp [*, errW_none, errW_some] <;> rfl), by repeat (first | (with_reducible first | exact HB.out | apply below_alloc | apply pw_below_drewN | apply below_drew1) | exact HB.out)⟩
                      · rw [if_neg c30] at H
                        have c30b0 : decide (t180 < 0) = false := decide_eq_false c30
                        clear c30
                        replace H := Option.bind_eq_some_iff.mp H
                        obtain ⟨t191, A310, H⟩ := H
                        replace H : (if t178 > t179 then (if t178 < t179 then (some true) else (some (decide (t187 ≥ t191)))) else (if t187 ≤ t191 then (if t178 < t179 then (some true) else (some (decide (t187 ≥ t191)))) else (some false))) = some r := H
                        have A31 := Aside0.mk A310
                        clear A310
                        by_cases c32 : t178 > t179
                        · rw [if_pos c32] at H
                          have c32b0 : decide (t179 < t178) = true := decide_eq_true c32
                          clear c32
                          by_cases c33 : t178 < t179
                          · rw [if_pos c33] at H
                            have c33b0 : decide (t178 < t179) = true := decide_eq_true c33
                            clear c33
                            obtain rfl := Option.some.inj H
                            go_wp2_with (first | ((with_reducible refine gate_callee (f := 23) rfl ?_); refine goesL_ (some 90) rfl rfl Try.func23 (by kernel_rfl) rfl #[.int .i64 t178, .int .i64 t179, .int .i64 (wrap64 (t180 + 1)), .int .i64 t181] rfl (by (try simp only [List.map_toArray, List.map_cons, List.map_nil]); first | done | rfl | (simp only [List.length_drop, List.length_take]; rfl)) ?_; (with_reducible refine (impl_RampAt.calls kj16 t178 t179 (wrap64 (t180 + 1)) t181 t191 _ A31.out).mono ?_); rintro e w' ⟨rfl, ⟨nd, rfl⟩⟩; refine ⟨_, rfl, ?_⟩))
                            go_ret
                            exact ⟨by first | rfl | (simp [errW_none, errW_some] <;> rfl) | (simp [*, errW_none, errW_some] <;> rfl), by repeat (first | (with_reducible first | exact HB.out | apply below_alloc | apply pw_below_drewN | apply below_drew1) | exact HB.out)⟩
                          · rw [if_neg c33] at H
                            have c33b0 : decide (t178 < t179) = false := decide_eq_false c33
                            clear c33
                            obtain rfl := Option.some.inj H
                            go_wp2_with (first | ((with_reducible refine gate_callee (f := 23) rfl ?_); refine goesL_ (some 90) rfl rfl Try.func23 (by kernel_rfl) rfl #[.int .i64 t178, .int .i64 t179, .int .i64 (wrap64 (t180 + 1)), .int .i64 t181] rfl (by (try simp only [List.map_toArray, List.map_cons, List.map_nil]); first | done | rfl | (simp only [List.length_drop, List.length_take]; rfl)) ?_; (with_reducible refine (impl_RampAt.calls kj16 t178 t179 (wrap64 (t180 + 1)) t181 t191 _ A31.out).mono ?_); rintro e w' ⟨rfl, ⟨nd, rfl⟩⟩; refine ⟨_, rfl, ?_⟩))
                            go_ret
                            exact ⟨by first | rfl | (simp [errW_none, errW_some] <;> rfl) | (simp [*, errW_none, errW_some] <;> rfl), by repeat (first | (with_reducible first | exact HB.out | apply below_alloc | apply pw_below_drewN | apply below_drew1) | exact HB.out)⟩
                        · rw [if_neg c32] at H
                          have c32b0 : decide (t179 < t178) = false := decide_eq_false c32
                          clear c32
                          by_cases c34 : t187 ≤ t191
                          · rw [if_pos c34] at H
                            have c34b0 : decide (t187 ≤ t191) = true := decide_eq_true c34
                            clear c34
                            by_cases c35 : t178 < t179
                            · rw [if_pos c35] at H
                              have c35b0 : decide (t178 < t179) = true := decide_eq_true c35
                              clear c35
                              obtain rfl := Option.some.inj H
                              go_wp2_with (first | ((with_reducible refine gate_callee (f := 23) rfl ?_); refine goesL_ (some 90) rfl rfl Try.func23 (by kernel_rfl) rfl #[.int .i64 t178, .int .i64 t179, .int .i64 (wrap64 (t180 + 1)), .int .i64 t181] rfl (by (try simp only [List.map_toArray, List.map_cons, List.map_nil]); first | done | rfl | (simp only [List.length_drop, List.length_take]; rfl)) ?_; (with_reducible refine (impl_RampAt.calls kj16 t178 t179 (wrap64 (t180 + 1)) t181 t191 _ A31.out).mono ?_); rintro e w' ⟨rfl, ⟨nd, rfl⟩⟩; refine ⟨_, rfl, ?_⟩))
                              go_ret
                              exact ⟨by first | rfl | (simp [errW_none, errW_some] <;> rfl) | (simp [*, errW_none, errW_some] <;> rfl), by repeat (first | (with_reducible first | exact HB.out | apply below_alloc | apply pw_below_drewN | apply below_drew1) | exact HB.out)⟩
                            · rw [if_neg c35] at H
                              have c35b0 : decide (t178 < t179) = false := decide_eq_false c35
                              clear c35
                              obtain rfl := Option.some.inj H
                              go_wp2_with (first | ((with_reducible refine gate_callee (f := 23) rfl ?_); refine goesL_ (some 90) rfl rfl Try.func23 (by kernel_rfl) rfl #[.int .i64 t178, .int .i64 t179, .int .i64 (wrap64 (t180 + 1)), .int .i64 t181] rfl (by (try simp only [List.map_toArray, List.map_cons, List.map_nil]); first | done | rfl | (simp only [List.length_drop, List.length_take]; rfl)) ?_; (with_reducible refine (impl_RampAt.calls kj16 t178 t179 (wrap64 (t180 + 1)) t181 t191 _ A31.out).mono ?_); rintro e w' ⟨rfl, ⟨nd, rfl⟩⟩; refine ⟨_, rfl, ?_⟩))
                              go_ret
                              exact ⟨by first | rfl | (simp [errW_none, errW_some] <;> rfl) | (simp [*, errW_none, errW_some] <;> rfl), by repeat (first | (with_reducible first | exact HB.out | apply below_alloc | apply pw_below_drewN | apply below_drew1) | exact HB.out)⟩
                          · rw [if_neg c34] at H
                            have c34b0 : decide (t187 ≤ t191) = false := decide_eq_false c34
                            clear c34
                            obtain rfl := Option.some.inj H
                            go_wp2_with (first | ((with_reducible refine gate_callee (f := 23) rfl ?_); refine goesL_ (some 90) rfl rfl Try.func23 (by kernel_rfl) rfl #[.int .i64 t178, .int .i64 t179, .int .i64 (wrap64 (t180 + 1)), .int .i64 t181] rfl (by (try simp only [List.map_toArray, List.map_cons, List.map_nil]); first | done | rfl | (simp only [List.length_drop, List.length_take]; rfl)) ?_; (with_reducible refine (impl_RampAt.calls kj16 t178 t179 (wrap64 (t180 + 1)) t181 t191 _ A31.out).mono ?_); rintro e w' ⟨rfl, ⟨nd, rfl⟩⟩; refine ⟨_, rfl, ?_⟩))
                            go_ret
                            exact ⟨by first | rfl | (simp [errW_none, errW_some] <;> rfl) | (simp [*, errW_none, errW_some] <;> rfl), by repeat (first | (with_reducible first | exact HB.out | apply below_alloc | apply pw_below_drewN | apply below_drew1) | exact HB.out)⟩

/-- THE ONE PURE STATEMENT of laws_FnRamp: yours. -/
def laws_FnRamp.Pure : Prop := ∀ (l0 : List Int), l0.length ≤ maxLen → l0.length * 1 ≤ 140737488351232 → (∀ x ∈ l0, (Lit.int .u8 x).wf = true) → ∃ k, laws_FnRamp.f k l0 = some true
theorem laws_FnRamp.walk (P : laws_FnRamp.Pure) (a0 : Option Addr) (len0 cap0 : Nat) (z0 : List Int) (w : World) (w0 : (a0 = none ∧ len0 = 0 ∧ cap0 = 0 ∧ z0 = []) ∨ ∃ x, a0 = some x ∧ len0 ≤ cap0 ∧ cap0 ≤ maxLen ∧ z0.length = cap0 ∧ (∀ i, i < z0.length → w.cell? (x.add i) = some (.int .u8 (z0.getD i 0))) ∧ ∀ n ∈ z0, (Lit.int .u8 n).wf = true) (y0 : len0 * 1 ≤ 140737488351232) :
    Calls Try.prog 5 #[.slice a0 len0 cap0] w fun e w' => e = .returned (.bool true) ∧ Below w.heap.size w w' := by
  obtain ⟨l0, rfl, hr0, hm0, hw0, hc0⟩ := ReadsInt.ofRowC w0
  obtain ⟨k, h⟩ := P l0 hm0 y0 hw0
  refine (laws_FnRamp.calls k _ _ l0 true w (Kd.C_of_reads (d := (0 : Int)) (h1 := fun _ => rfl) hr0) hc0 h).mono ?_
  rintro e w' ⟨rfl, hd⟩
  exact ⟨rfl, hd⟩

end Go.Proofs.Ytkioodeeadhdaaa.PFnRamp
