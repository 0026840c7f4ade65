/- Plain functions and walks of the law FnPlaceText: each function answers as its plain function does. No condition beside. Printed by a changed copy of the print (wip/tools/inject.py). -/
import Derived.Test.YtcnkfnkdcjpkoaaDoorIFnPlaceTextx0
import Derived.Test.YtcnkfnkdcjpkoaaDoorIFnPlaceTextx4
namespace Go.Proofs.YtcnkfnkdcjpkoaaDoor.PFnPlaceText
open Go.RowKit Go.Proofs.YtcnkfnkdcjpkoaaDoorV Go.Proofs.YtcnkfnkdcjpkoaaDoorW.PrintWords Go.Proofs.YtcnkfnkdcjpkoaaDoorW.PrintLast Go.Proofs.YtcnkfnkdcjpkoaaDoorW.PrintMore
attribute [local go_sem] max2_int min2_int max_two min_two max_three min_three max_four min_four   -- for this text's walks alone
set_option linter.unusedVariables false
set_option linter.unusedSimpArgs false

/-! ### spec_FormatMeasure: function 22 -/
def spec_FormatMeasure.f (k : Nat) (a0 : Int) : Option (ByteArray) := (spec_IsMeasure.f a0).bind fun t213 => (if t213 = true then (if a0 < 0 then ((spec_FormatNumber.f k (wrap64 (Int.tdiv (wrap64 (-a0)) 8))).bind fun t214 => (if 1 + t214.size ≤ 9223372036854775807 then ((some (([(⟨#[]⟩ : ByteArray), (⟨#[46, 49, 50, 53]⟩ : ByteArray), (⟨#[46, 50, 53]⟩ : ByteArray), (⟨#[46, 51, 55, 53]⟩ : ByteArray), (⟨#[46, 53]⟩ : ByteArray), (⟨#[46, 54, 50, 53]⟩ : ByteArray), (⟨#[46, 55, 53]⟩ : ByteArray), (⟨#[46, 56, 55, 53]⟩ : ByteArray)] : List ByteArray) : List ByteArray)).bind fun y215 => (if 0 ≤ (Int.tmod (wrap64 (-a0)) 8) then (if (Int.tmod (wrap64 (-a0)) 8) < (y215.length : Int) then (if ((⟨#[45]⟩ : ByteArray) ++ t214).size + (rdOf ByteArray.empty y215 (Int.tmod (wrap64 (-a0)) 8)).size ≤ 9223372036854775807 then (some (((⟨#[45]⟩ : ByteArray) ++ t214) ++ (rdOf ByteArray.empty y215 (Int.tmod (wrap64 (-a0)) 8)))) else (none)) else (none)) else (none))) else (none))) else ((spec_FormatNumber.f k (wrap64 (Int.tdiv a0 8))).bind fun t219 => (if 0 + t219.size ≤ 9223372036854775807 then ((some (([(⟨#[]⟩ : ByteArray), (⟨#[46, 49, 50, 53]⟩ : ByteArray), (⟨#[46, 50, 53]⟩ : ByteArray), (⟨#[46, 51, 55, 53]⟩ : ByteArray), (⟨#[46, 53]⟩ : ByteArray), (⟨#[46, 54, 50, 53]⟩ : ByteArray), (⟨#[46, 55, 53]⟩ : ByteArray), (⟨#[46, 56, 55, 53]⟩ : ByteArray)] : List ByteArray) : List ByteArray)).bind fun y220 => (if 0 ≤ (Int.tmod a0 8) then (if (Int.tmod a0 8) < (y220.length : Int) then (if ((⟨#[]⟩ : ByteArray) ++ t219).size + (rdOf ByteArray.empty y220 (Int.tmod a0 8)).size ≤ 9223372036854775807 then (some (((⟨#[]⟩ : ByteArray) ++ t219) ++ (rdOf ByteArray.empty y220 (Int.tmod a0 8)))) else (none)) else (none)) else (none))) else (none)))) else (some (⟨#[]⟩ : ByteArray)))
theorem spec_FormatMeasure.mono : ∀ a0 k, LeO (spec_FormatMeasure.f k a0) (spec_FormatMeasure.f (k + 1) a0) := by
  intro a0 k
  unfold spec_FormatMeasure.f
  repeat' first
      | (with_reducible exact spec_FormatNumber.mono _ _)
      | (with_reducible exact LeO.refl _)
      | (with_reducible exact LeO.none _)
      | (with_reducible refine LeO.ite ?_ ?_)
      | (with_reducible refine LeO.bind ?_ (fun _ => ?_))
      | exact spec_FormatNumber.mono _ _
      | exact LeO.none _
      | refine LeO.ite ?_ ?_
      | refine LeO.bind ?_ (fun _ => ?_)
def spec_FormatMeasure.T7 : Bool × List (List Nat × List Nat) := (true, [([], []), ([], []), ([1], [1]), ([2], [2]), ([0, 3], [0, 3]), ([], []), ([], []), ([6], [6]), ([5, 7], [5, 7]), ([8], [8]), ([4, 9], [4, 9]), ([10, 3, 0, 1, 2, 3, 4, 5, 6, 7, 8, 9, 10], [10])])
def spec_FormatMeasure.B7 : List Nat := [0, 0, 2, 6, 15, 0, 0, 64, 224, 480, 1023, 2047]
theorem spec_FormatMeasure.tab7 : rtab .any (opsOf Tryd.f22 7) = spec_FormatMeasure.T7 := by kernel_rfl
theorem spec_FormatMeasure.bits7 : waitsOk spec_FormatMeasure.T7.2 spec_FormatMeasure.B7 = true := by kernel_rfl
set_option maxHeartbeats 8000000 in
set_option maxRecDepth 100000 in
theorem spec_FormatMeasure.calls (k : Nat) (a0 : Int) (r : ByteArray) (w : World) (h : spec_FormatMeasure.f k a0 = some r) :
    Calls Tryd.prog 22 #[.int .i64 a0] w fun e w' => e = .returned (.string r) ∧ Below w.heap.size w w' := by
  have HB := Aside0.mk (Below.refl w.heap.size w)
  have H : ((spec_IsMeasure.f a0).bind fun t213 => (if t213 = true then (if a0 < 0 then ((spec_FormatNumber.f k (wrap64 (Int.tdiv (wrap64 (-a0)) 8))).bind fun t214 => (if 1 + t214.size ≤ 9223372036854775807 then ((some (([(⟨#[]⟩ : ByteArray), (⟨#[46, 49, 50, 53]⟩ : ByteArray), (⟨#[46, 50, 53]⟩ : ByteArray), (⟨#[46, 51, 55, 53]⟩ : ByteArray), (⟨#[46, 53]⟩ : ByteArray), (⟨#[46, 54, 50, 53]⟩ : ByteArray), (⟨#[46, 55, 53]⟩ : ByteArray), (⟨#[46, 56, 55, 53]⟩ : ByteArray)] : List ByteArray) : List ByteArray)).bind fun y215 => (if 0 ≤ (Int.tmod (wrap64 (-a0)) 8) then (if (Int.tmod (wrap64 (-a0)) 8) < (y215.length : Int) then (if ((⟨#[45]⟩ : ByteArray) ++ t214).size + (rdOf ByteArray.empty y215 (Int.tmod (wrap64 (-a0)) 8)).size ≤ 9223372036854775807 then (some (((⟨#[45]⟩ : ByteArray) ++ t214) ++ (rdOf ByteArray.empty y215 (Int.tmod (wrap64 (-a0)) 8)))) else (none)) else (none)) else (none))) else (none))) else ((spec_FormatNumber.f k (wrap64 (Int.tdiv a0 8))).bind fun t219 => (if 0 + t219.size ≤ 9223372036854775807 then ((some (([(⟨#[]⟩ : ByteArray), (⟨#[46, 49, 50, 53]⟩ : ByteArray), (⟨#[46, 50, 53]⟩ : ByteArray), (⟨#[46, 51, 55, 53]⟩ : ByteArray), (⟨#[46, 53]⟩ : ByteArray), (⟨#[46, 54, 50, 53]⟩ : ByteArray), (⟨#[46, 55, 53]⟩ : ByteArray), (⟨#[46, 56, 55, 53]⟩ : ByteArray)] : List ByteArray) : List ByteArray)).bind fun y220 => (if 0 ≤ (Int.tmod a0 8) then (if (Int.tmod a0 8) < (y220.length : Int) then (if ((⟨#[]⟩ : ByteArray) ++ t219).size + (rdOf ByteArray.empty y220 (Int.tmod a0 8)).size ≤ 9223372036854775807 then (some (((⟨#[]⟩ : ByteArray) ++ t219) ++ (rdOf ByteArray.empty y220 (Int.tmod a0 8)))) else (none)) else (none)) else (none))) else (none)))) else (some (⟨#[]⟩ : ByteArray)))) = some r := h
  clear h
  replace H := Option.bind_eq_some_iff.mp H
  obtain ⟨t213, A20, H⟩ := H
  replace H : (if t213 = true then (if a0 < 0 then ((spec_FormatNumber.f k (wrap64 (Int.tdiv (wrap64 (-a0)) 8))).bind fun t214 => (if 1 + t214.size ≤ 9223372036854775807 then ((some (([(⟨#[]⟩ : ByteArray), (⟨#[46, 49, 50, 53]⟩ : ByteArray), (⟨#[46, 50, 53]⟩ : ByteArray), (⟨#[46, 51, 55, 53]⟩ : ByteArray), (⟨#[46, 53]⟩ : ByteArray), (⟨#[46, 54, 50, 53]⟩ : ByteArray), (⟨#[46, 55, 53]⟩ : ByteArray), (⟨#[46, 56, 55, 53]⟩ : ByteArray)] : List ByteArray) : List ByteArray)).bind fun y215 => (if 0 ≤ (Int.tmod (wrap64 (-a0)) 8) then (if (Int.tmod (wrap64 (-a0)) 8) < (y215.length : Int) then (if ((⟨#[45]⟩ : ByteArray) ++ t214).size + (rdOf ByteArray.empty y215 (Int.tmod (wrap64 (-a0)) 8)).size ≤ 9223372036854775807 then (some (((⟨#[45]⟩ : ByteArray) ++ t214) ++ (rdOf ByteArray.empty y215 (Int.tmod (wrap64 (-a0)) 8)))) else (none)) else (none)) else (none))) else (none))) else ((spec_FormatNumber.f k (wrap64 (Int.tdiv a0 8))).bind fun t219 => (if 0 + t219.size ≤ 9223372036854775807 then ((some (([(⟨#[]⟩ : ByteArray), (⟨#[46, 49, 50, 53]⟩ : ByteArray), (⟨#[46, 50, 53]⟩ : ByteArray), (⟨#[46, 51, 55, 53]⟩ : ByteArray), (⟨#[46, 53]⟩ : ByteArray), (⟨#[46, 54, 50, 53]⟩ : ByteArray), (⟨#[46, 55, 53]⟩ : ByteArray), (⟨#[46, 56, 55, 53]⟩ : ByteArray)] : List ByteArray) : List ByteArray)).bind fun y220 => (if 0 ≤ (Int.tmod a0 8) then (if (Int.tmod a0 8) < (y220.length : Int) then (if ((⟨#[]⟩ : ByteArray) ++ t219).size + (rdOf ByteArray.empty y220 (Int.tmod a0 8)).size ≤ 9223372036854775807 then (some (((⟨#[]⟩ : ByteArray) ++ t219) ++ (rdOf ByteArray.empty y220 (Int.tmod a0 8)))) else (none)) else (none)) else (none))) else (none)))) else (some (⟨#[]⟩ : ByteArray))) = some r := H
  have A2 := Aside0.mk A20
  clear A20
  by_cases c3 : t213 = true
  · subst c3
    have H1 : (if a0 < 0 then ((spec_FormatNumber.f k (wrap64 (Int.tdiv (wrap64 (-a0)) 8))).bind fun t214 => (if 1 + t214.size ≤ 9223372036854775807 then ((some (([(⟨#[]⟩ : ByteArray), (⟨#[46, 49, 50, 53]⟩ : ByteArray), (⟨#[46, 50, 53]⟩ : ByteArray), (⟨#[46, 51, 55, 53]⟩ : ByteArray), (⟨#[46, 53]⟩ : ByteArray), (⟨#[46, 54, 50, 53]⟩ : ByteArray), (⟨#[46, 55, 53]⟩ : ByteArray), (⟨#[46, 56, 55, 53]⟩ : ByteArray)] : List ByteArray) : List ByteArray)).bind fun y215 => (if 0 ≤ (Int.tmod (wrap64 (-a0)) 8) then (if (Int.tmod (wrap64 (-a0)) 8) < (y215.length : Int) then (if ((⟨#[45]⟩ : ByteArray) ++ t214).size + (rdOf ByteArray.empty y215 (Int.tmod (wrap64 (-a0)) 8)).size ≤ 9223372036854775807 then (some (((⟨#[45]⟩ : ByteArray) ++ t214) ++ (rdOf ByteArray.empty y215 (Int.tmod (wrap64 (-a0)) 8)))) else (none)) else (none)) else (none))) else (none))) else ((spec_FormatNumber.f k (wrap64 (Int.tdiv a0 8))).bind fun t219 => (if 0 + t219.size ≤ 9223372036854775807 then ((some (([(⟨#[]⟩ : ByteArray), (⟨#[46, 49, 50, 53]⟩ : ByteArray), (⟨#[46, 50, 53]⟩ : ByteArray), (⟨#[46, 51, 55, 53]⟩ : ByteArray), (⟨#[46, 53]⟩ : ByteArray), (⟨#[46, 54, 50, 53]⟩ : ByteArray), (⟨#[46, 55, 53]⟩ : ByteArray), (⟨#[46, 56, 55, 53]⟩ : ByteArray)] : List ByteArray) : List ByteArray)).bind fun y220 => (if 0 ≤ (Int.tmod a0 8) then (if (Int.tmod a0 8) < (y220.length : Int) then (if ((⟨#[]⟩ : ByteArray) ++ t219).size + (rdOf ByteArray.empty y220 (Int.tmod a0 8)).size ≤ 9223372036854775807 then (some (((⟨#[]⟩ : ByteArray) ++ t219) ++ (rdOf ByteArray.empty y220 (Int.tmod a0 8)))) else (none)) else (none)) else (none))) else (none)))) = some r := by rw [if_pos rfl] at H; exact H
    clear H
    have H := H1
    clear H1
    by_cases c4 : a0 < 0
    · rw [if_pos c4] at H
      have c4b0 : decide (a0 < 0) = true := decide_eq_true c4
      clear c4
      replace H := Option.bind_eq_some_iff.mp H
      obtain ⟨t214, A50, H⟩ := H
      replace H : (if 1 + t214.size ≤ 9223372036854775807 then ((some (([(⟨#[]⟩ : ByteArray), (⟨#[46, 49, 50, 53]⟩ : ByteArray), (⟨#[46, 50, 53]⟩ : ByteArray), (⟨#[46, 51, 55, 53]⟩ : ByteArray), (⟨#[46, 53]⟩ : ByteArray), (⟨#[46, 54, 50, 53]⟩ : ByteArray), (⟨#[46, 55, 53]⟩ : ByteArray), (⟨#[46, 56, 55, 53]⟩ : ByteArray)] : List ByteArray) : List ByteArray)).bind fun y215 => (if 0 ≤ (Int.tmod (wrap64 (-a0)) 8) then (if (Int.tmod (wrap64 (-a0)) 8) < (y215.length : Int) then (if ((⟨#[45]⟩ : ByteArray) ++ t214).size + (rdOf ByteArray.empty y215 (Int.tmod (wrap64 (-a0)) 8)).size ≤ 9223372036854775807 then (some (((⟨#[45]⟩ : ByteArray) ++ t214) ++ (rdOf ByteArray.empty y215 (Int.tmod (wrap64 (-a0)) 8)))) else (none)) else (none)) else (none))) else (none)) = some r := H
      have A5 := Aside0.mk A50
      clear A50
      by_cases c6 : 1 + t214.size ≤ 9223372036854775807
      · rw [if_pos c6] at H
        have c6b0 := eq_true c6
        have c6b1 : decide (1 + t214.size ≤ 9223372036854775807) = true := decide_eq_true c6
        try have c6b2 : (9223372036854775807 < 1 + t214.size) = False := eq_false (Nat.not_lt.2 c6)
        obtain ⟨y215, hy215⟩ : ∃ y_ : List ByteArray, y_ = (([(⟨#[]⟩ : ByteArray), (⟨#[46, 49, 50, 53]⟩ : ByteArray), (⟨#[46, 50, 53]⟩ : ByteArray), (⟨#[46, 51, 55, 53]⟩ : ByteArray), (⟨#[46, 53]⟩ : ByteArray), (⟨#[46, 54, 50, 53]⟩ : ByteArray), (⟨#[46, 55, 53]⟩ : ByteArray), (⟨#[46, 56, 55, 53]⟩ : ByteArray)] : List ByteArray)) := ⟨_, rfl⟩
        replace H : (if 0 ≤ (Int.tmod (wrap64 (-a0)) 8) then (if (Int.tmod (wrap64 (-a0)) 8) < (y215.length : Int) then (if ((⟨#[45]⟩ : ByteArray) ++ t214).size + (rdOf ByteArray.empty y215 (Int.tmod (wrap64 (-a0)) 8)).size ≤ 9223372036854775807 then (some (((⟨#[45]⟩ : ByteArray) ++ t214) ++ (rdOf ByteArray.empty y215 (Int.tmod (wrap64 (-a0)) 8)))) else (none)) else (none)) else (none)) = some r := by first | (rw [hy215]; with_reducible exact H) | (have H2_ := (Option.bind_some _ _).symm.trans H; rw [hy215]; with_reducible exact H2_) | (have H2_ := (Option.bind_some _ _).symm.trans H; with_reducible exact H2_) | with_reducible exact H | (rw [hy215]; exact H) | exact H
        have Ny215 := Aside0.mk hy215
        clear hy215
        obtain ⟨ji7, hji7⟩ : ∃ j_ : Int, (Int.tmod (wrap64 (-a0)) 8) = j_ := ⟨_, rfl⟩
        replace H : (if 0 ≤ (ji7) then (if (ji7) < (y215.length : Int) then (if ((⟨#[45]⟩ : ByteArray) ++ t214).size + (rdOf ByteArray.empty y215 (ji7)).size ≤ 9223372036854775807 then (some (((⟨#[45]⟩ : ByteArray) ++ t214) ++ (rdOf ByteArray.empty y215 (ji7)))) else (none)) else (none)) else (none)) = some r := by first | (rw [hji7] at H; exact H) | (simp only [hji7] at H ⊢; exact H)
        (try rw [hji7] at A2)
        (try rw [hji7] at A5)
        by_cases c8 : 0 ≤ (ji7)
        · rw [if_pos c8] at H
          have c8b0 : decide (0 ≤ (ji7)) = true := decide_eq_true c8
          clear c8
          by_cases c9 : (ji7) < (y215.length : Int)
          · rw [if_pos c9] at H
            have c9b0 : decide ((ji7) < (y215.length : Int)) = true := decide_eq_true c9
            clear c9
            by_cases c10 : ((⟨#[45]⟩ : ByteArray) ++ t214).size + (rdOf ByteArray.empty y215 (ji7)).size ≤ 9223372036854775807
            · rw [if_pos c10] at H
              have c10b0 := eq_true c10
              have c10b1 : decide (((⟨#[45]⟩ : ByteArray) ++ t214).size + (rdOf ByteArray.empty y215 (ji7)).size ≤ 9223372036854775807) = true := decide_eq_true c10
              try have c10b2 : (9223372036854775807 < ((⟨#[45]⟩ : ByteArray) ++ t214).size + (rdOf ByteArray.empty y215 (ji7)).size) = False := eq_false (Nat.not_lt.2 c10)
              obtain rfl := Option.some.inj H
              go_enter Tryd.func22, Tryd.ntmps22
              try go_wp2_with (first | ((with_reducible refine gate_callee (f := 46) rfl ?_); refine goesL_ (some 5) rfl rfl Tryd.func46 (by kernel_rfl) rfl #[.int .i64 a0] rfl (by (try simp only [List.map_toArray, List.map_cons, List.map_nil]); first | done | rfl | (simp only [List.length_drop, List.length_take]; rfl)) ?_; (with_reducible refine (spec_IsMeasure.calls a0 true _ A2.out).mono ?_); rintro e w' ⟨rfl, ⟨nd, rfl⟩⟩; refine ⟨_, rfl, ?_⟩))
              have pi218 : (0 ≤ ((ji7) : Int)) = True := eq_true (of_decide_eq_true (by first | (with_reducible assumption) | assumption))
              have qi218 : ((ji7) < (y215.length : Int)) = True := eq_true (of_decide_eq_true (by first | (with_reducible assumption) | assumption))
              have n0_ := Aside0.mk (below_drew1 (pw_below_drewN HB.out nd))
              clear HB
              have HB := n0_
              clear n0_
              refine start_ (n := 12) (S := fun w' => True) (ds := []) #[false, false, false, false, false, false, false, false, false, false, false, false] (by kernel_rfl) rfl rfl trivial (fun hHeld => ?_); refine with_tabW spec_FormatMeasure.tab7 spec_FormatMeasure.bits7 (fun HT_ HW_ => ?_)
              generalize (w.drewN nd).drew = w11 at HB hHeld ⊢
              refine pure_ (i := 0) (N := some 12) (v := ?_) (a' := ?_) #[true, false, false, false, false, false, false, false, false, false, false, false] rfl rfl (any_of HT_.out (by kernel_rfl)) (fun _ _ _ h => h) (Or.inl ⟨by rfl, ?_⟩) ?_ ?_
              rotate_left
              · intro w'
                go_simp
                with_reducible rfl
              rotate_left
              · simp only [Act.put, List.setIfInBounds_toArray, List.set_cons_zero, List.set_cons_succ, i64_w, i32_w]
                rfl
              refine pure_ (i := 1) (N := some 13) (v := ?_) (a' := ?_) #[true, true, false, false, false, false, false, false, false, false, false, false] rfl rfl (any_of HT_.out (by kernel_rfl)) (fun _ _ _ h => h) (Or.inl ⟨by rfl, ?_⟩) ?_ ?_
              rotate_left
              · intro w'
                go_simp
                with_reducible rfl
              rotate_left
              · simp only [Act.put, List.setIfInBounds_toArray, List.set_cons_zero, List.set_cons_succ, i64_w, i32_w]
                rfl
              refine pure_ (i := 6) (N := some 18) (v := ?_) (a' := ?_) #[true, true, false, false, false, false, true, false, false, false, false, false] rfl rfl (any_of HT_.out (by kernel_rfl)) (fun _ _ _ h => h) (Or.inl ⟨by rfl, ?_⟩) ?_ ?_
              rotate_left
              · intro w'
                go_simp
                with_reducible rfl
              rotate_left
              · simp only [Act.put, List.setIfInBounds_toArray, List.set_cons_zero, List.set_cons_succ, i64_w, i32_w]
                rfl
              refine inv_at [2, 3, 4, 5, 7, 8, 9, 10, 11] (fun a0_ b a w' => ∃ (v216 : Value) (adz_v216 : Addr) (m8_ : Value), a = putSel a0_ b [(2, 14, .int .i64 (wrap64 (Int.tdiv (wrap64 (-a0)) 8))), (3, 15, .string t214), (4, 16, .string ((⟨#[45]⟩ : ByteArray) ++ t214)), (5, 17, v216), (7, 19, .int .i64 ji7), (8, 20, m8_), (9, 21, .string (rdOf ByteArray.empty y215 (ji7))), (10, 22, .string (((⟨#[45]⟩ : ByteArray) ++ t214) ++ (rdOf ByteArray.empty y215 (ji7)))), (11, 2, .string (((⟨#[45]⟩ : ByteArray) ++ t214) ++ (rdOf ByteArray.empty y215 (ji7))))] ∧ (Below w.heap.size w w') ∧ (b 5 = true → Kd.R Kd.string 9 w' w.heap.size (fun _ => True) v216 y215) ∧ (b 5 = true → ∃ c_, (v216 : Value) = .slice (some adz_v216) y215.length c_) ∧ (b 8 = true → (m8_ : Value) = .pointer (some (adz_v216.add ((ji7)).toNat)))) HT_.out HW_.out (by kernel_rfl) (by kernel_rfl) ?_ ?_ ?_
              · exact ⟨.bool false, ⟨0, 0, none⟩, .bool false, by simp only [putSel, Bool.false_eq_true, if_false], HB.out, fun h_ => absurd h_ (by decide), fun h_ => absurd h_ (by decide), fun h_ => absurd h_ (by decide)⟩
              · skip
                clear HB
                refine steps_cons ?_ ?_
                · rintro b a w' ⟨v216, adz_v216, m8_, ha, Q_HB, Q_HO217, Q_HA_HO217, Q_X8_⟩ hb_ hon hoff
                  refine ⟨_, rfl, fun K hK => ?_⟩
                  have e13 : a.tmps[13]? = some (.int .i64 (wrap64 (-a0))) := by rw [ha]; exact (putSel_off rfl).trans rfl
                  replace ha := Aside0.mk ha
                  have HB := Aside0.mk Q_HB
                  refine value_ (w1 := w') (v := .int .i64 (wrap64 (Int.tdiv (wrap64 (-a0)) 8))) (by rfl) rfl ?_ ?_
                  · go_simp
                    (try simp only [i64_w])
                    try rfl
                    try (first | omega | (rw [ByteArray.size_append] at c10; exact c10) | (have z_ := c10; rw [ByteArray.size_append] at z_; have z2_ : (⟨#[]⟩ : ByteArray).size = 0 := rfl; omega))
                  refine hK.out _ _ ⟨v216, adz_v216, m8_, (by rw [ha.out]; exact putSel_upk 0 hb_ rfl rfl rfl), Q_HB, Q_HO217, Q_HA_HO217, Q_X8_⟩
                refine steps_cons ?_ ?_
                · rintro b a w' ⟨v216, adz_v216, m8_, ha, Q_HB, Q_HO217, Q_HA_HO217, Q_X8_⟩ hb_ hon hoff
                  refine ⟨_, rfl, fun K hK => ?_⟩
                  have e14 : a.tmps[14]? = some (.int .i64 (wrap64 (Int.tdiv (wrap64 (-a0)) 8))) := by rw [ha]; exact putSel_on (e := (2, 14, .int .i64 (wrap64 (Int.tdiv (wrap64 (-a0)) 8)))) 0 rfl rfl (hon 2 (by kernel_rfl)) rfl
                  replace ha := Aside0.mk ha
                  have HB := Aside0.mk Q_HB
                  refine goes_ Tryd.func15 (by kernel_rfl) rfl #[.int .i64 (wrap64 (Int.tdiv (wrap64 (-a0)) 8))] (by rfl) rfl rfl (by first | (simp only [List.map_toArray, List.map_cons, List.map_nil, Act.eval, Array.getD_eq_getD_getElem?, Option.getD_some, e14]; done) | (simp only [List.map_toArray, List.map_cons, List.map_nil, Act.eval, Array.getD_eq_getD_getElem?, Option.getD_some, e14]; rfl)) ?_
                  with_reducible refine (spec_FormatNumber.calls k (wrap64 (Int.tdiv (wrap64 (-a0)) 8)) t214 _ A5.out).mono ?_
                  rintro e w12 ⟨rfl, hb⟩
                  refine ⟨_, rfl, ?_⟩
                  have n0_ := Aside0.mk (below_step (by repeat (first | (with_reducible first | exact HB.out | apply below_alloc | apply pw_below_drewN | apply below_drew1) | exact HB.out)) hb)
                  have z_HO217 := fun (h0_ : b 5 = true) => (show Kd.R Kd.string 9 w12 w.heap.size (fun _ => True) v216 y215 from by first | exact (Kd.R_below (by (with_reducible repeat (first | apply Kd.R_alloc | apply Kd.R_drewN | apply Kd.R_drew)); exact (Q_HO217 h0_)) hb) | exact Kd.R_mono (Kd.R_below (by (with_reducible repeat (first | apply Kd.R_alloc | apply Kd.R_drewN | apply Kd.R_drew)); exact (Q_HO217 h0_)) hb) (fun _ h_ => by first | trivial | exact h_ | exact h_.1))
                  clear HB
                  have HB := n0_
                  clear n0_
                  (try clear hb)
                  (try clear hb2)
                  (try clear hk)
                  (try clear hi)
                  refine hK.out _ _ ⟨v216, adz_v216, m8_, (by rw [ha.out]; exact putSel_upk 1 hb_ rfl rfl rfl), (by repeat (first | (with_reducible first | exact HB.out | apply below_alloc | apply pw_below_drewN | apply below_drew1) | exact HB.out)), z_HO217, Q_HA_HO217, Q_X8_⟩
                refine steps_cons ?_ ?_
                · rintro b a w' ⟨v216, adz_v216, m8_, ha, Q_HB, Q_HO217, Q_HA_HO217, Q_X8_⟩ hb_ hon hoff
                  refine ⟨_, rfl, fun K hK => ?_⟩
                  have e12 : a.tmps[12]? = some (.string (⟨#[45]⟩ : ByteArray)) := by rw [ha]; exact (putSel_off rfl).trans rfl
                  have e15 : a.tmps[15]? = some (.string t214) := by rw [ha]; exact putSel_on (e := (3, 15, .string t214)) 1 rfl rfl (hon 3 (by kernel_rfl)) rfl
                  replace ha := Aside0.mk ha
                  have HB := Aside0.mk Q_HB
                  refine value_ (w1 := w') (v := .string ((⟨#[45]⟩ : ByteArray) ++ t214)) (by rfl) rfl ?_ ?_
                  · go_simp
                    (try simp only [i64_w])
                    try rfl
                    try (first | omega | (rw [ByteArray.size_append] at c10; exact c10) | (have z_ := c10; rw [ByteArray.size_append] at z_; have z2_ : (⟨#[]⟩ : ByteArray).size = 0 := rfl; omega))
                  refine hK.out _ _ ⟨v216, adz_v216, m8_, (by rw [ha.out]; exact putSel_upk 2 hb_ rfl rfl rfl), Q_HB, Q_HO217, Q_HA_HO217, Q_X8_⟩
                refine steps_cons ?_ ?_
                · rintro b a w' ⟨v216, adz_v216, m8_, ha, Q_HB, Q_HO217, Q_HA_HO217, Q_X8_⟩ hb_ hon hoff
                  refine ⟨_, rfl, fun K hK => ?_⟩
                  replace ha := Aside0.mk ha
                  have HB := Aside0.mk Q_HB
                  refine Kd.R_lit_step Kd.string _ 9 ?hg (N := 17) ?hd (xs := ([(⟨#[]⟩ : ByteArray), (⟨#[46, 49, 50, 53]⟩ : ByteArray), (⟨#[46, 50, 53]⟩ : ByteArray), (⟨#[46, 51, 55, 53]⟩ : ByteArray), (⟨#[46, 53]⟩ : ByteArray), (⟨#[46, 54, 50, 53]⟩ : ByteArray), (⟨#[46, 55, 53]⟩ : ByteArray), (⟨#[46, 56, 55, 53]⟩ : ByteArray)] : List ByteArray)) (inner := [.string (⟨#[]⟩ : ByteArray), .string (⟨#[46, 49, 50, 53]⟩ : ByteArray), .string (⟨#[46, 50, 53]⟩ : ByteArray), .string (⟨#[46, 51, 55, 53]⟩ : ByteArray), .string (⟨#[46, 53]⟩ : ByteArray), .string (⟨#[46, 54, 50, 53]⟩ : ByteArray), .string (⟨#[46, 55, 53]⟩ : ByteArray), .string (⟨#[46, 56, 55, 53]⟩ : ByteArray)]) (ok := fun _ => True) (okp := fun _ => True) ?hr ?hp (fun _ hk => hk) trivial (Below.refl _ _) (Nat.le_refl _) (by simp) ?_; (case hd => rfl); (case hg => rfl); (case hr => first | (go_simp; done) | (go_simp; rfl)); (case hp => exact (Reps.one (show Kd.M Kd.string _ _ _ (⟨#[]⟩ : ByteArray) [.string (⟨#[]⟩ : ByteArray)] from rfl) (Reps.one (show Kd.M Kd.string _ _ _ (⟨#[46, 49, 50, 53]⟩ : ByteArray) [.string (⟨#[46, 49, 50, 53]⟩ : ByteArray)] from rfl) (Reps.one (show Kd.M Kd.string _ _ _ (⟨#[46, 50, 53]⟩ : ByteArray) [.string (⟨#[46, 50, 53]⟩ : ByteArray)] from rfl) (Reps.one (show Kd.M Kd.string _ _ _ (⟨#[46, 51, 55, 53]⟩ : ByteArray) [.string (⟨#[46, 51, 55, 53]⟩ : ByteArray)] from rfl) (Reps.one (show Kd.M Kd.string _ _ _ (⟨#[46, 53]⟩ : ByteArray) [.string (⟨#[46, 53]⟩ : ByteArray)] from rfl) (Reps.one (show Kd.M Kd.string _ _ _ (⟨#[46, 54, 50, 53]⟩ : ByteArray) [.string (⟨#[46, 54, 50, 53]⟩ : ByteArray)] from rfl) (Reps.one (show Kd.M Kd.string _ _ _ (⟨#[46, 55, 53]⟩ : ByteArray) [.string (⟨#[46, 55, 53]⟩ : ByteArray)] from rfl) (Reps.one (show Kd.M Kd.string _ _ _ (⟨#[46, 56, 55, 53]⟩ : ByteArray) [.string (⟨#[46, 56, 55, 53]⟩ : ByteArray)] from rfl) (Reps.none _ _))))))))))
                  intro v216 w12 ho13 hb hg_ hnew_
                  clear hg_ hnew_
                  (first | rw [← Ny215.out] at ho13 | (simp only [Int.reduceToNat] at ho13; rw [← Ny215.out] at ho13))
                  have n0_ := Aside0.mk (Kd.R_lower ho13 (below_size (by repeat (first | (with_reducible first | exact HB.out | apply below_alloc | apply pw_below_drewN | apply below_drew1) | exact HB.out))))
                  have n1_ := Aside0.mk (below_step (by repeat (first | (with_reducible first | exact HB.out | apply below_alloc | apply pw_below_drewN | apply below_drew1) | exact HB.out)) hb)
                  clear HB
                  have HO217 := n0_
                  have HB := n1_
                  clear n0_ n1_
                  clear hb ho13
                  obtain ⟨Ao14, co14, eo14⟩ := Kd.R_slice HO217.out
                  subst eo14
                  obtain ⟨ado14, fo14, _⟩ := Kd.at_string (Kd.R_reads' HO217.out).2.2 0 (by decide) (by rw [Ny215.out]; simp)
                  cases fo14
                  refine hK.out _ _ ⟨.slice (some ado14) y215.length co14, ado14, m8_, (by rw [ha.out]; exact putSel_upk 3 hb_ rfl rfl rfl), (by repeat (first | (with_reducible first | exact HB.out | apply below_alloc | apply pw_below_drewN | apply below_drew1) | exact HB.out)), fun _ => (by (with_reducible repeat (first | apply Kd.R_alloc | apply Kd.R_drewN | apply Kd.R_drew)); exact HO217.out), fun _ => ⟨_, rfl⟩, fun h0_ => absurd ((hoff 8 (by kernel_rfl)).symm.trans h0_) (by decide)⟩
                refine steps_cons ?_ ?_
                · rintro b a w' ⟨v216, adz_v216, m8_, ha, Q_HB, Q_HO217, Q_HA_HO217, Q_X8_⟩ hb_ hon hoff
                  refine ⟨_, rfl, fun K hK => ?_⟩
                  have e18 : a.tmps[18]? = some (.int .i64 (wrap64 (-a0))) := by rw [ha]; exact (putSel_off rfl).trans rfl
                  replace ha := Aside0.mk ha
                  have HB := Aside0.mk Q_HB
                  refine value_ (w1 := w') (v := .int .i64 ji7) (by rfl) rfl ?_ ?_
                  · go_simp
                    (try simp only [i64_w])
                    try rfl
                    try (first | omega | (rw [ByteArray.size_append] at c10; exact c10) | (have z_ := c10; rw [ByteArray.size_append] at z_; have z2_ : (⟨#[]⟩ : ByteArray).size = 0 := rfl; omega))
                  refine hK.out _ _ ⟨v216, adz_v216, m8_, (by rw [ha.out]; exact putSel_upk 4 hb_ rfl rfl rfl), Q_HB, Q_HO217, Q_HA_HO217, fun h0_ => absurd ((hoff 8 (by kernel_rfl)).symm.trans h0_) (by decide)⟩
                refine steps_cons ?_ ?_
                · rintro b a w' ⟨v216, adz_v216, m8_, ha, Q_HB, Q_HO217, Q_HA_HO217, Q_X8_⟩ hb_ hon hoff
                  refine ⟨_, rfl, fun K hK => ?_⟩
                  have e17 : a.tmps[17]? = some (v216) := by rw [ha]; exact putSel_on (e := (5, 17, v216)) 3 rfl rfl (hon 5 (by kernel_rfl)) rfl
                  have e19 : a.tmps[19]? = some (.int .i64 ji7) := by rw [ha]; exact putSel_on (e := (7, 19, .int .i64 ji7)) 4 rfl rfl (hon 7 (by kernel_rfl)) rfl
                  replace ha := Aside0.mk ha
                  have HB := Aside0.mk Q_HB
                  have HO217 := Aside0.mk (Q_HO217 (hon 5 (by kernel_rfl)))
                  have HA_HO217 := Aside0.mk (Q_HA_HO217 (hon 5 (by kernel_rfl)))
                  obtain ⟨c_, hv_⟩ := HA_HO217.out
                  rw [hv_] at e17
                  refine value_ (w1 := w') (v := .pointer (some (adz_v216.add ((ji7)).toNat))) (by rfl) rfl ?_ ?_
                  · go_simp
                    (try simp only [i64_w])
                    try rfl
                    try (first | omega | (rw [ByteArray.size_append] at c10; exact c10) | (have z_ := c10; rw [ByteArray.size_append] at z_; have z2_ : (⟨#[]⟩ : ByteArray).size = 0 := rfl; omega))
                  refine hK.out _ _ ⟨v216, adz_v216, (.pointer (some (adz_v216.add ((ji7)).toNat))), (by rw [ha.out]; exact putSel_upk 5 hb_ rfl rfl rfl), Q_HB, Q_HO217, Q_HA_HO217, fun _ => rfl⟩
                refine steps_cons ?_ ?_
                · rintro b a w' ⟨v216, adz_v216, m8_, ha, Q_HB, Q_HO217, Q_HA_HO217, Q_X8_⟩ hb_ hon hoff
                  refine ⟨_, rfl, fun K hK => ?_⟩
                  have e20 : a.tmps[20]? = some (m8_) := by rw [ha]; exact putSel_on (e := (8, 20, m8_)) 5 rfl rfl (hon 8 (by kernel_rfl)) rfl
                  rw [Q_X8_ (hon 8 (by kernel_rfl))] at e20
                  replace ha := Aside0.mk ha
                  have HB := Aside0.mk Q_HB
                  have HO217 := Aside0.mk (Q_HO217 (hon 5 (by kernel_rfl)))
                  have HA_HO217 := Aside0.mk (Q_HA_HO217 (hon 5 (by kernel_rfl)))
                  obtain ⟨c_, hv_⟩ := HA_HO217.out
                  have hF_ := HO217.out
                  rw [hv_] at hF_
                  obtain ⟨ad_, ea_, hx_⟩ := Kd.at_string (Kd.R_reads' hF_).2.2 (ji7) (of_eq_true pi218) (of_eq_true qi218)
                  cases ea_
                  refine value_ (w1 := w') (v := .string (rdOf ByteArray.empty y215 (ji7))) (by rfl) rfl ?_ ?_
                  · go_simp
                    (try simp only [i64_w])
                    try rfl
                    try (first | omega | (rw [ByteArray.size_append] at c10; exact c10) | (have z_ := c10; rw [ByteArray.size_append] at z_; have z2_ : (⟨#[]⟩ : ByteArray).size = 0 := rfl; omega))
                  refine hK.out _ _ ⟨v216, adz_v216, m8_, (by rw [ha.out]; exact putSel_upk 6 hb_ rfl rfl rfl), Q_HB, Q_HO217, Q_HA_HO217, Q_X8_⟩
                refine steps_cons ?_ ?_
                · rintro b a w' ⟨v216, adz_v216, m8_, ha, Q_HB, Q_HO217, Q_HA_HO217, Q_X8_⟩ hb_ hon hoff
                  refine ⟨_, rfl, fun K hK => ?_⟩
                  have e16 : a.tmps[16]? = some (.string ((⟨#[45]⟩ : ByteArray) ++ t214)) := by rw [ha]; exact putSel_on (e := (4, 16, .string ((⟨#[45]⟩ : ByteArray) ++ t214))) 2 rfl rfl (hon 4 (by kernel_rfl)) rfl
                  have e21 : a.tmps[21]? = some (.string (rdOf ByteArray.empty y215 (ji7))) := by rw [ha]; exact putSel_on (e := (9, 21, .string (rdOf ByteArray.empty y215 (ji7)))) 6 rfl rfl (hon 9 (by kernel_rfl)) rfl
                  replace ha := Aside0.mk ha
                  have HB := Aside0.mk Q_HB
                  have HO217 := Aside0.mk (Q_HO217 (hon 5 (by kernel_rfl)))
                  have HA_HO217 := Aside0.mk (Q_HA_HO217 (hon 5 (by kernel_rfl)))
                  refine value_ (w1 := w') (v := .string (((⟨#[45]⟩ : ByteArray) ++ t214) ++ (rdOf ByteArray.empty y215 (ji7)))) (by rfl) rfl ?_ ?_
                  · go_simp
                    (try simp only [i64_w])
                    try rfl
                    try (first | omega | (rw [ByteArray.size_append] at c10; exact c10) | (have z_ := c10; rw [ByteArray.size_append] at z_; have z2_ : (⟨#[]⟩ : ByteArray).size = 0 := rfl; omega))
                  refine hK.out _ _ ⟨v216, adz_v216, m8_, (by rw [ha.out]; exact putSel_upk 7 hb_ rfl rfl rfl), Q_HB, Q_HO217, Q_HA_HO217, Q_X8_⟩
                refine steps_cons ?_ ?_
                · rintro b a w' ⟨v216, adz_v216, m8_, ha, Q_HB, Q_HO217, Q_HA_HO217, Q_X8_⟩ hb_ hon hoff
                  refine ⟨_, rfl, fun K hK => ?_⟩
                  have e22 : a.tmps[22]? = some (.string (((⟨#[45]⟩ : ByteArray) ++ t214) ++ (rdOf ByteArray.empty y215 (ji7)))) := by rw [ha]; exact putSel_on (e := (10, 22, .string (((⟨#[45]⟩ : ByteArray) ++ t214) ++ (rdOf ByteArray.empty y215 (ji7))))) 7 rfl rfl (hon 10 (by kernel_rfl)) rfl
                  replace ha := Aside0.mk ha
                  have HB := Aside0.mk Q_HB
                  have HO217 := Aside0.mk (Q_HO217 (hon 5 (by kernel_rfl)))
                  have HA_HO217 := Aside0.mk (Q_HA_HO217 (hon 5 (by kernel_rfl)))
                  refine value_ (w1 := w') (v := .string (((⟨#[45]⟩ : ByteArray) ++ t214) ++ (rdOf ByteArray.empty y215 (ji7)))) (by rfl) rfl ?_ ?_
                  · go_simp
                    (try simp only [i64_w])
                    try rfl
                    try (first | omega | (rw [ByteArray.size_append] at c10; exact c10) | (have z_ := c10; rw [ByteArray.size_append] at z_; have z2_ : (⟨#[]⟩ : ByteArray).size = 0 := rfl; omega))
                  refine hK.out _ _ ⟨v216, adz_v216, m8_, (by rw [ha.out]; exact putSel_upk 8 hb_ rfl rfl rfl), Q_HB, Q_HO217, Q_HA_HO217, Q_X8_⟩
                exact steps_nil
              rintro b a w16 hall ⟨v216, adz_v216, m8_, ha, Q_HB, Q_HO217, Q_HA_HO217, Q_X8_⟩
              clear HB
              have hb2_ := hall 2 (by kernel_rfl)
              have hb3_ := hall 3 (by kernel_rfl)
              have hb4_ := hall 4 (by kernel_rfl)
              have hb5_ := hall 5 (by kernel_rfl)
              have hb7_ := hall 7 (by kernel_rfl)
              have hb8_ := hall 8 (by kernel_rfl)
              have hb9_ := hall 9 (by kernel_rfl)
              have hb10_ := hall 10 (by kernel_rfl)
              have hb11_ := hall 11 (by kernel_rfl)
              subst ha
              obtain rfl := Q_X8_ hb8_
              simp only [putSel, hb2_, hb3_, hb4_, hb5_, hb7_, hb8_, hb9_, hb10_, hb11_, if_true, Act.put, List.setIfInBounds_toArray, List.set_cons_zero, List.set_cons_succ]
              have HB := Aside0.mk Q_HB
              clear Q_HB
              have HO217 := Aside0.mk (Q_HO217 hb5_)
              clear Q_HO217
              have HA_HO217 := Aside0.mk (Q_HA_HO217 hb5_)
              clear Q_HA_HO217
              clear hall hb2_ hb3_ hb4_ hb5_ hb7_ hb8_ hb9_ hb10_ hb11_
              obtain ⟨co17, eo17⟩ := HA_HO217.out
              clear HA_HO217
              subst eo17
              try go_wp2
              go_ret
              exact ⟨by first | rfl | (simp [errW_none, errW_some] <;> rfl) | (simp only [← hji7]; first | rfl | (simp [errW_none, errW_some] <;> rfl)) | (simp [*, errW_none, errW_some] <;> rfl), by repeat (first | (with_reducible first | exact HB.out | apply below_alloc | apply pw_below_drewN | apply below_drew1) | exact HB.out)⟩
            · rw [if_neg c10] at H
              exact absurd H (by simp)
          · rw [if_neg c9] at H
            exact absurd H (by simp)
        · rw [if_neg c8] at H
          exact absurd H (by simp)
      · rw [if_neg c6] at H
        exact absurd H (by simp)
    · rw [if_neg c4] at H
      have c4b0 : decide (a0 < 0) = false := decide_eq_false c4
      clear c4
      replace H := Option.bind_eq_some_iff.mp H
      obtain ⟨t219, A180, H⟩ := H
      replace H : (if 0 + t219.size ≤ 9223372036854775807 then ((some (([(⟨#[]⟩ : ByteArray), (⟨#[46, 49, 50, 53]⟩ : ByteArray), (⟨#[46, 50, 53]⟩ : ByteArray), (⟨#[46, 51, 55, 53]⟩ : ByteArray), (⟨#[46, 53]⟩ : ByteArray), (⟨#[46, 54, 50, 53]⟩ : ByteArray), (⟨#[46, 55, 53]⟩ : ByteArray), (⟨#[46, 56, 55, 53]⟩ : ByteArray)] : List ByteArray) : List ByteArray)).bind fun y220 => (if 0 ≤ (Int.tmod a0 8) then (if (Int.tmod a0 8) < (y220.length : Int) then (if ((⟨#[]⟩ : ByteArray) ++ t219).size + (rdOf ByteArray.empty y220 (Int.tmod a0 8)).size ≤ 9223372036854775807 then (some (((⟨#[]⟩ : ByteArray) ++ t219) ++ (rdOf ByteArray.empty y220 (Int.tmod a0 8)))) else (none)) else (none)) else (none))) else (none)) = some r := H
      have A18 := Aside0.mk A180
      clear A180
      by_cases c19 : 0 + t219.size ≤ 9223372036854775807
      · rw [if_pos c19] at H
        have c19b0 := eq_true c19
        have c19b1 : decide (0 + t219.size ≤ 9223372036854775807) = true := decide_eq_true c19
        try have c19b2 : (9223372036854775807 < 0 + t219.size) = False := eq_false (Nat.not_lt.2 c19)
        obtain ⟨y220, hy220⟩ : ∃ y_ : List ByteArray, y_ = (([(⟨#[]⟩ : ByteArray), (⟨#[46, 49, 50, 53]⟩ : ByteArray), (⟨#[46, 50, 53]⟩ : ByteArray), (⟨#[46, 51, 55, 53]⟩ : ByteArray), (⟨#[46, 53]⟩ : ByteArray), (⟨#[46, 54, 50, 53]⟩ : ByteArray), (⟨#[46, 55, 53]⟩ : ByteArray), (⟨#[46, 56, 55, 53]⟩ : ByteArray)] : List ByteArray)) := ⟨_, rfl⟩
        replace H : (if 0 ≤ (Int.tmod a0 8) then (if (Int.tmod a0 8) < (y220.length : Int) then (if ((⟨#[]⟩ : ByteArray) ++ t219).size + (rdOf ByteArray.empty y220 (Int.tmod a0 8)).size ≤ 9223372036854775807 then (some (((⟨#[]⟩ : ByteArray) ++ t219) ++ (rdOf ByteArray.empty y220 (Int.tmod a0 8)))) else (none)) else (none)) else (none)) = some r := by first | (rw [hy220]; with_reducible exact H) | (have H2_ := (Option.bind_some _ _).symm.trans H; rw [hy220]; with_reducible exact H2_) | (have H2_ := (Option.bind_some _ _).symm.trans H; with_reducible exact H2_) | with_reducible exact H | (rw [hy220]; exact H) | exact H
        have Ny220 := Aside0.mk hy220
        clear hy220
        obtain ⟨ji20, hji20⟩ : ∃ j_ : Int, (Int.tmod a0 8) = j_ := ⟨_, rfl⟩
        replace H : (if 0 ≤ (ji20) then (if (ji20) < (y220.length : Int) then (if ((⟨#[]⟩ : ByteArray) ++ t219).size + (rdOf ByteArray.empty y220 (ji20)).size ≤ 9223372036854775807 then (some (((⟨#[]⟩ : ByteArray) ++ t219) ++ (rdOf ByteArray.empty y220 (ji20)))) else (none)) else (none)) else (none)) = some r := by first | (rw [hji20] at H; exact H) | (simp only [hji20] at H ⊢; exact H)
        (try rw [hji20] at A2)
        (try rw [hji20] at A18)
        by_cases c21 : 0 ≤ (ji20)
        · rw [if_pos c21] at H
          have c21b0 : decide (0 ≤ (ji20)) = true := decide_eq_true c21
          clear c21
          by_cases c22 : (ji20) < (y220.length : Int)
          · rw [if_pos c22] at H
            have c22b0 : decide ((ji20) < (y220.length : Int)) = true := decide_eq_true c22
            clear c22
            by_cases c23 : ((⟨#[]⟩ : ByteArray) ++ t219).size + (rdOf ByteArray.empty y220 (ji20)).size ≤ 9223372036854775807
            · rw [if_pos c23] at H
              have c23b0 := eq_true c23
              have c23b1 : decide (((⟨#[]⟩ : ByteArray) ++ t219).size + (rdOf ByteArray.empty y220 (ji20)).size ≤ 9223372036854775807) = true := decide_eq_true c23
              try have c23b2 : (9223372036854775807 < ((⟨#[]⟩ : ByteArray) ++ t219).size + (rdOf ByteArray.empty y220 (ji20)).size) = False := eq_false (Nat.not_lt.2 c23)
              obtain rfl := Option.some.inj H
              go_enter Tryd.func22, Tryd.ntmps22
              try go_wp2_with (first | ((with_reducible refine gate_callee (f := 46) rfl ?_); refine goesL_ (some 5) rfl rfl Tryd.func46 (by kernel_rfl) rfl #[.int .i64 a0] rfl (by (try simp only [List.map_toArray, List.map_cons, List.map_nil]); first | done | rfl | (simp only [List.length_drop, List.length_take]; rfl)) ?_; (with_reducible refine (spec_IsMeasure.calls a0 true _ A2.out).mono ?_); rintro e w' ⟨rfl, ⟨nd, rfl⟩⟩; refine ⟨_, rfl, ?_⟩))
              have pi223 : (0 ≤ ((ji20) : Int)) = True := eq_true (of_decide_eq_true (by first | (with_reducible assumption) | assumption))
              have qi223 : ((ji20) < (y220.length : Int)) = True := eq_true (of_decide_eq_true (by first | (with_reducible assumption) | assumption))
              have n0_ := Aside0.mk (below_drew1 (pw_below_drewN HB.out nd))
              clear HB
              have HB := n0_
              clear n0_
              refine start_ (n := 12) (S := fun w' => True) (ds := []) #[false, false, false, false, false, false, false, false, false, false, false, false] (by kernel_rfl) rfl rfl trivial (fun hHeld => ?_); refine with_tabW spec_FormatMeasure.tab7 spec_FormatMeasure.bits7 (fun HT_ HW_ => ?_)
              generalize (w.drewN nd).drew = w24 at HB hHeld ⊢
              refine pure_ (i := 0) (N := some 12) (v := ?_) (a' := ?_) #[true, false, false, false, false, false, false, false, false, false, false, false] rfl rfl (any_of HT_.out (by kernel_rfl)) (fun _ _ _ h => h) (Or.inl ⟨by rfl, ?_⟩) ?_ ?_
              rotate_left
              · intro w'
                go_simp
                with_reducible rfl
              rotate_left
              · simp only [Act.put, List.setIfInBounds_toArray, List.set_cons_zero, List.set_cons_succ, i64_w, i32_w]
                rfl
              refine pure_ (i := 1) (N := some 13) (v := ?_) (a' := ?_) #[true, true, false, false, false, false, false, false, false, false, false, false] rfl rfl (any_of HT_.out (by kernel_rfl)) (fun _ _ _ h => h) (Or.inl ⟨by rfl, ?_⟩) ?_ ?_
              rotate_left
              · intro w'
                go_simp
                with_reducible rfl
              rotate_left
              · simp only [Act.put, List.setIfInBounds_toArray, List.set_cons_zero, List.set_cons_succ, i64_w, i32_w]
                rfl
              refine pure_ (i := 6) (N := some 18) (v := ?_) (a' := ?_) #[true, true, false, false, false, false, true, false, false, false, false, false] rfl rfl (any_of HT_.out (by kernel_rfl)) (fun _ _ _ h => h) (Or.inl ⟨by rfl, ?_⟩) ?_ ?_
              rotate_left
              · intro w'
                go_simp
                with_reducible rfl
              rotate_left
              · simp only [Act.put, List.setIfInBounds_toArray, List.set_cons_zero, List.set_cons_succ, i64_w, i32_w]
                rfl
              refine inv_at [2, 3, 4, 5, 7, 8, 9, 10, 11] (fun a0_ b a w' => ∃ (v221 : Value) (adz_v221 : Addr) (m8_ : Value), a = putSel a0_ b [(2, 14, .int .i64 (wrap64 (Int.tdiv a0 8))), (3, 15, .string t219), (4, 16, .string ((⟨#[]⟩ : ByteArray) ++ t219)), (5, 17, v221), (7, 19, .int .i64 ji20), (8, 20, m8_), (9, 21, .string (rdOf ByteArray.empty y220 (ji20))), (10, 22, .string (((⟨#[]⟩ : ByteArray) ++ t219) ++ (rdOf ByteArray.empty y220 (ji20)))), (11, 2, .string (((⟨#[]⟩ : ByteArray) ++ t219) ++ (rdOf ByteArray.empty y220 (ji20))))] ∧ (Below w.heap.size w w') ∧ (b 5 = true → Kd.R Kd.string 9 w' w.heap.size (fun _ => True) v221 y220) ∧ (b 5 = true → ∃ c_, (v221 : Value) = .slice (some adz_v221) y220.length c_) ∧ (b 8 = true → (m8_ : Value) = .pointer (some (adz_v221.add ((ji20)).toNat)))) HT_.out HW_.out (by kernel_rfl) (by kernel_rfl) ?_ ?_ ?_
              · exact ⟨.bool false, ⟨0, 0, none⟩, .bool false, by simp only [putSel, Bool.false_eq_true, if_false], HB.out, fun h_ => absurd h_ (by decide), fun h_ => absurd h_ (by decide), fun h_ => absurd h_ (by decide)⟩
              · skip
                clear HB
                refine steps_cons ?_ ?_
                · rintro b a w' ⟨v221, adz_v221, m8_, ha, Q_HB, Q_HO222, Q_HA_HO222, Q_X8_⟩ hb_ hon hoff
                  refine ⟨_, rfl, fun K hK => ?_⟩
                  have e13 : a.tmps[13]? = some (.int .i64 a0) := by rw [ha]; exact (putSel_off rfl).trans rfl
                  replace ha := Aside0.mk ha
                  have HB := Aside0.mk Q_HB
                  refine value_ (w1 := w') (v := .int .i64 (wrap64 (Int.tdiv a0 8))) (by rfl) rfl ?_ ?_
                  · go_simp
                    (try simp only [i64_w])
                    try rfl
                    try (first | omega | (rw [ByteArray.size_append] at c23; exact c23) | (have z_ := c23; rw [ByteArray.size_append] at z_; have z2_ : (⟨#[]⟩ : ByteArray).size = 0 := rfl; omega))
                  refine hK.out _ _ ⟨v221, adz_v221, m8_, (by rw [ha.out]; exact putSel_upk 0 hb_ rfl rfl rfl), Q_HB, Q_HO222, Q_HA_HO222, Q_X8_⟩
                refine steps_cons ?_ ?_
                · rintro b a w' ⟨v221, adz_v221, m8_, ha, Q_HB, Q_HO222, Q_HA_HO222, Q_X8_⟩ hb_ hon hoff
                  refine ⟨_, rfl, fun K hK => ?_⟩
                  have e14 : a.tmps[14]? = some (.int .i64 (wrap64 (Int.tdiv a0 8))) := by rw [ha]; exact putSel_on (e := (2, 14, .int .i64 (wrap64 (Int.tdiv a0 8)))) 0 rfl rfl (hon 2 (by kernel_rfl)) rfl
                  replace ha := Aside0.mk ha
                  have HB := Aside0.mk Q_HB
                  refine goes_ Tryd.func15 (by kernel_rfl) rfl #[.int .i64 (wrap64 (Int.tdiv a0 8))] (by rfl) rfl rfl (by first | (simp only [List.map_toArray, List.map_cons, List.map_nil, Act.eval, Array.getD_eq_getD_getElem?, Option.getD_some, e14]; done) | (simp only [List.map_toArray, List.map_cons, List.map_nil, Act.eval, Array.getD_eq_getD_getElem?, Option.getD_some, e14]; rfl)) ?_
                  with_reducible refine (spec_FormatNumber.calls k (wrap64 (Int.tdiv a0 8)) t219 _ A18.out).mono ?_
                  rintro e w25 ⟨rfl, hb⟩
                  refine ⟨_, rfl, ?_⟩
                  have n0_ := Aside0.mk (below_step (by repeat (first | (with_reducible first | exact HB.out | apply below_alloc | apply pw_below_drewN | apply below_drew1) | exact HB.out)) hb)
                  have z_HO222 := fun (h0_ : b 5 = true) => (show Kd.R Kd.string 9 w25 w.heap.size (fun _ => True) v221 y220 from by first | exact (Kd.R_below (by (with_reducible repeat (first | apply Kd.R_alloc | apply Kd.R_drewN | apply Kd.R_drew)); exact (Q_HO222 h0_)) hb) | exact Kd.R_mono (Kd.R_below (by (with_reducible repeat (first | apply Kd.R_alloc | apply Kd.R_drewN | apply Kd.R_drew)); exact (Q_HO222 h0_)) hb) (fun _ h_ => by first | trivial | exact h_ | exact h_.1))
                  clear HB
                  have HB := n0_
                  clear n0_
                  (try clear hb)
                  (try clear hb2)
                  (try clear hk)
                  (try clear hi)
                  refine hK.out _ _ ⟨v221, adz_v221, m8_, (by rw [ha.out]; exact putSel_upk 1 hb_ rfl rfl rfl), (by repeat (first | (with_reducible first | exact HB.out | apply below_alloc | apply pw_below_drewN | apply below_drew1) | exact HB.out)), z_HO222, Q_HA_HO222, Q_X8_⟩
                refine steps_cons ?_ ?_
                · rintro b a w' ⟨v221, adz_v221, m8_, ha, Q_HB, Q_HO222, Q_HA_HO222, Q_X8_⟩ hb_ hon hoff
                  refine ⟨_, rfl, fun K hK => ?_⟩
                  have e12 : a.tmps[12]? = some (.string (⟨#[]⟩ : ByteArray)) := by rw [ha]; exact (putSel_off rfl).trans rfl
                  have e15 : a.tmps[15]? = some (.string t219) := by rw [ha]; exact putSel_on (e := (3, 15, .string t219)) 1 rfl rfl (hon 3 (by kernel_rfl)) rfl
                  replace ha := Aside0.mk ha
                  have HB := Aside0.mk Q_HB
                  refine value_ (w1 := w') (v := .string ((⟨#[]⟩ : ByteArray) ++ t219)) (by rfl) rfl ?_ ?_
                  · go_simp
                    (try simp only [i64_w])
                    try rfl
                    try (first | omega | (rw [ByteArray.size_append] at c23; exact c23) | (have z_ := c23; rw [ByteArray.size_append] at z_; have z2_ : (⟨#[]⟩ : ByteArray).size = 0 := rfl; omega))
                  refine hK.out _ _ ⟨v221, adz_v221, m8_, (by rw [ha.out]; exact putSel_upk 2 hb_ rfl rfl rfl), Q_HB, Q_HO222, Q_HA_HO222, Q_X8_⟩
                refine steps_cons ?_ ?_
                · rintro b a w' ⟨v221, adz_v221, m8_, ha, Q_HB, Q_HO222, Q_HA_HO222, Q_X8_⟩ hb_ hon hoff
                  refine ⟨_, rfl, fun K hK => ?_⟩
                  replace ha := Aside0.mk ha
                  have HB := Aside0.mk Q_HB
                  refine Kd.R_lit_step Kd.string _ 9 ?hg (N := 17) ?hd (xs := ([(⟨#[]⟩ : ByteArray), (⟨#[46, 49, 50, 53]⟩ : ByteArray), (⟨#[46, 50, 53]⟩ : ByteArray), (⟨#[46, 51, 55, 53]⟩ : ByteArray), (⟨#[46, 53]⟩ : ByteArray), (⟨#[46, 54, 50, 53]⟩ : ByteArray), (⟨#[46, 55, 53]⟩ : ByteArray), (⟨#[46, 56, 55, 53]⟩ : ByteArray)] : List ByteArray)) (inner := [.string (⟨#[]⟩ : ByteArray), .string (⟨#[46, 49, 50, 53]⟩ : ByteArray), .string (⟨#[46, 50, 53]⟩ : ByteArray), .string (⟨#[46, 51, 55, 53]⟩ : ByteArray), .string (⟨#[46, 53]⟩ : ByteArray), .string (⟨#[46, 54, 50, 53]⟩ : ByteArray), .string (⟨#[46, 55, 53]⟩ : ByteArray), .string (⟨#[46, 56, 55, 53]⟩ : ByteArray)]) (ok := fun _ => True) (okp := fun _ => True) ?hr ?hp (fun _ hk => hk) trivial (Below.refl _ _) (Nat.le_refl _) (by simp) ?_; (case hd => rfl); (case hg => rfl); (case hr => first | (go_simp; done) | (go_simp; rfl)); (case hp => exact (Reps.one (show Kd.M Kd.string _ _ _ (⟨#[]⟩ : ByteArray) [.string (⟨#[]⟩ : ByteArray)] from rfl) (Reps.one (show Kd.M Kd.string _ _ _ (⟨#[46, 49, 50, 53]⟩ : ByteArray) [.string (⟨#[46, 49, 50, 53]⟩ : ByteArray)] from rfl) (Reps.one (show Kd.M Kd.string _ _ _ (⟨#[46, 50, 53]⟩ : ByteArray) [.string (⟨#[46, 50, 53]⟩ : ByteArray)] from rfl) (Reps.one (show Kd.M Kd.string _ _ _ (⟨#[46, 51, 55, 53]⟩ : ByteArray) [.string (⟨#[46, 51, 55, 53]⟩ : ByteArray)] from rfl) (Reps.one (show Kd.M Kd.string _ _ _ (⟨#[46, 53]⟩ : ByteArray) [.string (⟨#[46, 53]⟩ : ByteArray)] from rfl) (Reps.one (show Kd.M Kd.string _ _ _ (⟨#[46, 54, 50, 53]⟩ : ByteArray) [.string (⟨#[46, 54, 50, 53]⟩ : ByteArray)] from rfl) (Reps.one (show Kd.M Kd.string _ _ _ (⟨#[46, 55, 53]⟩ : ByteArray) [.string (⟨#[46, 55, 53]⟩ : ByteArray)] from rfl) (Reps.one (show Kd.M Kd.string _ _ _ (⟨#[46, 56, 55, 53]⟩ : ByteArray) [.string (⟨#[46, 56, 55, 53]⟩ : ByteArray)] from rfl) (Reps.none _ _))))))))))
                  intro v221 w25 ho26 hb hg_ hnew_
                  clear hg_ hnew_
                  (first | rw [← Ny220.out] at ho26 | (simp only [Int.reduceToNat] at ho26; rw [← Ny220.out] at ho26))
                  have n0_ := Aside0.mk (Kd.R_lower ho26 (below_size (by repeat (first | (with_reducible first | exact HB.out | apply below_alloc | apply pw_below_drewN | apply below_drew1) | exact HB.out))))
                  have n1_ := Aside0.mk (below_step (by repeat (first | (with_reducible first | exact HB.out | apply below_alloc | apply pw_below_drewN | apply below_drew1) | exact HB.out)) hb)
                  clear HB
                  have HO222 := n0_
                  have HB := n1_
                  clear n0_ n1_
                  clear hb ho26
                  obtain ⟨Ao27, co27, eo27⟩ := Kd.R_slice HO222.out
                  subst eo27
                  obtain ⟨ado27, fo27, _⟩ := Kd.at_string (Kd.R_reads' HO222.out).2.2 0 (by decide) (by rw [Ny220.out]; simp)
                  cases fo27
                  refine hK.out _ _ ⟨.slice (some ado27) y220.length co27, ado27, m8_, (by rw [ha.out]; exact putSel_upk 3 hb_ rfl rfl rfl), (by repeat (first | (with_reducible first | exact HB.out | apply below_alloc | apply pw_below_drewN | apply below_drew1) | exact HB.out)), fun _ => (by (with_reducible repeat (first | apply Kd.R_alloc | apply Kd.R_drewN | apply Kd.R_drew)); exact HO222.out), fun _ => ⟨_, rfl⟩, fun h0_ => absurd ((hoff 8 (by kernel_rfl)).symm.trans h0_) (by decide)⟩
                refine steps_cons ?_ ?_
                · rintro b a w' ⟨v221, adz_v221, m8_, ha, Q_HB, Q_HO222, Q_HA_HO222, Q_X8_⟩ hb_ hon hoff
                  refine ⟨_, rfl, fun K hK => ?_⟩
                  have e18 : a.tmps[18]? = some (.int .i64 a0) := by rw [ha]; exact (putSel_off rfl).trans rfl
                  replace ha := Aside0.mk ha
                  have HB := Aside0.mk Q_HB
                  refine value_ (w1 := w') (v := .int .i64 ji20) (by rfl) rfl ?_ ?_
                  · go_simp
                    (try simp only [i64_w])
                    try rfl
                    try (first | omega | (rw [ByteArray.size_append] at c23; exact c23) | (have z_ := c23; rw [ByteArray.size_append] at z_; have z2_ : (⟨#[]⟩ : ByteArray).size = 0 := rfl; omega))
                  refine hK.out _ _ ⟨v221, adz_v221, m8_, (by rw [ha.out]; exact putSel_upk 4 hb_ rfl rfl rfl), Q_HB, Q_HO222, Q_HA_HO222, fun h0_ => absurd ((hoff 8 (by kernel_rfl)).symm.trans h0_) (by decide)⟩
                refine steps_cons ?_ ?_
                · rintro b a w' ⟨v221, adz_v221, m8_, ha, Q_HB, Q_HO222, Q_HA_HO222, Q_X8_⟩ hb_ hon hoff
                  refine ⟨_, rfl, fun K hK => ?_⟩
                  have e17 : a.tmps[17]? = some (v221) := by rw [ha]; exact putSel_on (e := (5, 17, v221)) 3 rfl rfl (hon 5 (by kernel_rfl)) rfl
                  have e19 : a.tmps[19]? = some (.int .i64 ji20) := by rw [ha]; exact putSel_on (e := (7, 19, .int .i64 ji20)) 4 rfl rfl (hon 7 (by kernel_rfl)) rfl
                  replace ha := Aside0.mk ha
                  have HB := Aside0.mk Q_HB
                  have HO222 := Aside0.mk (Q_HO222 (hon 5 (by kernel_rfl)))
                  have HA_HO222 := Aside0.mk (Q_HA_HO222 (hon 5 (by kernel_rfl)))
                  obtain ⟨c_, hv_⟩ := HA_HO222.out
                  rw [hv_] at e17
                  refine value_ (w1 := w') (v := .pointer (some (adz_v221.add ((ji20)).toNat))) (by rfl) rfl ?_ ?_
                  · go_simp
                    (try simp only [i64_w])
                    try rfl
                    try (first | omega | (rw [ByteArray.size_append] at c23; exact c23) | (have z_ := c23; rw [ByteArray.size_append] at z_; have z2_ : (⟨#[]⟩ : ByteArray).size = 0 := rfl; omega))
                  refine hK.out _ _ ⟨v221, adz_v221, (.pointer (some (adz_v221.add ((ji20)).toNat))), (by rw [ha.out]; exact putSel_upk 5 hb_ rfl rfl rfl), Q_HB, Q_HO222, Q_HA_HO222, fun _ => rfl⟩
                refine steps_cons ?_ ?_
                · rintro b a w' ⟨v221, adz_v221, m8_, ha, Q_HB, Q_HO222, Q_HA_HO222, Q_X8_⟩ hb_ hon hoff
                  refine ⟨_, rfl, fun K hK => ?_⟩
                  have e20 : a.tmps[20]? = some (m8_) := by rw [ha]; exact putSel_on (e := (8, 20, m8_)) 5 rfl rfl (hon 8 (by kernel_rfl)) rfl
                  rw [Q_X8_ (hon 8 (by kernel_rfl))] at e20
                  replace ha := Aside0.mk ha
                  have HB := Aside0.mk Q_HB
                  have HO222 := Aside0.mk (Q_HO222 (hon 5 (by kernel_rfl)))
                  have HA_HO222 := Aside0.mk (Q_HA_HO222 (hon 5 (by kernel_rfl)))
                  obtain ⟨c_, hv_⟩ := HA_HO222.out
                  have hF_ := HO222.out
                  rw [hv_] at hF_
                  obtain ⟨ad_, ea_, hx_⟩ := Kd.at_string (Kd.R_reads' hF_).2.2 (ji20) (of_eq_true pi223) (of_eq_true qi223)
                  cases ea_
                  refine value_ (w1 := w') (v := .string (rdOf ByteArray.empty y220 (ji20))) (by rfl) rfl ?_ ?_
                  · go_simp
                    (try simp only [i64_w])
                    try rfl
                    try (first | omega | (rw [ByteArray.size_append] at c23; exact c23) | (have z_ := c23; rw [ByteArray.size_append] at z_; have z2_ : (⟨#[]⟩ : ByteArray).size = 0 := rfl; omega))
                  refine hK.out _ _ ⟨v221, adz_v221, m8_, (by rw [ha.out]; exact putSel_upk 6 hb_ rfl rfl rfl), Q_HB, Q_HO222, Q_HA_HO222, Q_X8_⟩
                refine steps_cons ?_ ?_
                · rintro b a w' ⟨v221, adz_v221, m8_, ha, Q_HB, Q_HO222, Q_HA_HO222, Q_X8_⟩ hb_ hon hoff
                  refine ⟨_, rfl, fun K hK => ?_⟩
                  have e16 : a.tmps[16]? = some (.string ((⟨#[]⟩ : ByteArray) ++ t219)) := by rw [ha]; exact putSel_on (e := (4, 16, .string ((⟨#[]⟩ : ByteArray) ++ t219))) 2 rfl rfl (hon 4 (by kernel_rfl)) rfl
                  have e21 : a.tmps[21]? = some (.string (rdOf ByteArray.empty y220 (ji20))) := by rw [ha]; exact putSel_on (e := (9, 21, .string (rdOf ByteArray.empty y220 (ji20)))) 6 rfl rfl (hon 9 (by kernel_rfl)) rfl
                  replace ha := Aside0.mk ha
                  have HB := Aside0.mk Q_HB
                  have HO222 := Aside0.mk (Q_HO222 (hon 5 (by kernel_rfl)))
                  have HA_HO222 := Aside0.mk (Q_HA_HO222 (hon 5 (by kernel_rfl)))
                  refine value_ (w1 := w') (v := .string (((⟨#[]⟩ : ByteArray) ++ t219) ++ (rdOf ByteArray.empty y220 (ji20)))) (by rfl) rfl ?_ ?_
                  · go_simp
                    (try simp only [i64_w])
                    try rfl
                    try (first | omega | (rw [ByteArray.size_append] at c23; exact c23) | (have z_ := c23; rw [ByteArray.size_append] at z_; have z2_ : (⟨#[]⟩ : ByteArray).size = 0 := rfl; omega))
                  refine hK.out _ _ ⟨v221, adz_v221, m8_, (by rw [ha.out]; exact putSel_upk 7 hb_ rfl rfl rfl), Q_HB, Q_HO222, Q_HA_HO222, Q_X8_⟩
                refine steps_cons ?_ ?_
                · rintro b a w' ⟨v221, adz_v221, m8_, ha, Q_HB, Q_HO222, Q_HA_HO222, Q_X8_⟩ hb_ hon hoff
                  refine ⟨_, rfl, fun K hK => ?_⟩
                  have e22 : a.tmps[22]? = some (.string (((⟨#[]⟩ : ByteArray) ++ t219) ++ (rdOf ByteArray.empty y220 (ji20)))) := by rw [ha]; exact putSel_on (e := (10, 22, .string (((⟨#[]⟩ : ByteArray) ++ t219) ++ (rdOf ByteArray.empty y220 (ji20))))) 7 rfl rfl (hon 10 (by kernel_rfl)) rfl
                  replace ha := Aside0.mk ha
                  have HB := Aside0.mk Q_HB
                  have HO222 := Aside0.mk (Q_HO222 (hon 5 (by kernel_rfl)))
                  have HA_HO222 := Aside0.mk (Q_HA_HO222 (hon 5 (by kernel_rfl)))
                  refine value_ (w1 := w') (v := .string (((⟨#[]⟩ : ByteArray) ++ t219) ++ (rdOf ByteArray.empty y220 (ji20)))) (by rfl) rfl ?_ ?_
                  · go_simp
                    (try simp only [i64_w])
                    try rfl
                    try (first | omega | (rw [ByteArray.size_append] at c23; exact c23) | (have z_ := c23; rw [ByteArray.size_append] at z_; have z2_ : (⟨#[]⟩ : ByteArray).size = 0 := rfl; omega))
                  refine hK.out _ _ ⟨v221, adz_v221, m8_, (by rw [ha.out]; exact putSel_upk 8 hb_ rfl rfl rfl), Q_HB, Q_HO222, Q_HA_HO222, Q_X8_⟩
                exact steps_nil
              rintro b a w29 hall ⟨v221, adz_v221, m8_, ha, Q_HB, Q_HO222, Q_HA_HO222, Q_X8_⟩
              clear HB
              have hb2_ := hall 2 (by kernel_rfl)
              have hb3_ := hall 3 (by kernel_rfl)
              have hb4_ := hall 4 (by kernel_rfl)
              have hb5_ := hall 5 (by kernel_rfl)
              have hb7_ := hall 7 (by kernel_rfl)
              have hb8_ := hall 8 (by kernel_rfl)
              have hb9_ := hall 9 (by kernel_rfl)
              have hb10_ := hall 10 (by kernel_rfl)
              have hb11_ := hall 11 (by kernel_rfl)
              subst ha
              obtain rfl := Q_X8_ hb8_
              simp only [putSel, hb2_, hb3_, hb4_, hb5_, hb7_, hb8_, hb9_, hb10_, hb11_, if_true, Act.put, List.setIfInBounds_toArray, List.set_cons_zero, List.set_cons_succ]
              have HB := Aside0.mk Q_HB
              clear Q_HB
              have HO222 := Aside0.mk (Q_HO222 hb5_)
              clear Q_HO222
              have HA_HO222 := Aside0.mk (Q_HA_HO222 hb5_)
              clear Q_HA_HO222
              clear hall hb2_ hb3_ hb4_ hb5_ hb7_ hb8_ hb9_ hb10_ hb11_
              obtain ⟨co30, eo30⟩ := HA_HO222.out
              clear HA_HO222
              subst eo30
              try go_wp2
              go_ret
              exact ⟨by first | rfl | (simp [errW_none, errW_some] <;> rfl) | (simp only [← hji20]; first | rfl | (simp [errW_none, errW_some] <;> rfl)) | (simp [*, errW_none, errW_some] <;> rfl), by repeat (first | (with_reducible first | exact HB.out | apply below_alloc | apply pw_below_drewN | apply below_drew1) | exact HB.out)⟩
            · rw [if_neg c23] at H
              exact absurd H (by simp)
          · rw [if_neg c22] at H
            exact absurd H (by simp)
        · rw [if_neg c21] at H
          exact absurd H (by simp)
      · rw [if_neg c19] at H
        exact absurd H (by simp)
  · replace c3 := Bool.eq_false_iff.mpr c3
    subst c3
    have H1 : (some (⟨#[]⟩ : ByteArray)) = some r := by rw [if_neg (show ¬ (false = true) by decide)] at H; exact H
    clear H
    have H := H1
    clear H1
    obtain rfl := Option.some.inj H
    go_enter Tryd.func22, Tryd.ntmps22
    go_wp2_with (first | ((with_reducible refine gate_callee (f := 46) rfl ?_); refine goesL_ (some 5) rfl rfl Tryd.func46 (by kernel_rfl) rfl #[.int .i64 a0] rfl (by (try simp only [List.map_toArray, List.map_cons, List.map_nil]); first | done | rfl | (simp only [List.length_drop, List.length_take]; rfl)) ?_; (with_reducible refine (spec_IsMeasure.calls a0 false _ A2.out).mono ?_); rintro e w' ⟨rfl, ⟨nd, rfl⟩⟩; refine ⟨_, rfl, ?_⟩))
    go_ret
    exact ⟨by first | rfl | (simp [errW_none, errW_some] <;> rfl) | (simp [*, errW_none, errW_some] <;> rfl), by repeat (first | (with_reducible first | exact HB.out | apply below_alloc | apply pw_below_drewN | apply below_drew1) | exact HB.out)⟩

/-! ### spec_FormatPlace: function 26 -/
def spec_FormatPlace.f (k : Nat) (a0_0 : Int) (a0_1 : Int) : Option (ByteArray) := (spec_IsPlace.f a0_0 a0_1).bind fun t225 => (if t225 = true then ((spec_FormatMeasure.f k a0_0).bind fun t226 => (if a0_1 ≥ 0 then (if t226.size + 1 ≤ 9223372036854775807 then ((spec_FormatMeasure.f k a0_1).bind fun t227 => (if (t226 ++ (⟨#[43]⟩ : ByteArray)).size + t227.size ≤ 9223372036854775807 then (if ((t226 ++ (⟨#[43]⟩ : ByteArray)) ++ t227).size + 1 ≤ 9223372036854775807 then (some (((t226 ++ (⟨#[43]⟩ : ByteArray)) ++ t227) ++ (⟨#[105]⟩ : ByteArray))) else (none)) else (none))) else (none)) else ((spec_FormatMeasure.f k a0_1).bind fun t228 => (if t226.size + t228.size ≤ 9223372036854775807 then (if (t226 ++ t228).size + 1 ≤ 9223372036854775807 then (some ((t226 ++ t228) ++ (⟨#[105]⟩ : ByteArray))) else (none)) else (none))))) else (some (⟨#[]⟩ : ByteArray)))
theorem spec_FormatPlace.mono : ∀ a0 a1 k, LeO (spec_FormatPlace.f k a0 a1) (spec_FormatPlace.f (k + 1) a0 a1) := by
  intro a0 a1 k
  unfold spec_FormatPlace.f
  repeat' first
      | (with_reducible exact spec_FormatMeasure.mono _ _)
      | (with_reducible exact LeO.refl _)
      | (with_reducible exact LeO.none _)
      | (with_reducible refine LeO.ite ?_ ?_)
      | (with_reducible refine LeO.bind ?_ (fun _ => ?_))
      | exact spec_FormatMeasure.mono _ _
      | exact LeO.none _
      | refine LeO.ite ?_ ?_
      | refine LeO.bind ?_ (fun _ => ?_)
set_option maxHeartbeats 8000000 in
set_option maxRecDepth 100000 in
theorem spec_FormatPlace.calls (k : Nat) (a0_0 : Int) (a0_1 : Int) (r : ByteArray) (w : World) (h : spec_FormatPlace.f k a0_0 a0_1 = some r) :
    Calls Tryd.prog 26 #[.agg #[.int .i64 a0_0, .int .i64 a0_1]] w fun e w' => e = .returned (.string r) ∧ Below w.heap.size w w' := by
  have hu35 := Tryd.underlying35
  have HB := Aside0.mk (Below.refl w.heap.size w)
  have H : ((spec_IsPlace.f a0_0 a0_1).bind fun t225 => (if t225 = true then ((spec_FormatMeasure.f k a0_0).bind fun t226 => (if a0_1 ≥ 0 then (if t226.size + 1 ≤ 9223372036854775807 then ((spec_FormatMeasure.f k a0_1).bind fun t227 => (if (t226 ++ (⟨#[43]⟩ : ByteArray)).size + t227.size ≤ 9223372036854775807 then (if ((t226 ++ (⟨#[43]⟩ : ByteArray)) ++ t227).size + 1 ≤ 9223372036854775807 then (some (((t226 ++ (⟨#[43]⟩ : ByteArray)) ++ t227) ++ (⟨#[105]⟩ : ByteArray))) else (none)) else (none))) else (none)) else ((spec_FormatMeasure.f k a0_1).bind fun t228 => (if t226.size + t228.size ≤ 9223372036854775807 then (if (t226 ++ t228).size + 1 ≤ 9223372036854775807 then (some ((t226 ++ t228) ++ (⟨#[105]⟩ : ByteArray))) else (none)) else (none))))) else (some (⟨#[]⟩ : ByteArray)))) = some r := h
  clear h
  replace H := Option.bind_eq_some_iff.mp H
  obtain ⟨t225, A20, H⟩ := H
  replace H : (if t225 = true then ((spec_FormatMeasure.f k a0_0).bind fun t226 => (if a0_1 ≥ 0 then (if t226.size + 1 ≤ 9223372036854775807 then ((spec_FormatMeasure.f k a0_1).bind fun t227 => (if (t226 ++ (⟨#[43]⟩ : ByteArray)).size + t227.size ≤ 9223372036854775807 then (if ((t226 ++ (⟨#[43]⟩ : ByteArray)) ++ t227).size + 1 ≤ 9223372036854775807 then (some (((t226 ++ (⟨#[43]⟩ : ByteArray)) ++ t227) ++ (⟨#[105]⟩ : ByteArray))) else (none)) else (none))) else (none)) else ((spec_FormatMeasure.f k a0_1).bind fun t228 => (if t226.size + t228.size ≤ 9223372036854775807 then (if (t226 ++ t228).size + 1 ≤ 9223372036854775807 then (some ((t226 ++ t228) ++ (⟨#[105]⟩ : ByteArray))) else (none)) else (none))))) else (some (⟨#[]⟩ : ByteArray))) = some r := H
  have A2 := Aside0.mk A20
  clear A20
  by_cases c3 : t225 = true
  · subst c3
    have H1 : ((spec_FormatMeasure.f k a0_0).bind fun t226 => (if a0_1 ≥ 0 then (if t226.size + 1 ≤ 9223372036854775807 then ((spec_FormatMeasure.f k a0_1).bind fun t227 => (if (t226 ++ (⟨#[43]⟩ : ByteArray)).size + t227.size ≤ 9223372036854775807 then (if ((t226 ++ (⟨#[43]⟩ : ByteArray)) ++ t227).size + 1 ≤ 9223372036854775807 then (some (((t226 ++ (⟨#[43]⟩ : ByteArray)) ++ t227) ++ (⟨#[105]⟩ : ByteArray))) else (none)) else (none))) else (none)) else ((spec_FormatMeasure.f k a0_1).bind fun t228 => (if t226.size + t228.size ≤ 9223372036854775807 then (if (t226 ++ t228).size + 1 ≤ 9223372036854775807 then (some ((t226 ++ t228) ++ (⟨#[105]⟩ : ByteArray))) else (none)) else (none))))) = some r := by rw [if_pos rfl] at H; exact H
    clear H
    have H := H1
    clear H1
    replace H := Option.bind_eq_some_iff.mp H
    obtain ⟨t226, A40, H⟩ := H
    replace H : (if a0_1 ≥ 0 then (if t226.size + 1 ≤ 9223372036854775807 then ((spec_FormatMeasure.f k a0_1).bind fun t227 => (if (t226 ++ (⟨#[43]⟩ : ByteArray)).size + t227.size ≤ 9223372036854775807 then (if ((t226 ++ (⟨#[43]⟩ : ByteArray)) ++ t227).size + 1 ≤ 9223372036854775807 then (some (((t226 ++ (⟨#[43]⟩ : ByteArray)) ++ t227) ++ (⟨#[105]⟩ : ByteArray))) else (none)) else (none))) else (none)) else ((spec_FormatMeasure.f k a0_1).bind fun t228 => (if t226.size + t228.size ≤ 9223372036854775807 then (if (t226 ++ t228).size + 1 ≤ 9223372036854775807 then (some ((t226 ++ t228) ++ (⟨#[105]⟩ : ByteArray))) else (none)) else (none)))) = some r := H
    have A4 := Aside0.mk A40
    clear A40
    by_cases c5 : a0_1 ≥ 0
    · rw [if_pos c5] at H
      have c5b0 : decide (0 ≤ a0_1) = true := decide_eq_true c5
      clear c5
      by_cases c6 : t226.size + 1 ≤ 9223372036854775807
      · rw [if_pos c6] at H
        have c6b0 := eq_true c6
        have c6b1 : decide (t226.size + 1 ≤ 9223372036854775807) = true := decide_eq_true c6
        try have c6b2 : (9223372036854775807 < t226.size + 1) = False := eq_false (Nat.not_lt.2 c6)
        replace H := Option.bind_eq_some_iff.mp H
        obtain ⟨t227, A70, H⟩ := H
        replace H : (if (t226 ++ (⟨#[43]⟩ : ByteArray)).size + t227.size ≤ 9223372036854775807 then (if ((t226 ++ (⟨#[43]⟩ : ByteArray)) ++ t227).size + 1 ≤ 9223372036854775807 then (some (((t226 ++ (⟨#[43]⟩ : ByteArray)) ++ t227) ++ (⟨#[105]⟩ : ByteArray))) else (none)) else (none)) = some r := H
        have A7 := Aside0.mk A70
        clear A70
        by_cases c8 : (t226 ++ (⟨#[43]⟩ : ByteArray)).size + t227.size ≤ 9223372036854775807
        · rw [if_pos c8] at H
          have c8b0 := eq_true c8
          have c8b1 : decide ((t226 ++ (⟨#[43]⟩ : ByteArray)).size + t227.size ≤ 9223372036854775807) = true := decide_eq_true c8
          try have c8b2 : (9223372036854775807 < (t226 ++ (⟨#[43]⟩ : ByteArray)).size + t227.size) = False := eq_false (Nat.not_lt.2 c8)
          have zz_c8 : t226.size + 1 + t227.size ≤ 9223372036854775807 := by have h_ := c8; (try simp only [ByteArray.size_append] at h_); first | exact h_ | (have e0_ : (⟨#[]⟩ : ByteArray).size = 0 := rfl; omega)
          have zt_c8 := eq_true zz_c8
          have zf_c8 : (9223372036854775807 < t226.size + 1 + t227.size) = False := eq_false (Nat.not_lt.2 zz_c8)
          by_cases c9 : ((t226 ++ (⟨#[43]⟩ : ByteArray)) ++ t227).size + 1 ≤ 9223372036854775807
          · rw [if_pos c9] at H
            have c9b0 := eq_true c9
            have c9b1 : decide (((t226 ++ (⟨#[43]⟩ : ByteArray)) ++ t227).size + 1 ≤ 9223372036854775807) = true := decide_eq_true c9
            try have c9b2 : (9223372036854775807 < ((t226 ++ (⟨#[43]⟩ : ByteArray)) ++ t227).size + 1) = False := eq_false (Nat.not_lt.2 c9)
            have zz_c9 : t226.size + 1 + t227.size + 1 ≤ 9223372036854775807 := by have h_ := c9; (try simp only [ByteArray.size_append] at h_); first | exact h_ | (have e0_ : (⟨#[]⟩ : ByteArray).size = 0 := rfl; omega)
            have zt_c9 := eq_true zz_c9
            have zf_c9 : (9223372036854775807 < t226.size + 1 + t227.size + 1) = False := eq_false (Nat.not_lt.2 zz_c9)
            obtain rfl := Option.some.inj H
            go_enter Tryd.func26, Tryd.ntmps26
            go_wp2_with (first | ((with_reducible refine gate_dst (N := 1) rfl ?_); refine box_event ?hg (N := 1) ?hd (cs := #[.int .i64 a0_0, .int .i64 a0_1]) (t := 35) ?hr ?_; (case hd => rfl); (case hg => rfl); (case hr => first | (go_simp; done) | (go_simp; rfl)); intro gb224 hg w10 hbox hb; have n0_ := Aside0.mk (below_step (by repeat (first | (with_reducible first | exact HB.out | apply below_alloc | apply pw_below_drewN | apply below_drew1) | exact HB.out)) hb); have n1_ := Aside0.mk (hbox); have n2_ := Aside0.mk ((by rw [hg]; exact (below_size (by repeat (first | (with_reducible first | exact HB.out | apply below_alloc | apply pw_below_drewN | apply below_drew1) | exact HB.out))) : w.heap.size ≤ gb224)); have n3_ := Aside0.mk ((by rw [hg]; exact (below_size (by repeat (first | (with_reducible first | exact HB.out | apply below_alloc | apply pw_below_drewN | apply below_drew1) | exact HB.out))) : w.heap.size ≤ gb224)); clear HB; have HB := n0_; have BK224 := n1_; have GW224 := n2_; have GE224 := n3_; clear n0_ n1_ n2_ n3_; clear hb hbox hg; have hcz11_0 : w10.cell? ⟨gb224, 0, none⟩ = some (.int .i64 a0_0) := (blk_cell BK224.out 0).trans rfl; have hcz11_1 : w10.cell? ⟨gb224, 1, none⟩ = some (.int .i64 a0_1) := (blk_cell BK224.out 1).trans rfl; have hfz11_0 := blk_frozen BK224.out 0; have hfz11_1 := blk_frozen BK224.out 1) | ((with_reducible refine gate_callee (f := 50) rfl ?_); refine goesL_ (some 5) rfl rfl Tryd.func50 (by kernel_rfl) rfl #[.agg #[.int .i64 a0_0, .int .i64 a0_1]] rfl (by (try simp only [List.map_toArray, List.map_cons, List.map_nil]); first | done | rfl | (simp only [List.length_drop, List.length_take]; rfl)) ?_; (with_reducible refine (spec_IsPlace.calls a0_0 a0_1 true _ A2.out).mono ?_); rintro e w12 ⟨rfl, hb⟩; refine ⟨_, rfl, ?_⟩; have n0_ := Aside0.mk (blk_below (g := gb224) (o := .cells #[.int .i64 a0_0, .int .i64 a0_1] 35 (0, 0)) (by (with_reducible repeat (first | refine blk_drewN ?_ _ | refine blk_drew ?_ | refine blk_alloc ?_ _)); exact BK224.out) hb); have n1_ := Aside0.mk (below_step (by repeat (first | (with_reducible first | exact HB.out | apply below_alloc | apply pw_below_drewN | apply below_drew1 | refine below_set ?_ GE224.out) | exact HB.out)) hb); clear BK224; clear HB; have BK224 := n0_; have HB := n1_; clear n0_ n1_; (try clear hb); (try clear hb2); (try clear hk); (try clear hi); have hcz13_0 : w12.cell? ⟨gb224, 0, none⟩ = some (.int .i64 a0_0) := (blk_cell BK224.out 0).trans rfl; have hcz13_1 : w12.cell? ⟨gb224, 1, none⟩ = some (.int .i64 a0_1) := (blk_cell BK224.out 1).trans rfl; have hfz13_0 := blk_frozen BK224.out 0; have hfz13_1 := blk_frozen BK224.out 1) | ((with_reducible refine gate_callee (f := 22) rfl ?_); refine goesL_ (some 9) rfl rfl Tryd.func22 (by kernel_rfl) rfl #[.int .i64 a0_0] rfl (by (try simp only [List.map_toArray, List.map_cons, List.map_nil]); first | done | rfl | (simp only [List.length_drop, List.length_take]; rfl)) ?_; (with_reducible refine (spec_FormatMeasure.calls k a0_0 t226 _ A4.out).mono ?_); rintro e w14 ⟨rfl, hb⟩; refine ⟨_, rfl, ?_⟩; have n0_ := Aside0.mk (blk_below (g := gb224) (o := .cells #[.int .i64 a0_0, .int .i64 a0_1] 35 (0, 0)) (by (with_reducible repeat (first | refine blk_drewN ?_ _ | refine blk_drew ?_ | refine blk_alloc ?_ _)); exact BK224.out) hb); have n1_ := Aside0.mk (below_step (by repeat (first | (with_reducible first | exact HB.out | apply below_alloc | apply pw_below_drewN | apply below_drew1 | refine below_set ?_ GE224.out) | exact HB.out)) hb); clear BK224; clear HB; have BK224 := n0_; have HB := n1_; clear n0_ n1_; (try clear hb); (try clear hb2); (try clear hk); (try clear hi); have hcz15_0 : w14.cell? ⟨gb224, 0, none⟩ = some (.int .i64 a0_0) := (blk_cell BK224.out 0).trans rfl; have hcz15_1 : w14.cell? ⟨gb224, 1, none⟩ = some (.int .i64 a0_1) := (blk_cell BK224.out 1).trans rfl; have hfz15_0 := blk_frozen BK224.out 0; have hfz15_1 := blk_frozen BK224.out 1) | ((with_reducible refine gate_callee (f := 22) rfl ?_); refine goesL_ (some 18) rfl rfl Tryd.func22 (by kernel_rfl) rfl #[.int .i64 a0_1] rfl (by (try simp only [List.map_toArray, List.map_cons, List.map_nil]); first | done | rfl | (simp only [List.length_drop, List.length_take]; rfl)) ?_; (with_reducible refine (spec_FormatMeasure.calls k a0_1 t227 _ A7.out).mono ?_); rintro e w16 ⟨rfl, hb⟩; refine ⟨_, rfl, ?_⟩; have n0_ := Aside0.mk (blk_below (g := gb224) (o := .cells #[.int .i64 a0_0, .int .i64 a0_1] 35 (0, 0)) (by (with_reducible repeat (first | refine blk_drewN ?_ _ | refine blk_drew ?_ | refine blk_alloc ?_ _)); exact BK224.out) hb); have n1_ := Aside0.mk (below_step (by repeat (first | (with_reducible first | exact HB.out | apply below_alloc | apply pw_below_drewN | apply below_drew1 | refine below_set ?_ GE224.out) | exact HB.out)) hb); clear BK224; clear HB; have BK224 := n0_; have HB := n1_; clear n0_ n1_; (try clear hb); (try clear hb2); (try clear hk); (try clear hi)))
            go_ret
            exact ⟨by first | rfl | (simp [errW_none, errW_some] <;> rfl) | (simp [*, errW_none, errW_some] <;> rfl), by repeat (first | (with_reducible first | exact HB.out | apply below_alloc | apply pw_below_drewN | apply below_drew1 | refine below_set ?_ GE224.out) | exact HB.out)⟩
          · rw [if_neg c9] at H
            exact absurd H (by simp)
        · rw [if_neg c8] at H
          exact absurd H (by simp)
      · rw [if_neg c6] at H
        exact absurd H (by simp)
    · rw [if_neg c5] at H
      have c5b0 : decide (0 ≤ a0_1) = false := decide_eq_false c5
      clear c5
      replace H := Option.bind_eq_some_iff.mp H
      obtain ⟨t228, A170, H⟩ := H
      replace H : (if t226.size + t228.size ≤ 9223372036854775807 then (if (t226 ++ t228).size + 1 ≤ 9223372036854775807 then (some ((t226 ++ t228) ++ (⟨#[105]⟩ : ByteArray))) else (none)) else (none)) = some r := H
      have A17 := Aside0.mk A170
      clear A170
      by_cases c18 : t226.size + t228.size ≤ 9223372036854775807
      · rw [if_pos c18] at H
        have c18b0 := eq_true c18
        have c18b1 : decide (t226.size + t228.size ≤ 9223372036854775807) = true := decide_eq_true c18
        try have c18b2 : (9223372036854775807 < t226.size + t228.size) = False := eq_false (Nat.not_lt.2 c18)
        by_cases c19 : (t226 ++ t228).size + 1 ≤ 9223372036854775807
        · rw [if_pos c19] at H
          have c19b0 := eq_true c19
          have c19b1 : decide ((t226 ++ t228).size + 1 ≤ 9223372036854775807) = true := decide_eq_true c19
          try have c19b2 : (9223372036854775807 < (t226 ++ t228).size + 1) = False := eq_false (Nat.not_lt.2 c19)
          have zz_c19 : t226.size + t228.size + 1 ≤ 9223372036854775807 := by have h_ := c19; (try simp only [ByteArray.size_append] at h_); first | exact h_ | (have e0_ : (⟨#[]⟩ : ByteArray).size = 0 := rfl; omega)
          have zt_c19 := eq_true zz_c19
          have zf_c19 : (9223372036854775807 < t226.size + t228.size + 1) = False := eq_false (Nat.not_lt.2 zz_c19)
          obtain rfl := Option.some.inj H
          go_enter Tryd.func26, Tryd.ntmps26
          go_wp2_with (first | ((with_reducible refine gate_dst (N := 1) rfl ?_); refine box_event ?hg (N := 1) ?hd (cs := #[.int .i64 a0_0, .int .i64 a0_1]) (t := 35) ?hr ?_; (case hd => rfl); (case hg => rfl); (case hr => first | (go_simp; done) | (go_simp; rfl)); intro gb224 hg w20 hbox hb; have n0_ := Aside0.mk (below_step (by repeat (first | (with_reducible first | exact HB.out | apply below_alloc | apply pw_below_drewN | apply below_drew1) | exact HB.out)) hb); have n1_ := Aside0.mk (hbox); have n2_ := Aside0.mk ((by rw [hg]; exact (below_size (by repeat (first | (with_reducible first | exact HB.out | apply below_alloc | apply pw_below_drewN | apply below_drew1) | exact HB.out))) : w.heap.size ≤ gb224)); have n3_ := Aside0.mk ((by rw [hg]; exact (below_size (by repeat (first | (with_reducible first | exact HB.out | apply below_alloc | apply pw_below_drewN | apply below_drew1) | exact HB.out))) : w.heap.size ≤ gb224)); clear HB; have HB := n0_; have BK224 := n1_; have GW224 := n2_; have GE224 := n3_; clear n0_ n1_ n2_ n3_; clear hb hbox hg; have hcz21_0 : w20.cell? ⟨gb224, 0, none⟩ = some (.int .i64 a0_0) := (blk_cell BK224.out 0).trans rfl; have hcz21_1 : w20.cell? ⟨gb224, 1, none⟩ = some (.int .i64 a0_1) := (blk_cell BK224.out 1).trans rfl; have hfz21_0 := blk_frozen BK224.out 0; have hfz21_1 := blk_frozen BK224.out 1) | ((with_reducible refine gate_callee (f := 50) rfl ?_); refine goesL_ (some 5) rfl rfl Tryd.func50 (by kernel_rfl) rfl #[.agg #[.int .i64 a0_0, .int .i64 a0_1]] rfl (by (try simp only [List.map_toArray, List.map_cons, List.map_nil]); first | done | rfl | (simp only [List.length_drop, List.length_take]; rfl)) ?_; (with_reducible refine (spec_IsPlace.calls a0_0 a0_1 true _ A2.out).mono ?_); rintro e w22 ⟨rfl, hb⟩; refine ⟨_, rfl, ?_⟩; have n0_ := Aside0.mk (blk_below (g := gb224) (o := .cells #[.int .i64 a0_0, .int .i64 a0_1] 35 (0, 0)) (by (with_reducible repeat (first | refine blk_drewN ?_ _ | refine blk_drew ?_ | refine blk_alloc ?_ _)); exact BK224.out) hb); have n1_ := Aside0.mk (below_step (by repeat (first | (with_reducible first | exact HB.out | apply below_alloc | apply pw_below_drewN | apply below_drew1 | refine below_set ?_ GE224.out) | exact HB.out)) hb); clear BK224; clear HB; have BK224 := n0_; have HB := n1_; clear n0_ n1_; (try clear hb); (try clear hb2); (try clear hk); (try clear hi); have hcz23_0 : w22.cell? ⟨gb224, 0, none⟩ = some (.int .i64 a0_0) := (blk_cell BK224.out 0).trans rfl; have hcz23_1 : w22.cell? ⟨gb224, 1, none⟩ = some (.int .i64 a0_1) := (blk_cell BK224.out 1).trans rfl; have hfz23_0 := blk_frozen BK224.out 0; have hfz23_1 := blk_frozen BK224.out 1) | ((with_reducible refine gate_callee (f := 22) rfl ?_); refine goesL_ (some 9) rfl rfl Tryd.func22 (by kernel_rfl) rfl #[.int .i64 a0_0] rfl (by (try simp only [List.map_toArray, List.map_cons, List.map_nil]); first | done | rfl | (simp only [List.length_drop, List.length_take]; rfl)) ?_; (with_reducible refine (spec_FormatMeasure.calls k a0_0 t226 _ A4.out).mono ?_); rintro e w24 ⟨rfl, hb⟩; refine ⟨_, rfl, ?_⟩; have n0_ := Aside0.mk (blk_below (g := gb224) (o := .cells #[.int .i64 a0_0, .int .i64 a0_1] 35 (0, 0)) (by (with_reducible repeat (first | refine blk_drewN ?_ _ | refine blk_drew ?_ | refine blk_alloc ?_ _)); exact BK224.out) hb); have n1_ := Aside0.mk (below_step (by repeat (first | (with_reducible first | exact HB.out | apply below_alloc | apply pw_below_drewN | apply below_drew1 | refine below_set ?_ GE224.out) | exact HB.out)) hb); clear BK224; clear HB; have BK224 := n0_; have HB := n1_; clear n0_ n1_; (try clear hb); (try clear hb2); (try clear hk); (try clear hi); have hcz25_0 : w24.cell? ⟨gb224, 0, none⟩ = some (.int .i64 a0_0) := (blk_cell BK224.out 0).trans rfl; have hcz25_1 : w24.cell? ⟨gb224, 1, none⟩ = some (.int .i64 a0_1) := (blk_cell BK224.out 1).trans rfl; have hfz25_0 := blk_frozen BK224.out 0; have hfz25_1 := blk_frozen BK224.out 1) | ((with_reducible refine gate_callee (f := 22) rfl ?_); refine goesL_ (some 18) rfl rfl Tryd.func22 (by kernel_rfl) rfl #[.int .i64 a0_1] rfl (by (try simp only [List.map_toArray, List.map_cons, List.map_nil]); first | done | rfl | (simp only [List.length_drop, List.length_take]; rfl)) ?_; (with_reducible refine (spec_FormatMeasure.calls k a0_1 t228 _ A17.out).mono ?_); rintro e w26 ⟨rfl, hb⟩; refine ⟨_, rfl, ?_⟩; have n0_ := Aside0.mk (blk_below (g := gb224) (o := .cells #[.int .i64 a0_0, .int .i64 a0_1] 35 (0, 0)) (by (with_reducible repeat (first | refine blk_drewN ?_ _ | refine blk_drew ?_ | refine blk_alloc ?_ _)); exact BK224.out) hb); have n1_ := Aside0.mk (below_step (by repeat (first | (with_reducible first | exact HB.out | apply below_alloc | apply pw_below_drewN | apply below_drew1 | refine below_set ?_ GE224.out) | exact HB.out)) hb); clear BK224; clear HB; have BK224 := n0_; have HB := n1_; clear n0_ n1_; (try clear hb); (try clear hb2); (try clear hk); (try clear hi)))
          go_ret
          exact ⟨by first | rfl | (simp [errW_none, errW_some] <;> rfl) | (simp [*, errW_none, errW_some] <;> rfl), by repeat (first | (with_reducible first | exact HB.out | apply below_alloc | apply pw_below_drewN | apply below_drew1 | refine below_set ?_ GE224.out) | exact HB.out)⟩
        · rw [if_neg c19] at H
          exact absurd H (by simp)
      · rw [if_neg c18] at H
        exact absurd H (by simp)
  · replace c3 := Bool.eq_false_iff.mpr c3
    subst c3
    have H1 : (some (⟨#[]⟩ : ByteArray)) = some r := by rw [if_neg (show ¬ (false = true) by decide)] at H; exact H
    clear H
    have H := H1
    clear H1
    obtain rfl := Option.some.inj H
    go_enter Tryd.func26, Tryd.ntmps26
    go_wp2_with (first | ((with_reducible refine gate_dst (N := 1) rfl ?_); refine box_event ?hg (N := 1) ?hd (cs := #[.int .i64 a0_0, .int .i64 a0_1]) (t := 35) ?hr ?_; (case hd => rfl); (case hg => rfl); (case hr => first | (go_simp; done) | (go_simp; rfl)); intro gb224 hg w27 hbox hb; have n0_ := Aside0.mk (below_step (by repeat (first | (with_reducible first | exact HB.out | apply below_alloc | apply pw_below_drewN | apply below_drew1) | exact HB.out)) hb); have n1_ := Aside0.mk (hbox); have n2_ := Aside0.mk ((by rw [hg]; exact (below_size (by repeat (first | (with_reducible first | exact HB.out | apply below_alloc | apply pw_below_drewN | apply below_drew1) | exact HB.out))) : w.heap.size ≤ gb224)); have n3_ := Aside0.mk ((by rw [hg]; exact (below_size (by repeat (first | (with_reducible first | exact HB.out | apply below_alloc | apply pw_below_drewN | apply below_drew1) | exact HB.out))) : w.heap.size ≤ gb224)); clear HB; have HB := n0_; have BK224 := n1_; have GW224 := n2_; have GE224 := n3_; clear n0_ n1_ n2_ n3_; clear hb hbox hg; have hcz28_0 : w27.cell? ⟨gb224, 0, none⟩ = some (.int .i64 a0_0) := (blk_cell BK224.out 0).trans rfl; have hcz28_1 : w27.cell? ⟨gb224, 1, none⟩ = some (.int .i64 a0_1) := (blk_cell BK224.out 1).trans rfl; have hfz28_0 := blk_frozen BK224.out 0; have hfz28_1 := blk_frozen BK224.out 1) | ((with_reducible refine gate_callee (f := 50) rfl ?_); refine goesL_ (some 5) rfl rfl Tryd.func50 (by kernel_rfl) rfl #[.agg #[.int .i64 a0_0, .int .i64 a0_1]] rfl (by (try simp only [List.map_toArray, List.map_cons, List.map_nil]); first | done | rfl | (simp only [List.length_drop, List.length_take]; rfl)) ?_; (with_reducible refine (spec_IsPlace.calls a0_0 a0_1 false _ A2.out).mono ?_); rintro e w29 ⟨rfl, hb⟩; refine ⟨_, rfl, ?_⟩; have n0_ := Aside0.mk (blk_below (g := gb224) (o := .cells #[.int .i64 a0_0, .int .i64 a0_1] 35 (0, 0)) (by (with_reducible repeat (first | refine blk_drewN ?_ _ | refine blk_drew ?_ | refine blk_alloc ?_ _)); exact BK224.out) hb); have n1_ := Aside0.mk (below_step (by repeat (first | (with_reducible first | exact HB.out | apply below_alloc | apply pw_below_drewN | apply below_drew1 | refine below_set ?_ GE224.out) | exact HB.out)) hb); clear BK224; clear HB; have BK224 := n0_; have HB := n1_; clear n0_ n1_; (try clear hb); (try clear hb2); (try clear hk); (try clear hi)))
    go_ret
    exact ⟨by first | rfl | (simp [errW_none, errW_some] <;> rfl) | (simp [*, errW_none, errW_some] <;> rfl), by repeat (first | (with_reducible first | exact HB.out | apply below_alloc | apply pw_below_drewN | apply below_drew1 | refine below_set ?_ GE224.out) | exact HB.out)⟩

/-! ### spec_l1Str: function 68 -/
def spec_l1Str.f (s0_0 : List Int) (s0_1 : Int) (s0_2 : Int) (l1 : List ByteArray) : Option (ByteArray × Int × Int) := (spec_l1Below.f s0_0 s0_1 s0_2 (l1.length : Int)).bind fun bt229 => (if 0 ≤ bt229.1 then (if bt229.1 < (l1.length : Int) then (some (rdOf ByteArray.empty l1 bt229.1, bt229.2.1, bt229.2.2)) else (none)) else (none))
set_option maxHeartbeats 8000000 in
set_option maxRecDepth 100000 in
theorem spec_l1Str.calls (g : Nat) (s0_0 : List Int) (s0_1 : Int) (s0_2 : Int) (A1 : Option Addr) (c1 : Nat) (l1 : List ByteArray) (r1 : ByteArray) (r2 : Int) (r3 : Int) (w0 w : World) (hI : IsS90 w0 w g s0_0 s0_1 s0_2) (hB : Below w0.heap.size w0 w) (hr1 : Kd.C Kd.string w A1 l1.length l1) (hc1 : l1.length ≤ c1) (hf1 : ∀ ad, A1 = some ad → 0 < l1.length → ad.block ≠ g) (h : spec_l1Str.f s0_0 s0_1 s0_2 l1 = some (r1, r2, r3)) :
    Calls Tryd.prog 68 #[.pointer (some ⟨g, 0, none⟩), .slice A1 l1.length c1] w fun e w' => e = .returned (.string r1) ∧ IsS90 w0 w' g s0_0 r2 r3 ∧ Below w0.heap.size w0 w' ∧ KeepBut w w' g none := by
  have HR1 := Aside0.mk hr1
  have HC1 := Aside0.mk hc1
  clear hr1 hc1
  have HI0 := Aside0.mk hI
  have HK := Aside0.mk (KeepBut.refl w g none)
  have HL := Aside0.mk hB.size
  clear hI
  have HW0 := Aside0.mk hB.size
  have HB := Aside0.mk hB
  clear hB
  have H : ((spec_l1Below.f s0_0 s0_1 s0_2 (l1.length : Int)).bind fun bt229 => (if 0 ≤ bt229.1 then (if bt229.1 < (l1.length : Int) then (some (rdOf ByteArray.empty l1 bt229.1, bt229.2.1, bt229.2.2)) else (none)) else (none))) = some (r1, r2, r3) := h
  clear h
  replace H := Option.bind_eq_some_iff.mp H
  obtain ⟨⟨t229, t230, t231⟩, A30, H⟩ := H
  replace H : (if 0 ≤ t229 then (if t229 < (l1.length : Int) then (some (rdOf ByteArray.empty l1 t229, t230, t231)) else (none)) else (none)) = some (r1, r2, r3) := H
  have A3 := Aside0.mk A30
  clear A30
  by_cases c4 : 0 ≤ t229
  · rw [if_pos c4] at H
    have c4b0 : decide (0 ≤ t229) = true := decide_eq_true c4
    clear c4
    by_cases c5 : t229 < (l1.length : Int)
    · rw [if_pos c5] at H
      have c5b0 : decide (t229 < (l1.length : Int)) = true := decide_eq_true c5
      clear c5
      simp only [Option.some.injEq, Prod.mk.injEq] at H
      obtain ⟨rfl, rfl, rfl⟩ := H
      go_enter Tryd.func68, Tryd.ntmps68
      go_wp2_with (first | ((with_reducible refine gate_callee (f := 67) rfl ?_); refine goesL_ (some 9) rfl rfl Tryd.func67 (by kernel_rfl) rfl #[.pointer (some ⟨g, 0, none⟩), .int .i64 (l1.length : Int)] rfl (by (try simp only [List.map_toArray, List.map_cons, List.map_nil]); first | done | rfl | (simp only [List.length_drop, List.length_take]; rfl)) ?_; (with_reducible refine (spec_l1Below.calls g s0_0 s0_1 s0_2 (l1.length : Int) t229 t230 t231 w0 _ ?side1 ?side2 A3.out).mono ?_); (case side1 => repeat (first | (with_reducible first | exact HI0.out | apply IsS90.alloc | apply IsS90.drewN | apply IsS90.drew | apply IsS90.set_1 | apply IsS90.set_2) | exact HI0.out)); (case side2 => repeat (first | (with_reducible first | exact HB.out | apply below_alloc | apply pw_below_drewN | apply below_drew1 | refine below_set ?_ (IsS90.ge HI0.out)) | exact HB.out)); rintro e w6 ⟨rfl, hi, hb, hk⟩; refine ⟨_, rfl, ?_⟩; have n0_ := Aside0.mk (KeepBut.trans (by repeat (first | (with_reducible first | exact HK.out | apply KeepBut.set_ | apply keep_drewN | apply keep_drew | apply keep_alloc) | exact HK.out)) hk (.inl rfl)); have n1_ := Aside0.mk (hb); have n2_ := Aside0.mk (hi); clear HK; clear HB; clear HI0; have HK := n0_; have HB := n1_; have HI0 := n2_; clear n0_ n1_ n2_; (try clear hb); (try clear hb2); (try clear hk); (try clear hi); have p232 : 0 ≤ (t229 : Int) := of_decide_eq_true (by first | (with_reducible assumption) | assumption); have q232 : t229 < (l1.length : Int) := of_decide_eq_true (by first | (with_reducible assumption) | assumption); obtain ⟨ad232, e232, hx232_0⟩ := Kd.at_string HR1.out t229 p232 q232; cases e232; replace hx232_0 := keep_cell HK.out hx232_0 (by first | (rw [add_block]; exact hf1 _ rfl (by omega)) | exact hf1 _ rfl (by omega) | exact hf1 ad232 rfl (by omega)); replace p232 := eq_true p232; replace q232 := eq_true q232))
      go_ret
      exact ⟨by first | rfl | (simp [errW_none, errW_some] <;> rfl) | (simp [*, errW_none, errW_some] <;> rfl), by repeat (first | (with_reducible first | exact HI0.out | apply IsS90.alloc | apply IsS90.drewN | apply IsS90.drew | apply IsS90.set_1 | apply IsS90.set_2) | exact HI0.out), by repeat (first | (with_reducible first | exact HB.out | apply below_alloc | apply pw_below_drewN | apply below_drew1 | refine below_set ?_ (IsS90.ge HI0.out)) | exact HB.out), by repeat (first | (with_reducible first | exact HK.out | apply KeepBut.set_ | apply keep_drewN | apply keep_drew | apply keep_alloc) | exact HK.out)⟩
    · rw [if_neg c5] at H
      exact absurd H (by simp)
  · rw [if_neg c4] at H
    exact absurd H (by simp)

/-! ### spec_DrawParsePlace: function 51 -/
def spec_DrawParsePlace.f (k : Nat) (l0 : List Int) : Option (ByteArray) := (spec_l1New.f k l0).bind fun bt233 => ((spec_l2Draw.f bt233.1 bt233.2.1 bt233.2.2).bind fun bt237 => ((spec_FormatPlace.f k bt237.1 bt237.2.1).bind fun t241 => ((spec_l1Below.f bt233.1 bt237.2.2.1 bt237.2.2.2 6).bind fun bt242 => (if bt242.1 = 0 then ((spec_l1Str.f bt233.1 bt242.2.1 bt242.2.2 (([(⟨#[105]⟩ : ByteArray), (⟨#[32]⟩ : ByteArray), (⟨#[48]⟩ : ByteArray), (⟨#[43, 48, 105]⟩ : ByteArray)] : List ByteArray))).bind fun bt248 => (if t241.size + bt248.1.size ≤ 9223372036854775807 then (some (t241 ++ bt248.1)) else (none))) else (if bt242.1 = 1 then ((spec_l1Str.f bt233.1 bt242.2.1 bt242.2.2 (([(⟨#[]⟩ : ByteArray), (⟨#[105]⟩ : ByteArray), (⟨#[49]⟩ : ByteArray), (⟨#[49, 105]⟩ : ByteArray), (⟨#[49, 43, 105]⟩ : ByteArray), (⟨#[43, 49, 43, 49, 105]⟩ : ByteArray), (⟨#[49, 43, 45, 49, 105]⟩ : ByteArray), (⟨#[49, 45, 45, 49, 105]⟩ : ByteArray), (⟨#[45, 49, 45, 49, 105]⟩ : ByteArray), (⟨#[48, 43, 48, 105]⟩ : ByteArray), (⟨#[48, 45, 48, 105]⟩ : ByteArray), (⟨#[49, 46, 53, 45, 48, 46, 49, 50, 53, 105]⟩ : ByteArray), (⟨#[49, 32, 43, 49, 105]⟩ : ByteArray), (⟨#[48, 49, 43, 49, 105]⟩ : ByteArray), (⟨#[53, 49, 51, 43, 48, 105]⟩ : ByteArray)] : List ByteArray))).bind fun bt254 => (some bt254.1)) else (some t241))))))
theorem spec_DrawParsePlace.mono : ∀ a0 k, LeO (spec_DrawParsePlace.f k a0) (spec_DrawParsePlace.f (k + 1) a0) := by
  intro a0 k
  unfold spec_DrawParsePlace.f
  repeat' first
      | (with_reducible exact spec_FormatPlace.mono _ _ _)
      | (with_reducible exact spec_l1New.mono _ _)
      | (with_reducible exact LeO.refl _)
      | (with_reducible exact LeO.none _)
      | (with_reducible refine LeO.ite ?_ ?_)
      | (with_reducible refine LeO.bind ?_ (fun _ => ?_))
      | exact spec_FormatPlace.mono _ _ _
      | exact spec_l1New.mono _ _
      | exact LeO.none _
      | refine LeO.ite ?_ ?_
      | refine LeO.bind ?_ (fun _ => ?_)
set_option maxHeartbeats 8000000 in
set_option maxRecDepth 100000 in
theorem spec_DrawParsePlace.calls (k : Nat) (A0 : Option Addr) (c0 : Nat) (l0 : List Int) (r : ByteArray) (w : World) (hr0 : Kd.C (Kd.int .u8) w A0 l0.length l0) (hc0 : l0.length ≤ c0) (h : spec_DrawParsePlace.f k l0 = some r) :
    Calls Tryd.prog 51 #[.slice A0 l0.length c0] w fun e w' => e = .returned (.string r) ∧ Below w.heap.size w w' := by
  have HR0 := Aside0.mk hr0
  have HC0 := Aside0.mk hc0
  clear hr0 hc0
  have HB := Aside0.mk (Below.refl w.heap.size w)
  have H : ((spec_l1New.f k l0).bind fun bt233 => ((spec_l2Draw.f bt233.1 bt233.2.1 bt233.2.2).bind fun bt237 => ((spec_FormatPlace.f k bt237.1 bt237.2.1).bind fun t241 => ((spec_l1Below.f bt233.1 bt237.2.2.1 bt237.2.2.2 6).bind fun bt242 => (if bt242.1 = 0 then ((spec_l1Str.f bt233.1 bt242.2.1 bt242.2.2 (([(⟨#[105]⟩ : ByteArray), (⟨#[32]⟩ : ByteArray), (⟨#[48]⟩ : ByteArray), (⟨#[43, 48, 105]⟩ : ByteArray)] : List ByteArray))).bind fun bt248 => (if t241.size + bt248.1.size ≤ 9223372036854775807 then (some (t241 ++ bt248.1)) else (none))) else (if bt242.1 = 1 then ((spec_l1Str.f bt233.1 bt242.2.1 bt242.2.2 (([(⟨#[]⟩ : ByteArray), (⟨#[105]⟩ : ByteArray), (⟨#[49]⟩ : ByteArray), (⟨#[49, 105]⟩ : ByteArray), (⟨#[49, 43, 105]⟩ : ByteArray), (⟨#[43, 49, 43, 49, 105]⟩ : ByteArray), (⟨#[49, 43, 45, 49, 105]⟩ : ByteArray), (⟨#[49, 45, 45, 49, 105]⟩ : ByteArray), (⟨#[45, 49, 45, 49, 105]⟩ : ByteArray), (⟨#[48, 43, 48, 105]⟩ : ByteArray), (⟨#[48, 45, 48, 105]⟩ : ByteArray), (⟨#[49, 46, 53, 45, 48, 46, 49, 50, 53, 105]⟩ : ByteArray), (⟨#[49, 32, 43, 49, 105]⟩ : ByteArray), (⟨#[48, 49, 43, 49, 105]⟩ : ByteArray), (⟨#[53, 49, 51, 43, 48, 105]⟩ : ByteArray)] : List ByteArray))).bind fun bt254 => (some bt254.1)) else (some t241))))))) = some r := h
  clear h
  replace H := Option.bind_eq_some_iff.mp H
  obtain ⟨⟨t233, t234, t235⟩, A20, H⟩ := H
  replace H : ((spec_l2Draw.f t233 t234 t235).bind fun bt237 => ((spec_FormatPlace.f k bt237.1 bt237.2.1).bind fun t241 => ((spec_l1Below.f t233 bt237.2.2.1 bt237.2.2.2 6).bind fun bt242 => (if bt242.1 = 0 then ((spec_l1Str.f t233 bt242.2.1 bt242.2.2 (([(⟨#[105]⟩ : ByteArray), (⟨#[32]⟩ : ByteArray), (⟨#[48]⟩ : ByteArray), (⟨#[43, 48, 105]⟩ : ByteArray)] : List ByteArray))).bind fun bt248 => (if t241.size + bt248.1.size ≤ 9223372036854775807 then (some (t241 ++ bt248.1)) else (none))) else (if bt242.1 = 1 then ((spec_l1Str.f t233 bt242.2.1 bt242.2.2 (([(⟨#[]⟩ : ByteArray), (⟨#[105]⟩ : ByteArray), (⟨#[49]⟩ : ByteArray), (⟨#[49, 105]⟩ : ByteArray), (⟨#[49, 43, 105]⟩ : ByteArray), (⟨#[43, 49, 43, 49, 105]⟩ : ByteArray), (⟨#[49, 43, 45, 49, 105]⟩ : ByteArray), (⟨#[49, 45, 45, 49, 105]⟩ : ByteArray), (⟨#[45, 49, 45, 49, 105]⟩ : ByteArray), (⟨#[48, 43, 48, 105]⟩ : ByteArray), (⟨#[48, 45, 48, 105]⟩ : ByteArray), (⟨#[49, 46, 53, 45, 48, 46, 49, 50, 53, 105]⟩ : ByteArray), (⟨#[49, 32, 43, 49, 105]⟩ : ByteArray), (⟨#[48, 49, 43, 49, 105]⟩ : ByteArray), (⟨#[53, 49, 51, 43, 48, 105]⟩ : ByteArray)] : List ByteArray))).bind fun bt254 => (some bt254.1)) else (some t241)))))) = some r := H
  have A2 := Aside0.mk A20
  clear A20
  replace H := Option.bind_eq_some_iff.mp H
  obtain ⟨⟨t237, t238, t239, t240⟩, A30, H⟩ := H
  replace H : ((spec_FormatPlace.f k t237 t238).bind fun t241 => ((spec_l1Below.f t233 t239 t240 6).bind fun bt242 => (if bt242.1 = 0 then ((spec_l1Str.f t233 bt242.2.1 bt242.2.2 (([(⟨#[105]⟩ : ByteArray), (⟨#[32]⟩ : ByteArray), (⟨#[48]⟩ : ByteArray), (⟨#[43, 48, 105]⟩ : ByteArray)] : List ByteArray))).bind fun bt248 => (if t241.size + bt248.1.size ≤ 9223372036854775807 then (some (t241 ++ bt248.1)) else (none))) else (if bt242.1 = 1 then ((spec_l1Str.f t233 bt242.2.1 bt242.2.2 (([(⟨#[]⟩ : ByteArray), (⟨#[105]⟩ : ByteArray), (⟨#[49]⟩ : ByteArray), (⟨#[49, 105]⟩ : ByteArray), (⟨#[49, 43, 105]⟩ : ByteArray), (⟨#[43, 49, 43, 49, 105]⟩ : ByteArray), (⟨#[49, 43, 45, 49, 105]⟩ : ByteArray), (⟨#[49, 45, 45, 49, 105]⟩ : ByteArray), (⟨#[45, 49, 45, 49, 105]⟩ : ByteArray), (⟨#[48, 43, 48, 105]⟩ : ByteArray), (⟨#[48, 45, 48, 105]⟩ : ByteArray), (⟨#[49, 46, 53, 45, 48, 46, 49, 50, 53, 105]⟩ : ByteArray), (⟨#[49, 32, 43, 49, 105]⟩ : ByteArray), (⟨#[48, 49, 43, 49, 105]⟩ : ByteArray), (⟨#[53, 49, 51, 43, 48, 105]⟩ : ByteArray)] : List ByteArray))).bind fun bt254 => (some bt254.1)) else (some t241))))) = some r := H
  have A3 := Aside0.mk A30
  clear A30
  replace H := Option.bind_eq_some_iff.mp H
  obtain ⟨t241, A40, H⟩ := H
  replace H : ((spec_l1Below.f t233 t239 t240 6).bind fun bt242 => (if bt242.1 = 0 then ((spec_l1Str.f t233 bt242.2.1 bt242.2.2 (([(⟨#[105]⟩ : ByteArray), (⟨#[32]⟩ : ByteArray), (⟨#[48]⟩ : ByteArray), (⟨#[43, 48, 105]⟩ : ByteArray)] : List ByteArray))).bind fun bt248 => (if t241.size + bt248.1.size ≤ 9223372036854775807 then (some (t241 ++ bt248.1)) else (none))) else (if bt242.1 = 1 then ((spec_l1Str.f t233 bt242.2.1 bt242.2.2 (([(⟨#[]⟩ : ByteArray), (⟨#[105]⟩ : ByteArray), (⟨#[49]⟩ : ByteArray), (⟨#[49, 105]⟩ : ByteArray), (⟨#[49, 43, 105]⟩ : ByteArray), (⟨#[43, 49, 43, 49, 105]⟩ : ByteArray), (⟨#[49, 43, 45, 49, 105]⟩ : ByteArray), (⟨#[49, 45, 45, 49, 105]⟩ : ByteArray), (⟨#[45, 49, 45, 49, 105]⟩ : ByteArray), (⟨#[48, 43, 48, 105]⟩ : ByteArray), (⟨#[48, 45, 48, 105]⟩ : ByteArray), (⟨#[49, 46, 53, 45, 48, 46, 49, 50, 53, 105]⟩ : ByteArray), (⟨#[49, 32, 43, 49, 105]⟩ : ByteArray), (⟨#[48, 49, 43, 49, 105]⟩ : ByteArray), (⟨#[53, 49, 51, 43, 48, 105]⟩ : ByteArray)] : List ByteArray))).bind fun bt254 => (some bt254.1)) else (some t241)))) = some r := H
  have A4 := Aside0.mk A40
  clear A40
  replace H := Option.bind_eq_some_iff.mp H
  obtain ⟨⟨t242, t243, t244⟩, A50, H⟩ := H
  replace H : (if t242 = 0 then ((spec_l1Str.f t233 t243 t244 (([(⟨#[105]⟩ : ByteArray), (⟨#[32]⟩ : ByteArray), (⟨#[48]⟩ : ByteArray), (⟨#[43, 48, 105]⟩ : ByteArray)] : List ByteArray))).bind fun bt248 => (if t241.size + bt248.1.size ≤ 9223372036854775807 then (some (t241 ++ bt248.1)) else (none))) else (if t242 = 1 then ((spec_l1Str.f t233 t243 t244 (([(⟨#[]⟩ : ByteArray), (⟨#[105]⟩ : ByteArray), (⟨#[49]⟩ : ByteArray), (⟨#[49, 105]⟩ : ByteArray), (⟨#[49, 43, 105]⟩ : ByteArray), (⟨#[43, 49, 43, 49, 105]⟩ : ByteArray), (⟨#[49, 43, 45, 49, 105]⟩ : ByteArray), (⟨#[49, 45, 45, 49, 105]⟩ : ByteArray), (⟨#[45, 49, 45, 49, 105]⟩ : ByteArray), (⟨#[48, 43, 48, 105]⟩ : ByteArray), (⟨#[48, 45, 48, 105]⟩ : ByteArray), (⟨#[49, 46, 53, 45, 48, 46, 49, 50, 53, 105]⟩ : ByteArray), (⟨#[49, 32, 43, 49, 105]⟩ : ByteArray), (⟨#[48, 49, 43, 49, 105]⟩ : ByteArray), (⟨#[53, 49, 51, 43, 48, 105]⟩ : ByteArray)] : List ByteArray))).bind fun bt254 => (some bt254.1)) else (some t241))) = some r := H
  have A5 := Aside0.mk A50
  clear A50
  by_cases c6 : t242 = 0
  · rw [if_pos c6] at H
    have c6b0 : (t242 == 0) = true := beq_iff_eq.mpr c6
    have c6b1 : (t242 != 0) = false := bne_eq_false_iff_eq.mpr c6
    clear c6
    obtain ⟨y245, hy245⟩ : ∃ y_ : List ByteArray, y_ = (([(⟨#[105]⟩ : ByteArray), (⟨#[32]⟩ : ByteArray), (⟨#[48]⟩ : ByteArray), (⟨#[43, 48, 105]⟩ : ByteArray)] : List ByteArray)) := ⟨_, rfl⟩
    replace H : ((spec_l1Str.f t233 t243 t244 y245).bind fun bt248 => (if t241.size + bt248.1.size ≤ 9223372036854775807 then (some (t241 ++ bt248.1)) else (none))) = some r := by first | (rw [hy245]; with_reducible exact H) | (have H2_ := (Option.bind_some _ _).symm.trans H; rw [hy245]; with_reducible exact H2_) | (have H2_ := (Option.bind_some _ _).symm.trans H; with_reducible exact H2_) | with_reducible exact H | (rw [hy245]; exact H) | exact H
    have Ny245 := Aside0.mk hy245
    clear hy245
    replace H := Option.bind_eq_some_iff.mp H
    obtain ⟨⟨t248, t249, t250⟩, A70, H⟩ := H
    replace H : (if t241.size + t248.size ≤ 9223372036854775807 then (some (t241 ++ t248)) else (none)) = some r := H
    have A7 := Aside0.mk A70
    clear A70
    by_cases c8 : t241.size + t248.size ≤ 9223372036854775807
    · rw [if_pos c8] at H
      have c8b0 := eq_true c8
      have c8b1 : decide (t241.size + t248.size ≤ 9223372036854775807) = true := decide_eq_true c8
      try have c8b2 : (9223372036854775807 < t241.size + t248.size) = False := eq_false (Nat.not_lt.2 c8)
      obtain rfl := Option.some.inj H
      go_enter Tryd.func51, Tryd.ntmps51
      go_wp2_with (first | ((with_reducible refine gate_callee (f := 64) rfl ?_); refine goesL_ (some 6) rfl rfl Tryd.func64 (by kernel_rfl) rfl #[.slice A0 l0.length c0] rfl (by (try simp only [List.map_toArray, List.map_cons, List.map_nil]); first | done | rfl | (simp only [List.length_drop, List.length_take]; rfl)) ?_; (with_reducible refine (spec_l1New.calls k _ _ l0 t233 t234 t235 w _ ?side1 ?side2 ?side3 A2.out).mono ?_); (case side1 => repeat (first | (with_reducible first | exact HB.out | apply below_alloc | apply pw_below_drewN | apply below_drew1) | exact HB.out)); (case side2 => exact HR0.out); (case side3 => exact HC0.out); rintro e w9 ⟨g236, rfl, hi, hb, hb2⟩; refine ⟨_, rfl, ?_⟩; have n0_ := Aside0.mk (hb); have n1_ := Aside0.mk (hi); clear HB; have HB := n0_; have HI236 := n1_; clear n0_ n1_; (try clear hb); (try clear hb2); (try clear hk); (try clear hi)) | ((with_reducible refine gate_callee (f := 74) rfl ?_); refine goesL_ (some 8) rfl rfl Tryd.func74 (by kernel_rfl) rfl #[.pointer (some ⟨g236, 0, none⟩)] rfl (by (try simp only [List.map_toArray, List.map_cons, List.map_nil]); first | done | rfl | (simp only [List.length_drop, List.length_take]; rfl)) ?_; (with_reducible refine (spec_l2Draw.calls g236 t233 t234 t235 t237 t238 t239 t240 w _ ?side1 ?side2 A3.out).mono ?_); (case side1 => repeat (first | (with_reducible first | exact HI236.out | apply IsS90.alloc | apply IsS90.drewN | apply IsS90.drew | apply IsS90.set_1 | apply IsS90.set_2) | exact HI236.out)); (case side2 => repeat (first | (with_reducible first | exact HB.out | apply below_alloc | apply pw_below_drewN | apply below_drew1 | refine below_set ?_ (IsS90.ge HI236.out)) | exact HB.out)); rintro e w10 ⟨rfl, hi, hb, hk⟩; refine ⟨_, rfl, ?_⟩; have n0_ := Aside0.mk (hb); have n1_ := Aside0.mk (hi); clear HB; clear HI236; have HB := n0_; have HI236 := n1_; clear n0_ n1_; (try clear hb); (try clear hb2); (try clear hk); (try clear hi)) | ((with_reducible refine gate_callee (f := 26) rfl ?_); refine goesL_ (some 9) rfl rfl Tryd.func26 (by kernel_rfl) rfl #[.agg #[.int .i64 t237, .int .i64 t238]] rfl (by (try simp only [List.map_toArray, List.map_cons, List.map_nil]); first | done | rfl | (simp only [List.length_drop, List.length_take]; rfl)) ?_; (with_reducible refine (spec_FormatPlace.calls k t237 t238 t241 _ A4.out).mono ?_); rintro e w11 ⟨rfl, hb⟩; refine ⟨_, rfl, ?_⟩; have n0_ := Aside0.mk (IsS90.below (by repeat (first | (with_reducible first | exact HI236.out | apply IsS90.alloc | apply IsS90.drewN | apply IsS90.drew | apply IsS90.set_1 | apply IsS90.set_2) | exact HI236.out)) hb); have n1_ := Aside0.mk (below_step (by repeat (first | (with_reducible first | exact HB.out | apply below_alloc | apply pw_below_drewN | apply below_drew1 | refine below_set ?_ (IsS90.ge HI236.out)) | exact HB.out)) hb); clear HI236; clear HB; have HI236 := n0_; have HB := n1_; clear n0_ n1_; (try clear hb); (try clear hb2); (try clear hk); (try clear hi)) | ((with_reducible refine gate_callee (f := 67) rfl ?_); refine goesL_ (some 11) rfl rfl Tryd.func67 (by kernel_rfl) rfl #[.pointer (some ⟨g236, 0, none⟩), .int .i64 6] rfl (by (try simp only [List.map_toArray, List.map_cons, List.map_nil]); first | done | rfl | (simp only [List.length_drop, List.length_take]; rfl)) ?_; (with_reducible refine (spec_l1Below.calls g236 t233 t239 t240 6 t242 t243 t244 w _ ?side1 ?side2 A5.out).mono ?_); (case side1 => repeat (first | (with_reducible first | exact HI236.out | apply IsS90.alloc | apply IsS90.drewN | apply IsS90.drew | apply IsS90.set_1 | apply IsS90.set_2) | exact HI236.out)); (case side2 => repeat (first | (with_reducible first | exact HB.out | apply below_alloc | apply pw_below_drewN | apply below_drew1 | refine below_set ?_ (IsS90.ge HI236.out)) | exact HB.out)); rintro e w12 ⟨rfl, hi, hb, hk⟩; refine ⟨_, rfl, ?_⟩; have n0_ := Aside0.mk (hb); have n1_ := Aside0.mk (hi); clear HB; clear HI236; have HB := n0_; have HI236 := n1_; clear n0_ n1_; (try clear hb); (try clear hb2); (try clear hk); (try clear hi)) | ((with_reducible refine gate_dst (N := 16) rfl ?_); refine Kd.R_lit Kd.string _ 9 ?hg (N := 16) ?hd (xs := ([(⟨#[105]⟩ : ByteArray), (⟨#[32]⟩ : ByteArray), (⟨#[48]⟩ : ByteArray), (⟨#[43, 48, 105]⟩ : ByteArray)] : List ByteArray)) (inner := [.string (⟨#[105]⟩ : ByteArray), .string (⟨#[32]⟩ : ByteArray), .string (⟨#[48]⟩ : ByteArray), .string (⟨#[43, 48, 105]⟩ : ByteArray)]) (ok := fun _ => True) (okp := fun _ => True) ?hr ?hp (fun _ hk => hk) trivial (Below.refl _ _) (Nat.le_refl _) (by simp) ?_; (case hd => rfl); (case hg => rfl); (case hr => first | (go_simp; done) | (go_simp; rfl)); (case hp => exact (Reps.one (show Kd.M Kd.string _ _ _ (⟨#[105]⟩ : ByteArray) [.string (⟨#[105]⟩ : ByteArray)] from rfl) (Reps.one (show Kd.M Kd.string _ _ _ (⟨#[32]⟩ : ByteArray) [.string (⟨#[32]⟩ : ByteArray)] from rfl) (Reps.one (show Kd.M Kd.string _ _ _ (⟨#[48]⟩ : ByteArray) [.string (⟨#[48]⟩ : ByteArray)] from rfl) (Reps.one (show Kd.M Kd.string _ _ _ (⟨#[43, 48, 105]⟩ : ByteArray) [.string (⟨#[43, 48, 105]⟩ : ByteArray)] from rfl) (Reps.none _ _)))))); intro v246 w13 ho14 hb hg_ hnew_; clear hg_ hnew_; (first | rw [← Ny245.out] at ho14 | (simp only [Int.reduceToNat] at ho14; rw [← Ny245.out] at ho14)); have n0_ := Aside0.mk (Kd.R_lower ho14 (below_size (by repeat (first | (with_reducible first | exact HB.out | apply below_alloc | apply pw_below_drewN | apply below_drew1 | refine below_set ?_ (IsS90.ge HI236.out)) | exact HB.out)))); have n1_ := Aside0.mk (IsS90.below (by repeat (first | (with_reducible first | exact HI236.out | apply IsS90.alloc | apply IsS90.drewN | apply IsS90.drew | apply IsS90.set_1 | apply IsS90.set_2) | exact HI236.out)) hb); have n2_ := Aside0.mk (below_step (by repeat (first | (with_reducible first | exact HB.out | apply below_alloc | apply pw_below_drewN | apply below_drew1 | refine below_set ?_ (IsS90.ge HI236.out)) | exact HB.out)) hb); clear HI236; clear HB; have HO247 := n0_; have HI236 := n1_; have HB := n2_; clear n0_ n1_ n2_; clear hb ho14; obtain ⟨Ao15, co15, eo15⟩ := Kd.R_slice HO247.out; subst eo15) | ((with_reducible refine gate_callee (f := 68) rfl ?_); refine goesL_ (some 17) rfl rfl Tryd.func68 (by kernel_rfl) rfl #[.pointer (some ⟨g236, 0, none⟩), .slice Ao15 y245.length co15] rfl (by (try simp only [List.map_toArray, List.map_cons, List.map_nil]); first | done | rfl | (simp only [List.length_drop, List.length_take]; rfl)) ?_; (with_reducible refine (spec_l1Str.calls g236 t233 t243 t244 _ _ y245 t248 t249 t250 w _ ?side1 ?side2 ?side3 ?side4 ?side5 A7.out).mono ?_); (case side1 => repeat (first | (with_reducible first | exact HI236.out | apply IsS90.alloc | apply IsS90.drewN | apply IsS90.drew | apply IsS90.set_1 | apply IsS90.set_2) | exact HI236.out)); (case side2 => repeat (first | (with_reducible first | exact HB.out | apply below_alloc | apply pw_below_drewN | apply below_drew1 | refine below_set ?_ (IsS90.ge HI236.out)) | exact HB.out)); (case side3 => repeat (first | exact (Kd.R_reads' HO247.out).2.2 | (with_reducible refine Kd.C_alloc ?_ _) | (with_reducible refine Kd.C_drewN ?_ _) | (with_reducible refine Kd.C_drew ?_))); (case side4 => exact (Kd.R_reads' HO247.out).2.1); (case side5 => exact far_slice (IsS90.own_ne HI236.out HO247.out (by decide))); rintro e w16 ⟨rfl, hi, hb, hk⟩; refine ⟨_, rfl, ?_⟩; have n0_ := Aside0.mk (Kd.R_mono (Kd.R_keep (IsS90.apart (show IsS90 w _ g236 t233 t243 t244 from by repeat (first | (with_reducible first | exact HI236.out | apply IsS90.alloc | apply IsS90.drewN | apply IsS90.drew | apply IsS90.set_1 | apply IsS90.set_2) | exact HI236.out)) (by (with_reducible repeat (first | apply Kd.R_alloc | apply Kd.R_drewN | apply Kd.R_drew)); exact HO247.out) (by decide)) hk (fun _ h => h.2)) (fun _ h => h.1)); have n1_ := Aside0.mk (hb); have n2_ := Aside0.mk (hi); clear HO247; clear HB; clear HI236; have HO247 := n0_; have HB := n1_; have HI236 := n2_; clear n0_ n1_ n2_; (try clear hb); (try clear hb2); (try clear hk); (try clear hi)))
      go_ret
      exact ⟨by first | rfl | (simp [errW_none, errW_some] <;> rfl) | (simp [*, errW_none, errW_some] <;> rfl), by repeat (first | (with_reducible first | exact HB.out | apply below_alloc | apply pw_below_drewN | apply below_drew1 | refine below_set ?_ (IsS90.ge HI236.out)) | exact HB.out)⟩
    · rw [if_neg c8] at H
      exact absurd H (by simp)
  · rw [if_neg c6] at H
    have c6b0 : (t242 == 0) = false := beq_eq_false_iff_ne.mpr c6
    have c6b1 : (t242 != 0) = true := bne_iff_ne.mpr c6
    by_cases c17 : t242 = 1
    · rw [if_pos c17] at H
      have c17b0 : (t242 == 1) = true := beq_iff_eq.mpr c17
      have c17b1 : (t242 != 1) = false := bne_eq_false_iff_eq.mpr c17
      clear c17
      obtain ⟨y251, hy251⟩ : ∃ y_ : List ByteArray, y_ = (([(⟨#[]⟩ : ByteArray), (⟨#[105]⟩ : ByteArray), (⟨#[49]⟩ : ByteArray), (⟨#[49, 105]⟩ : ByteArray), (⟨#[49, 43, 105]⟩ : ByteArray), (⟨#[43, 49, 43, 49, 105]⟩ : ByteArray), (⟨#[49, 43, 45, 49, 105]⟩ : ByteArray), (⟨#[49, 45, 45, 49, 105]⟩ : ByteArray), (⟨#[45, 49, 45, 49, 105]⟩ : ByteArray), (⟨#[48, 43, 48, 105]⟩ : ByteArray), (⟨#[48, 45, 48, 105]⟩ : ByteArray), (⟨#[49, 46, 53, 45, 48, 46, 49, 50, 53, 105]⟩ : ByteArray), (⟨#[49, 32, 43, 49, 105]⟩ : ByteArray), (⟨#[48, 49, 43, 49, 105]⟩ : ByteArray), (⟨#[53, 49, 51, 43, 48, 105]⟩ : ByteArray)] : List ByteArray)) := ⟨_, rfl⟩
      replace H : ((spec_l1Str.f t233 t243 t244 y251).bind fun bt254 => (some bt254.1)) = some r := by first | (rw [hy251]; with_reducible exact H) | (have H2_ := (Option.bind_some _ _).symm.trans H; rw [hy251]; with_reducible exact H2_) | (have H2_ := (Option.bind_some _ _).symm.trans H; with_reducible exact H2_) | with_reducible exact H | (rw [hy251]; exact H) | exact H
      have Ny251 := Aside0.mk hy251
      clear hy251
      replace H := Option.bind_eq_some_iff.mp H
      obtain ⟨⟨t254, t255, t256⟩, A180, H⟩ := H
      replace H : (some t254) = some r := H
      have A18 := Aside0.mk A180
      clear A180
      obtain rfl := Option.some.inj H
      go_enter Tryd.func51, Tryd.ntmps51
      go_wp2_with (first | ((with_reducible refine gate_callee (f := 64) rfl ?_); refine goesL_ (some 6) rfl rfl Tryd.func64 (by kernel_rfl) rfl #[.slice A0 l0.length c0] rfl (by (try simp only [List.map_toArray, List.map_cons, List.map_nil]); first | done | rfl | (simp only [List.length_drop, List.length_take]; rfl)) ?_; (with_reducible refine (spec_l1New.calls k _ _ l0 t233 t234 t235 w _ ?side1 ?side2 ?side3 A2.out).mono ?_); (case side1 => repeat (first | (with_reducible first | exact HB.out | apply below_alloc | apply pw_below_drewN | apply below_drew1) | exact HB.out)); (case side2 => exact HR0.out); (case side3 => exact HC0.out); rintro e w19 ⟨g236, rfl, hi, hb, hb2⟩; refine ⟨_, rfl, ?_⟩; have n0_ := Aside0.mk (hb); have n1_ := Aside0.mk (hi); clear HB; have HB := n0_; have HI236 := n1_; clear n0_ n1_; (try clear hb); (try clear hb2); (try clear hk); (try clear hi)) | ((with_reducible refine gate_callee (f := 74) rfl ?_); refine goesL_ (some 8) rfl rfl Tryd.func74 (by kernel_rfl) rfl #[.pointer (some ⟨g236, 0, none⟩)] rfl (by (try simp only [List.map_toArray, List.map_cons, List.map_nil]); first | done | rfl | (simp only [List.length_drop, List.length_take]; rfl)) ?_; (with_reducible refine (spec_l2Draw.calls g236 t233 t234 t235 t237 t238 t239 t240 w _ ?side1 ?side2 A3.out).mono ?_); (case side1 => repeat (first | (with_reducible first | exact HI236.out | apply IsS90.alloc | apply IsS90.drewN | apply IsS90.drew | apply IsS90.set_1 | apply IsS90.set_2) | exact HI236.out)); (case side2 => repeat (first | (with_reducible first | exact HB.out | apply below_alloc | apply pw_below_drewN | apply below_drew1 | refine below_set ?_ (IsS90.ge HI236.out)) | exact HB.out)); rintro e w20 ⟨rfl, hi, hb, hk⟩; refine ⟨_, rfl, ?_⟩; have n0_ := Aside0.mk (hb); have n1_ := Aside0.mk (hi); clear HB; clear HI236; have HB := n0_; have HI236 := n1_; clear n0_ n1_; (try clear hb); (try clear hb2); (try clear hk); (try clear hi)) | ((with_reducible refine gate_callee (f := 26) rfl ?_); refine goesL_ (some 9) rfl rfl Tryd.func26 (by kernel_rfl) rfl #[.agg #[.int .i64 t237, .int .i64 t238]] rfl (by (try simp only [List.map_toArray, List.map_cons, List.map_nil]); first | done | rfl | (simp only [List.length_drop, List.length_take]; rfl)) ?_; (with_reducible refine (spec_FormatPlace.calls k t237 t238 t241 _ A4.out).mono ?_); rintro e w21 ⟨rfl, hb⟩; refine ⟨_, rfl, ?_⟩; have n0_ := Aside0.mk (IsS90.below (by repeat (first | (with_reducible first | exact HI236.out | apply IsS90.alloc | apply IsS90.drewN | apply IsS90.drew | apply IsS90.set_1 | apply IsS90.set_2) | exact HI236.out)) hb); have n1_ := Aside0.mk (below_step (by repeat (first | (with_reducible first | exact HB.out | apply below_alloc | apply pw_below_drewN | apply below_drew1 | refine below_set ?_ (IsS90.ge HI236.out)) | exact HB.out)) hb); clear HI236; clear HB; have HI236 := n0_; have HB := n1_; clear n0_ n1_; (try clear hb); (try clear hb2); (try clear hk); (try clear hi)) | ((with_reducible refine gate_callee (f := 67) rfl ?_); refine goesL_ (some 11) rfl rfl Tryd.func67 (by kernel_rfl) rfl #[.pointer (some ⟨g236, 0, none⟩), .int .i64 6] rfl (by (try simp only [List.map_toArray, List.map_cons, List.map_nil]); first | done | rfl | (simp only [List.length_drop, List.length_take]; rfl)) ?_; (with_reducible refine (spec_l1Below.calls g236 t233 t239 t240 6 t242 t243 t244 w _ ?side1 ?side2 A5.out).mono ?_); (case side1 => repeat (first | (with_reducible first | exact HI236.out | apply IsS90.alloc | apply IsS90.drewN | apply IsS90.drew | apply IsS90.set_1 | apply IsS90.set_2) | exact HI236.out)); (case side2 => repeat (first | (with_reducible first | exact HB.out | apply below_alloc | apply pw_below_drewN | apply below_drew1 | refine below_set ?_ (IsS90.ge HI236.out)) | exact HB.out)); rintro e w22 ⟨rfl, hi, hb, hk⟩; refine ⟨_, rfl, ?_⟩; have n0_ := Aside0.mk (hb); have n1_ := Aside0.mk (hi); clear HB; clear HI236; have HB := n0_; have HI236 := n1_; clear n0_ n1_; (try clear hb); (try clear hb2); (try clear hk); (try clear hi)) | ((with_reducible refine gate_dst (N := 22) rfl ?_); refine Kd.R_lit Kd.string _ 9 ?hg (N := 22) ?hd (xs := ([(⟨#[]⟩ : ByteArray), (⟨#[105]⟩ : ByteArray), (⟨#[49]⟩ : ByteArray), (⟨#[49, 105]⟩ : ByteArray), (⟨#[49, 43, 105]⟩ : ByteArray), (⟨#[43, 49, 43, 49, 105]⟩ : ByteArray), (⟨#[49, 43, 45, 49, 105]⟩ : ByteArray), (⟨#[49, 45, 45, 49, 105]⟩ : ByteArray), (⟨#[45, 49, 45, 49, 105]⟩ : ByteArray), (⟨#[48, 43, 48, 105]⟩ : ByteArray), (⟨#[48, 45, 48, 105]⟩ : ByteArray), (⟨#[49, 46, 53, 45, 48, 46, 49, 50, 53, 105]⟩ : ByteArray), (⟨#[49, 32, 43, 49, 105]⟩ : ByteArray), (⟨#[48, 49, 43, 49, 105]⟩ : ByteArray), (⟨#[53, 49, 51, 43, 48, 105]⟩ : ByteArray)] : List ByteArray)) (inner := [.string (⟨#[]⟩ : ByteArray), .string (⟨#[105]⟩ : ByteArray), .string (⟨#[49]⟩ : ByteArray), .string (⟨#[49, 105]⟩ : ByteArray), .string (⟨#[49, 43, 105]⟩ : ByteArray), .string (⟨#[43, 49, 43, 49, 105]⟩ : ByteArray), .string (⟨#[49, 43, 45, 49, 105]⟩ : ByteArray), .string (⟨#[49, 45, 45, 49, 105]⟩ : ByteArray), .string (⟨#[45, 49, 45, 49, 105]⟩ : ByteArray), .string (⟨#[48, 43, 48, 105]⟩ : ByteArray), .string (⟨#[48, 45, 48, 105]⟩ : ByteArray), .string (⟨#[49, 46, 53, 45, 48, 46, 49, 50, 53, 105]⟩ : ByteArray), .string (⟨#[49, 32, 43, 49, 105]⟩ : ByteArray), .string (⟨#[48, 49, 43, 49, 105]⟩ : ByteArray), .string (⟨#[53, 49, 51, 43, 48, 105]⟩ : ByteArray)]) (ok := fun _ => True) (okp := fun _ => True) ?hr ?hp (fun _ hk => hk) trivial (Below.refl _ _) (Nat.le_refl _) (by simp) ?_; (case hd => rfl); (case hg => rfl); (case hr => first | (go_simp; done) | (go_simp; rfl)); (case hp => exact (Reps.one (show Kd.M Kd.string _ _ _ (⟨#[]⟩ : ByteArray) [.string (⟨#[]⟩ : ByteArray)] from rfl) (Reps.one (show Kd.M Kd.string _ _ _ (⟨#[105]⟩ : ByteArray) [.string (⟨#[105]⟩ : ByteArray)] from rfl) (Reps.one (show Kd.M Kd.string _ _ _ (⟨#[49]⟩ : ByteArray) [.string (⟨#[49]⟩ : ByteArray)] from rfl) (Reps.one (show Kd.M Kd.string _ _ _ (⟨#[49, 105]⟩ : ByteArray) [.string (⟨#[49, 105]⟩ : ByteArray)] from rfl) (Reps.one (show Kd.M Kd.string _ _ _ (⟨#[49, 43, 105]⟩ : ByteArray) [.string (⟨#[49, 43, 105]⟩ : ByteArray)] from rfl) (Reps.one (show Kd.M Kd.string _ _ _ (⟨#[43, 49, 43, 49, 105]⟩ : ByteArray) [.string (⟨#[43, 49, 43, 49, 105]⟩ : ByteArray)] from rfl) (Reps.one (show Kd.M Kd.string _ _ _ (⟨#[49, 43, 45, 49, 105]⟩ : ByteArray) [.string (⟨#[49, 43, 45, 49, 105]⟩ : ByteArray)] from rfl) (Reps.one (show Kd.M Kd.string _ _ _ (⟨#[49, 45, 45, 49, 105]⟩ : ByteArray) [.string (⟨#[49, 45, 45, 49, 105]⟩ : ByteArray)] from rfl) (Reps.one (show Kd.M Kd.string _ _ _ (⟨#[45, 49, 45, 49, 105]⟩ : ByteArray) [.string (⟨#[45, 49, 45, 49, 105]⟩ : ByteArray)] from rfl) (Reps.one (show Kd.M Kd.string _ _ _ (⟨#[48, 43, 48, 105]⟩ : ByteArray) [.string (⟨#[48, 43, 48, 105]⟩ : ByteArray)] from rfl) (Reps.one (show Kd.M Kd.string _ _ _ (⟨#[48, 45, 48, 105]⟩ : ByteArray) [.string (⟨#[48, 45, 48, 105]⟩ : ByteArray)] from rfl) (Reps.one (show Kd.M Kd.string _ _ _ (⟨#[49, 46, 53, 45, 48, 46, 49, 50, 53, 105]⟩ : ByteArray) [.string (⟨#[49, 46, 53, 45, 48, 46, 49, 50, 53, 105]⟩ : ByteArray)] from rfl) (Reps.one (show Kd.M Kd.string _ _ _ (⟨#[49, 32, 43, 49, 105]⟩ : ByteArray) [.string (⟨#[49, 32, 43, 49, 105]⟩ : ByteArray)] from rfl) (Reps.one (show Kd.M Kd.string _ _ _ (⟨#[48, 49, 43, 49, 105]⟩ : ByteArray) [.string (⟨#[48, 49, 43, 49, 105]⟩ : ByteArray)] from rfl) (Reps.one (show Kd.M Kd.string _ _ _ (⟨#[53, 49, 51, 43, 48, 105]⟩ : ByteArray) [.string (⟨#[53, 49, 51, 43, 48, 105]⟩ : ByteArray)] from rfl) (Reps.none _ _))))))))))))))))); intro v252 w23 ho24 hb hg_ hnew_; clear hg_ hnew_; (first | rw [← Ny251.out] at ho24 | (simp only [Int.reduceToNat] at ho24; rw [← Ny251.out] at ho24)); have n0_ := Aside0.mk (Kd.R_lower ho24 (below_size (by repeat (first | (with_reducible first | exact HB.out | apply below_alloc | apply pw_below_drewN | apply below_drew1 | refine below_set ?_ (IsS90.ge HI236.out)) | exact HB.out)))); have n1_ := Aside0.mk (IsS90.below (by repeat (first | (with_reducible first | exact HI236.out | apply IsS90.alloc | apply IsS90.drewN | apply IsS90.drew | apply IsS90.set_1 | apply IsS90.set_2) | exact HI236.out)) hb); have n2_ := Aside0.mk (below_step (by repeat (first | (with_reducible first | exact HB.out | apply below_alloc | apply pw_below_drewN | apply below_drew1 | refine below_set ?_ (IsS90.ge HI236.out)) | exact HB.out)) hb); clear HI236; clear HB; have HO253 := n0_; have HI236 := n1_; have HB := n2_; clear n0_ n1_ n2_; clear hb ho24; obtain ⟨Ao25, co25, eo25⟩ := Kd.R_slice HO253.out; subst eo25) | ((with_reducible refine gate_callee (f := 68) rfl ?_); refine goesL_ (some 23) rfl rfl Tryd.func68 (by kernel_rfl) rfl #[.pointer (some ⟨g236, 0, none⟩), .slice Ao25 y251.length co25] rfl (by (try simp only [List.map_toArray, List.map_cons, List.map_nil]); first | done | rfl | (simp only [List.length_drop, List.length_take]; rfl)) ?_; (with_reducible refine (spec_l1Str.calls g236 t233 t243 t244 _ _ y251 t254 t255 t256 w _ ?side1 ?side2 ?side3 ?side4 ?side5 A18.out).mono ?_); (case side1 => repeat (first | (with_reducible first | exact HI236.out | apply IsS90.alloc | apply IsS90.drewN | apply IsS90.drew | apply IsS90.set_1 | apply IsS90.set_2) | exact HI236.out)); (case side2 => repeat (first | (with_reducible first | exact HB.out | apply below_alloc | apply pw_below_drewN | apply below_drew1 | refine below_set ?_ (IsS90.ge HI236.out)) | exact HB.out)); (case side3 => repeat (first | exact (Kd.R_reads' HO253.out).2.2 | (with_reducible refine Kd.C_alloc ?_ _) | (with_reducible refine Kd.C_drewN ?_ _) | (with_reducible refine Kd.C_drew ?_))); (case side4 => exact (Kd.R_reads' HO253.out).2.1); (case side5 => exact far_slice (IsS90.own_ne HI236.out HO253.out (by decide))); rintro e w26 ⟨rfl, hi, hb, hk⟩; refine ⟨_, rfl, ?_⟩; have n0_ := Aside0.mk (Kd.R_mono (Kd.R_keep (IsS90.apart (show IsS90 w _ g236 t233 t243 t244 from by repeat (first | (with_reducible first | exact HI236.out | apply IsS90.alloc | apply IsS90.drewN | apply IsS90.drew | apply IsS90.set_1 | apply IsS90.set_2) | exact HI236.out)) (by (with_reducible repeat (first | apply Kd.R_alloc | apply Kd.R_drewN | apply Kd.R_drew)); exact HO253.out) (by decide)) hk (fun _ h => h.2)) (fun _ h => h.1)); have n1_ := Aside0.mk (hb); have n2_ := Aside0.mk (hi); clear HO253; clear HB; clear HI236; have HO253 := n0_; have HB := n1_; have HI236 := n2_; clear n0_ n1_ n2_; (try clear hb); (try clear hb2); (try clear hk); (try clear hi)))
      go_ret
      exact ⟨by first | rfl | (simp [errW_none, errW_some] <;> rfl) | (simp [*, errW_none, errW_some] <;> rfl), by repeat (first | (with_reducible first | exact HB.out | apply below_alloc | apply pw_below_drewN | apply below_drew1 | refine below_set ?_ (IsS90.ge HI236.out)) | exact HB.out)⟩
    · rw [if_neg c17] at H
      have c17b0 : (t242 == 1) = false := beq_eq_false_iff_ne.mpr c17
      have c17b1 : (t242 != 1) = true := bne_iff_ne.mpr c17
      obtain rfl := Option.some.inj H
      go_enter Tryd.func51, Tryd.ntmps51
      go_wp2_with (first | ((with_reducible refine gate_callee (f := 64) rfl ?_); refine goesL_ (some 6) rfl rfl Tryd.func64 (by kernel_rfl) rfl #[.slice A0 l0.length c0] rfl (by (try simp only [List.map_toArray, List.map_cons, List.map_nil]); first | done | rfl | (simp only [List.length_drop, List.length_take]; rfl)) ?_; (with_reducible refine (spec_l1New.calls k _ _ l0 t233 t234 t235 w _ ?side1 ?side2 ?side3 A2.out).mono ?_); (case side1 => repeat (first | (with_reducible first | exact HB.out | apply below_alloc | apply pw_below_drewN | apply below_drew1) | exact HB.out)); (case side2 => exact HR0.out); (case side3 => exact HC0.out); rintro e w27 ⟨g236, rfl, hi, hb, hb2⟩; refine ⟨_, rfl, ?_⟩; have n0_ := Aside0.mk (hb); have n1_ := Aside0.mk (hi); clear HB; have HB := n0_; have HI236 := n1_; clear n0_ n1_; (try clear hb); (try clear hb2); (try clear hk); (try clear hi)) | ((with_reducible refine gate_callee (f := 74) rfl ?_); refine goesL_ (some 8) rfl rfl Tryd.func74 (by kernel_rfl) rfl #[.pointer (some ⟨g236, 0, none⟩)] rfl (by (try simp only [List.map_toArray, List.map_cons, List.map_nil]); first | done | rfl | (simp only [List.length_drop, List.length_take]; rfl)) ?_; (with_reducible refine (spec_l2Draw.calls g236 t233 t234 t235 t237 t238 t239 t240 w _ ?side1 ?side2 A3.out).mono ?_); (case side1 => repeat (first | (with_reducible first | exact HI236.out | apply IsS90.alloc | apply IsS90.drewN | apply IsS90.drew | apply IsS90.set_1 | apply IsS90.set_2) | exact HI236.out)); (case side2 => repeat (first | (with_reducible first | exact HB.out | apply below_alloc | apply pw_below_drewN | apply below_drew1 | refine below_set ?_ (IsS90.ge HI236.out)) | exact HB.out)); rintro e w28 ⟨rfl, hi, hb, hk⟩; refine ⟨_, rfl, ?_⟩; have n0_ := Aside0.mk (hb); have n1_ := Aside0.mk (hi); clear HB; clear HI236; have HB := n0_; have HI236 := n1_; clear n0_ n1_; (try clear hb); (try clear hb2); (try clear hk); (try clear hi)) | ((with_reducible refine gate_callee (f := 26) rfl ?_); refine goesL_ (some 9) rfl rfl Tryd.func26 (by kernel_rfl) rfl #[.agg #[.int .i64 t237, .int .i64 t238]] rfl (by (try simp only [List.map_toArray, List.map_cons, List.map_nil]); first | done | rfl | (simp only [List.length_drop, List.length_take]; rfl)) ?_; (with_reducible refine (spec_FormatPlace.calls k t237 t238 t241 _ A4.out).mono ?_); rintro e w29 ⟨rfl, hb⟩; refine ⟨_, rfl, ?_⟩; have n0_ := Aside0.mk (IsS90.below (by repeat (first | (with_reducible first | exact HI236.out | apply IsS90.alloc | apply IsS90.drewN | apply IsS90.drew | apply IsS90.set_1 | apply IsS90.set_2) | exact HI236.out)) hb); have n1_ := Aside0.mk (below_step (by repeat (first | (with_reducible first | exact HB.out | apply below_alloc | apply pw_below_drewN | apply below_drew1 | refine below_set ?_ (IsS90.ge HI236.out)) | exact HB.out)) hb); clear HI236; clear HB; have HI236 := n0_; have HB := n1_; clear n0_ n1_; (try clear hb); (try clear hb2); (try clear hk); (try clear hi)) | ((with_reducible refine gate_callee (f := 67) rfl ?_); refine goesL_ (some 11) rfl rfl Tryd.func67 (by kernel_rfl) rfl #[.pointer (some ⟨g236, 0, none⟩), .int .i64 6] rfl (by (try simp only [List.map_toArray, List.map_cons, List.map_nil]); first | done | rfl | (simp only [List.length_drop, List.length_take]; rfl)) ?_; (with_reducible refine (spec_l1Below.calls g236 t233 t239 t240 6 t242 t243 t244 w _ ?side1 ?side2 A5.out).mono ?_); (case side1 => repeat (first | (with_reducible first | exact HI236.out | apply IsS90.alloc | apply IsS90.drewN | apply IsS90.drew | apply IsS90.set_1 | apply IsS90.set_2) | exact HI236.out)); (case side2 => repeat (first | (with_reducible first | exact HB.out | apply below_alloc | apply pw_below_drewN | apply below_drew1 | refine below_set ?_ (IsS90.ge HI236.out)) | exact HB.out)); rintro e w30 ⟨rfl, hi, hb, hk⟩; refine ⟨_, rfl, ?_⟩; have n0_ := Aside0.mk (hb); have n1_ := Aside0.mk (hi); clear HB; clear HI236; have HB := n0_; have HI236 := n1_; clear n0_ n1_; (try clear hb); (try clear hb2); (try clear hk); (try clear hi)))
      go_ret
      exact ⟨by first | rfl | (simp [errW_none, errW_some] <;> rfl) | (simp [*, errW_none, errW_some] <;> rfl), by repeat (first | (with_reducible first | exact HB.out | apply below_alloc | apply pw_below_drewN | apply below_drew1 | refine below_set ?_ (IsS90.ge HI236.out)) | exact HB.out)⟩

end Go.Proofs.YtcnkfnkdcjpkoaaDoor.PFnPlaceText
