/- Plain functions and walks of the law FnExactParseJet: each function answers as its plain function does. No condition beside. Printed by a changed copy of the print (wip/tools/inject.py). -/
import Derived.Test.YtcnkfnkdcjpkoaaDoorIFnExactParseJetx0
import Derived.Test.YtcnkfnkdcjpkoaaDoorIFnExactParseJetx1
namespace Go.Proofs.YtcnkfnkdcjpkoaaDoor.PFnExactParseJet
open Go.RowKit Go.Proofs.YtcnkfnkdcjpkoaaDoorV Go.Proofs.YtcnkfnkdcjpkoaaDoorW.PrintWords Go.Proofs.YtcnkfnkdcjpkoaaDoorW.PrintLast Go.Proofs.YtcnkfnkdcjpkoaaDoorW.PrintMore
attribute [local go_sem] max2_int min2_int max_two min_two max_three min_three max_four min_four   -- for this text's walks alone
set_option linter.unusedVariables false
set_option linter.unusedSimpArgs false

/-! ### spec_FormatMeasure: function 22 -/
def spec_FormatMeasure.f (k : Nat) (a0 : Int) : Option (ByteArray) := (spec_IsMeasure.f a0).bind fun t115 => (if t115 = true then (if a0 < 0 then ((spec_FormatNumber.f k (wrap64 (Int.tdiv (wrap64 (-a0)) 8))).bind fun t116 => (if 1 + t116.size ≤ 9223372036854775807 then ((some (([(⟨#[]⟩ : ByteArray), (⟨#[46, 49, 50, 53]⟩ : ByteArray), (⟨#[46, 50, 53]⟩ : ByteArray), (⟨#[46, 51, 55, 53]⟩ : ByteArray), (⟨#[46, 53]⟩ : ByteArray), (⟨#[46, 54, 50, 53]⟩ : ByteArray), (⟨#[46, 55, 53]⟩ : ByteArray), (⟨#[46, 56, 55, 53]⟩ : ByteArray)] : List ByteArray) : List ByteArray)).bind fun y117 => (if 0 ≤ (Int.tmod (wrap64 (-a0)) 8) then (if (Int.tmod (wrap64 (-a0)) 8) < (y117.length : Int) then (if ((⟨#[45]⟩ : ByteArray) ++ t116).size + (rdOf ByteArray.empty y117 (Int.tmod (wrap64 (-a0)) 8)).size ≤ 9223372036854775807 then (some (((⟨#[45]⟩ : ByteArray) ++ t116) ++ (rdOf ByteArray.empty y117 (Int.tmod (wrap64 (-a0)) 8)))) else (none)) else (none)) else (none))) else (none))) else ((spec_FormatNumber.f k (wrap64 (Int.tdiv a0 8))).bind fun t121 => (if 0 + t121.size ≤ 9223372036854775807 then ((some (([(⟨#[]⟩ : ByteArray), (⟨#[46, 49, 50, 53]⟩ : ByteArray), (⟨#[46, 50, 53]⟩ : ByteArray), (⟨#[46, 51, 55, 53]⟩ : ByteArray), (⟨#[46, 53]⟩ : ByteArray), (⟨#[46, 54, 50, 53]⟩ : ByteArray), (⟨#[46, 55, 53]⟩ : ByteArray), (⟨#[46, 56, 55, 53]⟩ : ByteArray)] : List ByteArray) : List ByteArray)).bind fun y122 => (if 0 ≤ (Int.tmod a0 8) then (if (Int.tmod a0 8) < (y122.length : Int) then (if ((⟨#[]⟩ : ByteArray) ++ t121).size + (rdOf ByteArray.empty y122 (Int.tmod a0 8)).size ≤ 9223372036854775807 then (some (((⟨#[]⟩ : ByteArray) ++ t121) ++ (rdOf ByteArray.empty y122 (Int.tmod a0 8)))) else (none)) else (none)) else (none))) else (none)))) else (some (⟨#[]⟩ : ByteArray)))
theorem spec_FormatMeasure.mono : ∀ a0 k, LeO (spec_FormatMeasure.f k a0) (spec_FormatMeasure.f (k + 1) a0) := by
  intro a0 k
  unfold spec_FormatMeasure.f
  repeat' first
      | (with_reducible exact spec_FormatNumber.mono _ _)
      | (with_reducible exact LeO.refl _)
      | (with_reducible exact LeO.none _)
      | (with_reducible refine LeO.ite ?_ ?_)
      | (with_reducible refine LeO.bind ?_ (fun _ => ?_))
      | exact spec_FormatNumber.mono _ _
      | exact LeO.none _
      | refine LeO.ite ?_ ?_
      | refine LeO.bind ?_ (fun _ => ?_)
def spec_FormatMeasure.T7 : Bool × List (List Nat × List Nat) := (true, [([], []), ([], []), ([1], [1]), ([2], [2]), ([0, 3], [0, 3]), ([], []), ([], []), ([6], [6]), ([5, 7], [5, 7]), ([8], [8]), ([4, 9], [4, 9]), ([10, 3, 0, 1, 2, 3, 4, 5, 6, 7, 8, 9, 10], [10])])
def spec_FormatMeasure.B7 : List Nat := [0, 0, 2, 6, 15, 0, 0, 64, 224, 480, 1023, 2047]
theorem spec_FormatMeasure.tab7 : rtab .any (opsOf Tryd.f22 7) = spec_FormatMeasure.T7 := by kernel_rfl
theorem spec_FormatMeasure.bits7 : waitsOk spec_FormatMeasure.T7.2 spec_FormatMeasure.B7 = true := by kernel_rfl
set_option maxHeartbeats 8000000 in
set_option maxRecDepth 100000 in
theorem spec_FormatMeasure.calls (k : Nat) (a0 : Int) (r : ByteArray) (w : World) (h : spec_FormatMeasure.f k a0 = some r) :
    Calls Tryd.prog 22 #[.int .i64 a0] w fun e w' => e = .returned (.string r) ∧ Below w.heap.size w w' := by
  have HB := Aside0.mk (Below.refl w.heap.size w)
  have H : ((spec_IsMeasure.f a0).bind fun t115 => (if t115 = true then (if a0 < 0 then ((spec_FormatNumber.f k (wrap64 (Int.tdiv (wrap64 (-a0)) 8))).bind fun t116 => (if 1 + t116.size ≤ 9223372036854775807 then ((some (([(⟨#[]⟩ : ByteArray), (⟨#[46, 49, 50, 53]⟩ : ByteArray), (⟨#[46, 50, 53]⟩ : ByteArray), (⟨#[46, 51, 55, 53]⟩ : ByteArray), (⟨#[46, 53]⟩ : ByteArray), (⟨#[46, 54, 50, 53]⟩ : ByteArray), (⟨#[46, 55, 53]⟩ : ByteArray), (⟨#[46, 56, 55, 53]⟩ : ByteArray)] : List ByteArray) : List ByteArray)).bind fun y117 => (if 0 ≤ (Int.tmod (wrap64 (-a0)) 8) then (if (Int.tmod (wrap64 (-a0)) 8) < (y117.length : Int) then (if ((⟨#[45]⟩ : ByteArray) ++ t116).size + (rdOf ByteArray.empty y117 (Int.tmod (wrap64 (-a0)) 8)).size ≤ 9223372036854775807 then (some (((⟨#[45]⟩ : ByteArray) ++ t116) ++ (rdOf ByteArray.empty y117 (Int.tmod (wrap64 (-a0)) 8)))) else (none)) else (none)) else (none))) else (none))) else ((spec_FormatNumber.f k (wrap64 (Int.tdiv a0 8))).bind fun t121 => (if 0 + t121.size ≤ 9223372036854775807 then ((some (([(⟨#[]⟩ : ByteArray), (⟨#[46, 49, 50, 53]⟩ : ByteArray), (⟨#[46, 50, 53]⟩ : ByteArray), (⟨#[46, 51, 55, 53]⟩ : ByteArray), (⟨#[46, 53]⟩ : ByteArray), (⟨#[46, 54, 50, 53]⟩ : ByteArray), (⟨#[46, 55, 53]⟩ : ByteArray), (⟨#[46, 56, 55, 53]⟩ : ByteArray)] : List ByteArray) : List ByteArray)).bind fun y122 => (if 0 ≤ (Int.tmod a0 8) then (if (Int.tmod a0 8) < (y122.length : Int) then (if ((⟨#[]⟩ : ByteArray) ++ t121).size + (rdOf ByteArray.empty y122 (Int.tmod a0 8)).size ≤ 9223372036854775807 then (some (((⟨#[]⟩ : ByteArray) ++ t121) ++ (rdOf ByteArray.empty y122 (Int.tmod a0 8)))) else (none)) else (none)) else (none))) else (none)))) else (some (⟨#[]⟩ : ByteArray)))) = some r := h
  clear h
  replace H := Option.bind_eq_some_iff.mp H
  obtain ⟨t115, A20, H⟩ := H
  replace H : (if t115 = true then (if a0 < 0 then ((spec_FormatNumber.f k (wrap64 (Int.tdiv (wrap64 (-a0)) 8))).bind fun t116 => (if 1 + t116.size ≤ 9223372036854775807 then ((some (([(⟨#[]⟩ : ByteArray), (⟨#[46, 49, 50, 53]⟩ : ByteArray), (⟨#[46, 50, 53]⟩ : ByteArray), (⟨#[46, 51, 55, 53]⟩ : ByteArray), (⟨#[46, 53]⟩ : ByteArray), (⟨#[46, 54, 50, 53]⟩ : ByteArray), (⟨#[46, 55, 53]⟩ : ByteArray), (⟨#[46, 56, 55, 53]⟩ : ByteArray)] : List ByteArray) : List ByteArray)).bind fun y117 => (if 0 ≤ (Int.tmod (wrap64 (-a0)) 8) then (if (Int.tmod (wrap64 (-a0)) 8) < (y117.length : Int) then (if ((⟨#[45]⟩ : ByteArray) ++ t116).size + (rdOf ByteArray.empty y117 (Int.tmod (wrap64 (-a0)) 8)).size ≤ 9223372036854775807 then (some (((⟨#[45]⟩ : ByteArray) ++ t116) ++ (rdOf ByteArray.empty y117 (Int.tmod (wrap64 (-a0)) 8)))) else (none)) else (none)) else (none))) else (none))) else ((spec_FormatNumber.f k (wrap64 (Int.tdiv a0 8))).bind fun t121 => (if 0 + t121.size ≤ 9223372036854775807 then ((some (([(⟨#[]⟩ : ByteArray), (⟨#[46, 49, 50, 53]⟩ : ByteArray), (⟨#[46, 50, 53]⟩ : ByteArray), (⟨#[46, 51, 55, 53]⟩ : ByteArray), (⟨#[46, 53]⟩ : ByteArray), (⟨#[46, 54, 50, 53]⟩ : ByteArray), (⟨#[46, 55, 53]⟩ : ByteArray), (⟨#[46, 56, 55, 53]⟩ : ByteArray)] : List ByteArray) : List ByteArray)).bind fun y122 => (if 0 ≤ (Int.tmod a0 8) then (if (Int.tmod a0 8) < (y122.length : Int) then (if ((⟨#[]⟩ : ByteArray) ++ t121).size + (rdOf ByteArray.empty y122 (Int.tmod a0 8)).size ≤ 9223372036854775807 then (some (((⟨#[]⟩ : ByteArray) ++ t121) ++ (rdOf ByteArray.empty y122 (Int.tmod a0 8)))) else (none)) else (none)) else (none))) else (none)))) else (some (⟨#[]⟩ : ByteArray))) = some r := H
  have A2 := Aside0.mk A20
  clear A20
  by_cases c3 : t115 = true
  · subst c3
    have H1 : (if a0 < 0 then ((spec_FormatNumber.f k (wrap64 (Int.tdiv (wrap64 (-a0)) 8))).bind fun t116 => (if 1 + t116.size ≤ 9223372036854775807 then ((some (([(⟨#[]⟩ : ByteArray), (⟨#[46, 49, 50, 53]⟩ : ByteArray), (⟨#[46, 50, 53]⟩ : ByteArray), (⟨#[46, 51, 55, 53]⟩ : ByteArray), (⟨#[46, 53]⟩ : ByteArray), (⟨#[46, 54, 50, 53]⟩ : ByteArray), (⟨#[46, 55, 53]⟩ : ByteArray), (⟨#[46, 56, 55, 53]⟩ : ByteArray)] : List ByteArray) : List ByteArray)).bind fun y117 => (if 0 ≤ (Int.tmod (wrap64 (-a0)) 8) then (if (Int.tmod (wrap64 (-a0)) 8) < (y117.length : Int) then (if ((⟨#[45]⟩ : ByteArray) ++ t116).size + (rdOf ByteArray.empty y117 (Int.tmod (wrap64 (-a0)) 8)).size ≤ 9223372036854775807 then (some (((⟨#[45]⟩ : ByteArray) ++ t116) ++ (rdOf ByteArray.empty y117 (Int.tmod (wrap64 (-a0)) 8)))) else (none)) else (none)) else (none))) else (none))) else ((spec_FormatNumber.f k (wrap64 (Int.tdiv a0 8))).bind fun t121 => (if 0 + t121.size ≤ 9223372036854775807 then ((some (([(⟨#[]⟩ : ByteArray), (⟨#[46, 49, 50, 53]⟩ : ByteArray), (⟨#[46, 50, 53]⟩ : ByteArray), (⟨#[46, 51, 55, 53]⟩ : ByteArray), (⟨#[46, 53]⟩ : ByteArray), (⟨#[46, 54, 50, 53]⟩ : ByteArray), (⟨#[46, 55, 53]⟩ : ByteArray), (⟨#[46, 56, 55, 53]⟩ : ByteArray)] : List ByteArray) : List ByteArray)).bind fun y122 => (if 0 ≤ (Int.tmod a0 8) then (if (Int.tmod a0 8) < (y122.length : Int) then (if ((⟨#[]⟩ : ByteArray) ++ t121).size + (rdOf ByteArray.empty y122 (Int.tmod a0 8)).size ≤ 9223372036854775807 then (some (((⟨#[]⟩ : ByteArray) ++ t121) ++ (rdOf ByteArray.empty y122 (Int.tmod a0 8)))) else (none)) else (none)) else (none))) else (none)))) = some r := by rw [if_pos rfl] at H; exact H
    clear H
    have H := H1
    clear H1
    by_cases c4 : a0 < 0
    · rw [if_pos c4] at H
      have c4b0 : decide (a0 < 0) = true := decide_eq_true c4
      clear c4
      replace H := Option.bind_eq_some_iff.mp H
      obtain ⟨t116, A50, H⟩ := H
      replace H : (if 1 + t116.size ≤ 9223372036854775807 then ((some (([(⟨#[]⟩ : ByteArray), (⟨#[46, 49, 50, 53]⟩ : ByteArray), (⟨#[46, 50, 53]⟩ : ByteArray), (⟨#[46, 51, 55, 53]⟩ : ByteArray), (⟨#[46, 53]⟩ : ByteArray), (⟨#[46, 54, 50, 53]⟩ : ByteArray), (⟨#[46, 55, 53]⟩ : ByteArray), (⟨#[46, 56, 55, 53]⟩ : ByteArray)] : List ByteArray) : List ByteArray)).bind fun y117 => (if 0 ≤ (Int.tmod (wrap64 (-a0)) 8) then (if (Int.tmod (wrap64 (-a0)) 8) < (y117.length : Int) then (if ((⟨#[45]⟩ : ByteArray) ++ t116).size + (rdOf ByteArray.empty y117 (Int.tmod (wrap64 (-a0)) 8)).size ≤ 9223372036854775807 then (some (((⟨#[45]⟩ : ByteArray) ++ t116) ++ (rdOf ByteArray.empty y117 (Int.tmod (wrap64 (-a0)) 8)))) else (none)) else (none)) else (none))) else (none)) = some r := H
      have A5 := Aside0.mk A50
      clear A50
      by_cases c6 : 1 + t116.size ≤ 9223372036854775807
      · rw [if_pos c6] at H
        have c6b0 := eq_true c6
        have c6b1 : decide (1 + t116.size ≤ 9223372036854775807) = true := decide_eq_true c6
        try have c6b2 : (9223372036854775807 < 1 + t116.size) = False := eq_false (Nat.not_lt.2 c6)
        obtain ⟨y117, hy117⟩ : ∃ y_ : List ByteArray, y_ = (([(⟨#[]⟩ : ByteArray), (⟨#[46, 49, 50, 53]⟩ : ByteArray), (⟨#[46, 50, 53]⟩ : ByteArray), (⟨#[46, 51, 55, 53]⟩ : ByteArray), (⟨#[46, 53]⟩ : ByteArray), (⟨#[46, 54, 50, 53]⟩ : ByteArray), (⟨#[46, 55, 53]⟩ : ByteArray), (⟨#[46, 56, 55, 53]⟩ : ByteArray)] : List ByteArray)) := ⟨_, rfl⟩
        replace H : (if 0 ≤ (Int.tmod (wrap64 (-a0)) 8) then (if (Int.tmod (wrap64 (-a0)) 8) < (y117.length : Int) then (if ((⟨#[45]⟩ : ByteArray) ++ t116).size + (rdOf ByteArray.empty y117 (Int.tmod (wrap64 (-a0)) 8)).size ≤ 9223372036854775807 then (some (((⟨#[45]⟩ : ByteArray) ++ t116) ++ (rdOf ByteArray.empty y117 (Int.tmod (wrap64 (-a0)) 8)))) else (none)) else (none)) else (none)) = some r := by first | (rw [hy117]; with_reducible exact H) | (have H2_ := (Option.bind_some _ _).symm.trans H; rw [hy117]; with_reducible exact H2_) | (have H2_ := (Option.bind_some _ _).symm.trans H; with_reducible exact H2_) | with_reducible exact H | (rw [hy117]; exact H) | exact H
        have Ny117 := Aside0.mk hy117
        clear hy117
        obtain ⟨ji7, hji7⟩ : ∃ j_ : Int, (Int.tmod (wrap64 (-a0)) 8) = j_ := ⟨_, rfl⟩
        replace H : (if 0 ≤ (ji7) then (if (ji7) < (y117.length : Int) then (if ((⟨#[45]⟩ : ByteArray) ++ t116).size + (rdOf ByteArray.empty y117 (ji7)).size ≤ 9223372036854775807 then (some (((⟨#[45]⟩ : ByteArray) ++ t116) ++ (rdOf ByteArray.empty y117 (ji7)))) else (none)) else (none)) else (none)) = some r := by first | (rw [hji7] at H; exact H) | (simp only [hji7] at H ⊢; exact H)
        (try rw [hji7] at A2)
        (try rw [hji7] at A5)
        by_cases c8 : 0 ≤ (ji7)
        · rw [if_pos c8] at H
          have c8b0 : decide (0 ≤ (ji7)) = true := decide_eq_true c8
          clear c8
          by_cases c9 : (ji7) < (y117.length : Int)
          · rw [if_pos c9] at H
            have c9b0 : decide ((ji7) < (y117.length : Int)) = true := decide_eq_true c9
            clear c9
            by_cases c10 : ((⟨#[45]⟩ : ByteArray) ++ t116).size + (rdOf ByteArray.empty y117 (ji7)).size ≤ 9223372036854775807
            · rw [if_pos c10] at H
              have c10b0 := eq_true c10
              have c10b1 : decide (((⟨#[45]⟩ : ByteArray) ++ t116).size + (rdOf ByteArray.empty y117 (ji7)).size ≤ 9223372036854775807) = true := decide_eq_true c10
              try have c10b2 : (9223372036854775807 < ((⟨#[45]⟩ : ByteArray) ++ t116).size + (rdOf ByteArray.empty y117 (ji7)).size) = False := eq_false (Nat.not_lt.2 c10)
              obtain rfl := Option.some.inj H
              go_enter Tryd.func22, Tryd.ntmps22
              try go_wp2_with (first | ((with_reducible refine gate_callee (f := 46) rfl ?_); refine goesL_ (some 5) rfl rfl Tryd.func46 (by kernel_rfl) rfl #[.int .i64 a0] rfl (by (try simp only [List.map_toArray, List.map_cons, List.map_nil]); first | done | rfl | (simp only [List.length_drop, List.length_take]; rfl)) ?_; (with_reducible refine (spec_IsMeasure.calls a0 true _ A2.out).mono ?_); rintro e w' ⟨rfl, ⟨nd, rfl⟩⟩; refine ⟨_, rfl, ?_⟩))
              have pi120 : (0 ≤ ((ji7) : Int)) = True := eq_true (of_decide_eq_true (by first | (with_reducible assumption) | assumption))
              have qi120 : ((ji7) < (y117.length : Int)) = True := eq_true (of_decide_eq_true (by first | (with_reducible assumption) | assumption))
              have n0_ := Aside0.mk (below_drew1 (pw_below_drewN HB.out nd))
              clear HB
              have HB := n0_
              clear n0_
              refine start_ (n := 12) (S := fun w' => True) (ds := []) #[false, false, false, false, false, false, false, false, false, false, false, false] (by kernel_rfl) rfl rfl trivial (fun hHeld => ?_); refine with_tabW spec_FormatMeasure.tab7 spec_FormatMeasure.bits7 (fun HT_ HW_ => ?_)
              generalize (w.drewN nd).drew = w11 at HB hHeld ⊢
              refine pure_ (i := 0) (N := some 12) (v := ?_) (a' := ?_) #[true, false, false, false, false, false, false, false, false, false, false, false] rfl rfl (any_of HT_.out (by kernel_rfl)) (fun _ _ _ h => h) (Or.inl ⟨by rfl, ?_⟩) ?_ ?_
              rotate_left
              · intro w'
                go_simp
                with_reducible rfl
              rotate_left
              · simp only [Act.put, List.setIfInBounds_toArray, List.set_cons_zero, List.set_cons_succ, i64_w, i32_w]
                rfl
              refine pure_ (i := 1) (N := some 13) (v := ?_) (a' := ?_) #[true, true, false, false, false, false, false, false, false, false, false, false] rfl rfl (any_of HT_.out (by kernel_rfl)) (fun _ _ _ h => h) (Or.inl ⟨by rfl, ?_⟩) ?_ ?_
              rotate_left
              · intro w'
                go_simp
                with_reducible rfl
              rotate_left
              · simp only [Act.put, List.setIfInBounds_toArray, List.set_cons_zero, List.set_cons_succ, i64_w, i32_w]
                rfl
              refine pure_ (i := 6) (N := some 18) (v := ?_) (a' := ?_) #[true, true, false, false, false, false, true, false, false, false, false, false] rfl rfl (any_of HT_.out (by kernel_rfl)) (fun _ _ _ h => h) (Or.inl ⟨by rfl, ?_⟩) ?_ ?_
              rotate_left
              · intro w'
                go_simp
                with_reducible rfl
              rotate_left
              · simp only [Act.put, List.setIfInBounds_toArray, List.set_cons_zero, List.set_cons_succ, i64_w, i32_w]
                rfl
              refine inv_at [2, 3, 4, 5, 7, 8, 9, 10, 11] (fun a0_ b a w' => ∃ (v118 : Value) (adz_v118 : Addr) (m8_ : Value), a = putSel a0_ b [(2, 14, .int .i64 (wrap64 (Int.tdiv (wrap64 (-a0)) 8))), (3, 15, .string t116), (4, 16, .string ((⟨#[45]⟩ : ByteArray) ++ t116)), (5, 17, v118), (7, 19, .int .i64 ji7), (8, 20, m8_), (9, 21, .string (rdOf ByteArray.empty y117 (ji7))), (10, 22, .string (((⟨#[45]⟩ : ByteArray) ++ t116) ++ (rdOf ByteArray.empty y117 (ji7)))), (11, 2, .string (((⟨#[45]⟩ : ByteArray) ++ t116) ++ (rdOf ByteArray.empty y117 (ji7))))] ∧ (Below w.heap.size w w') ∧ (b 5 = true → Kd.R Kd.string 9 w' w.heap.size (fun _ => True) v118 y117) ∧ (b 5 = true → ∃ c_, (v118 : Value) = .slice (some adz_v118) y117.length c_) ∧ (b 8 = true → (m8_ : Value) = .pointer (some (adz_v118.add ((ji7)).toNat)))) HT_.out HW_.out (by kernel_rfl) (by kernel_rfl) ?_ ?_ ?_
              · exact ⟨.bool false, ⟨0, 0, none⟩, .bool false, by simp only [putSel, Bool.false_eq_true, if_false], HB.out, fun h_ => absurd h_ (by decide), fun h_ => absurd h_ (by decide), fun h_ => absurd h_ (by decide)⟩
              · skip
                clear HB
                refine steps_cons ?_ ?_
                · rintro b a w' ⟨v118, adz_v118, m8_, ha, Q_HB, Q_HO119, Q_HA_HO119, Q_X8_⟩ hb_ hon hoff
                  refine ⟨_, rfl, fun K hK => ?_⟩
                  have e13 : a.tmps[13]? = some (.int .i64 (wrap64 (-a0))) := by rw [ha]; exact (putSel_off rfl).trans rfl
                  replace ha := Aside0.mk ha
                  have HB := Aside0.mk Q_HB
                  refine value_ (w1 := w') (v := .int .i64 (wrap64 (Int.tdiv (wrap64 (-a0)) 8))) (by rfl) rfl ?_ ?_
                  · go_simp
                    (try simp only [i64_w])
                    try rfl
                    try (first | omega | (rw [ByteArray.size_append] at c10; exact c10) | (have z_ := c10; rw [ByteArray.size_append] at z_; have z2_ : (⟨#[]⟩ : ByteArray).size = 0 := rfl; omega))
                  refine hK.out _ _ ⟨v118, adz_v118, m8_, (by rw [ha.out]; exact putSel_upk 0 hb_ rfl rfl rfl), Q_HB, Q_HO119, Q_HA_HO119, Q_X8_⟩
                refine steps_cons ?_ ?_
                · rintro b a w' ⟨v118, adz_v118, m8_, ha, Q_HB, Q_HO119, Q_HA_HO119, Q_X8_⟩ hb_ hon hoff
                  refine ⟨_, rfl, fun K hK => ?_⟩
                  have e14 : a.tmps[14]? = some (.int .i64 (wrap64 (Int.tdiv (wrap64 (-a0)) 8))) := by rw [ha]; exact putSel_on (e := (2, 14, .int .i64 (wrap64 (Int.tdiv (wrap64 (-a0)) 8)))) 0 rfl rfl (hon 2 (by kernel_rfl)) rfl
                  replace ha := Aside0.mk ha
                  have HB := Aside0.mk Q_HB
                  refine goes_ Tryd.func15 (by kernel_rfl) rfl #[.int .i64 (wrap64 (Int.tdiv (wrap64 (-a0)) 8))] (by rfl) rfl rfl (by first | (simp only [List.map_toArray, List.map_cons, List.map_nil, Act.eval, Array.getD_eq_getD_getElem?, Option.getD_some, e14]; done) | (simp only [List.map_toArray, List.map_cons, List.map_nil, Act.eval, Array.getD_eq_getD_getElem?, Option.getD_some, e14]; rfl)) ?_
                  with_reducible refine (spec_FormatNumber.calls k (wrap64 (Int.tdiv (wrap64 (-a0)) 8)) t116 _ A5.out).mono ?_
                  rintro e w12 ⟨rfl, hb⟩
                  refine ⟨_, rfl, ?_⟩
                  have n0_ := Aside0.mk (below_step (by repeat (first | (with_reducible first | exact HB.out | apply below_alloc | apply pw_below_drewN | apply below_drew1) | exact HB.out)) hb)
                  have z_HO119 := fun (h0_ : b 5 = true) => (show Kd.R Kd.string 9 w12 w.heap.size (fun _ => True) v118 y117 from by first | exact (Kd.R_below (by (with_reducible repeat (first | apply Kd.R_alloc | apply Kd.R_drewN | apply Kd.R_drew)); exact (Q_HO119 h0_)) hb) | exact Kd.R_mono (Kd.R_below (by (with_reducible repeat (first | apply Kd.R_alloc | apply Kd.R_drewN | apply Kd.R_drew)); exact (Q_HO119 h0_)) hb) (fun _ h_ => by first | trivial | exact h_ | exact h_.1))
                  clear HB
                  have HB := n0_
                  clear n0_
                  (try clear hb)
                  (try clear hb2)
                  (try clear hk)
                  (try clear hi)
                  refine hK.out _ _ ⟨v118, adz_v118, m8_, (by rw [ha.out]; exact putSel_upk 1 hb_ rfl rfl rfl), (by repeat (first | (with_reducible first | exact HB.out | apply below_alloc | apply pw_below_drewN | apply below_drew1) | exact HB.out)), z_HO119, Q_HA_HO119, Q_X8_⟩
                refine steps_cons ?_ ?_
                · rintro b a w' ⟨v118, adz_v118, m8_, ha, Q_HB, Q_HO119, Q_HA_HO119, Q_X8_⟩ hb_ hon hoff
                  refine ⟨_, rfl, fun K hK => ?_⟩
                  have e12 : a.tmps[12]? = some (.string (⟨#[45]⟩ : ByteArray)) := by rw [ha]; exact (putSel_off rfl).trans rfl
                  have e15 : a.tmps[15]? = some (.string t116) := by rw [ha]; exact putSel_on (e := (3, 15, .string t116)) 1 rfl rfl (hon 3 (by kernel_rfl)) rfl
                  replace ha := Aside0.mk ha
                  have HB := Aside0.mk Q_HB
                  refine value_ (w1 := w') (v := .string ((⟨#[45]⟩ : ByteArray) ++ t116)) (by rfl) rfl ?_ ?_
                  · go_simp
                    (try simp only [i64_w])
                    try rfl
                    try (first | omega | (rw [ByteArray.size_append] at c10; exact c10) | (have z_ := c10; rw [ByteArray.size_append] at z_; have z2_ : (⟨#[]⟩ : ByteArray).size = 0 := rfl; omega))
                  refine hK.out _ _ ⟨v118, adz_v118, m8_, (by rw [ha.out]; exact putSel_upk 2 hb_ rfl rfl rfl), Q_HB, Q_HO119, Q_HA_HO119, Q_X8_⟩
                refine steps_cons ?_ ?_
                · rintro b a w' ⟨v118, adz_v118, m8_, ha, Q_HB, Q_HO119, Q_HA_HO119, Q_X8_⟩ hb_ hon hoff
                  refine ⟨_, rfl, fun K hK => ?_⟩
                  replace ha := Aside0.mk ha
                  have HB := Aside0.mk Q_HB
                  refine Kd.R_lit_step Kd.string _ 9 ?hg (N := 17) ?hd (xs := ([(⟨#[]⟩ : ByteArray), (⟨#[46, 49, 50, 53]⟩ : ByteArray), (⟨#[46, 50, 53]⟩ : ByteArray), (⟨#[46, 51, 55, 53]⟩ : ByteArray), (⟨#[46, 53]⟩ : ByteArray), (⟨#[46, 54, 50, 53]⟩ : ByteArray), (⟨#[46, 55, 53]⟩ : ByteArray), (⟨#[46, 56, 55, 53]⟩ : ByteArray)] : List ByteArray)) (inner := [.string (⟨#[]⟩ : ByteArray), .string (⟨#[46, 49, 50, 53]⟩ : ByteArray), .string (⟨#[46, 50, 53]⟩ : ByteArray), .string (⟨#[46, 51, 55, 53]⟩ : ByteArray), .string (⟨#[46, 53]⟩ : ByteArray), .string (⟨#[46, 54, 50, 53]⟩ : ByteArray), .string (⟨#[46, 55, 53]⟩ : ByteArray), .string (⟨#[46, 56, 55, 53]⟩ : ByteArray)]) (ok := fun _ => True) (okp := fun _ => True) ?hr ?hp (fun _ hk => hk) trivial (Below.refl _ _) (Nat.le_refl _) (by simp) ?_; (case hd => rfl); (case hg => rfl); (case hr => first | (go_simp; done) | (go_simp; rfl)); (case hp => exact (Reps.one (show Kd.M Kd.string _ _ _ (⟨#[]⟩ : ByteArray) [.string (⟨#[]⟩ : ByteArray)] from rfl) (Reps.one (show Kd.M Kd.string _ _ _ (⟨#[46, 49, 50, 53]⟩ : ByteArray) [.string (⟨#[46, 49, 50, 53]⟩ : ByteArray)] from rfl) (Reps.one (show Kd.M Kd.string _ _ _ (⟨#[46, 50, 53]⟩ : ByteArray) [.string (⟨#[46, 50, 53]⟩ : ByteArray)] from rfl) (Reps.one (show Kd.M Kd.string _ _ _ (⟨#[46, 51, 55, 53]⟩ : ByteArray) [.string (⟨#[46, 51, 55, 53]⟩ : ByteArray)] from rfl) (Reps.one (show Kd.M Kd.string _ _ _ (⟨#[46, 53]⟩ : ByteArray) [.string (⟨#[46, 53]⟩ : ByteArray)] from rfl) (Reps.one (show Kd.M Kd.string _ _ _ (⟨#[46, 54, 50, 53]⟩ : ByteArray) [.string (⟨#[46, 54, 50, 53]⟩ : ByteArray)] from rfl) (Reps.one (show Kd.M Kd.string _ _ _ (⟨#[46, 55, 53]⟩ : ByteArray) [.string (⟨#[46, 55, 53]⟩ : ByteArray)] from rfl) (Reps.one (show Kd.M Kd.string _ _ _ (⟨#[46, 56, 55, 53]⟩ : ByteArray) [.string (⟨#[46, 56, 55, 53]⟩ : ByteArray)] from rfl) (Reps.none _ _))))))))))
                  intro v118 w12 ho13 hb hg_ hnew_
                  clear hg_ hnew_
                  (first | rw [← Ny117.out] at ho13 | (simp only [Int.reduceToNat] at ho13; rw [← Ny117.out] at ho13))
                  have n0_ := Aside0.mk (Kd.R_lower ho13 (below_size (by repeat (first | (with_reducible first | exact HB.out | apply below_alloc | apply pw_below_drewN | apply below_drew1) | exact HB.out))))
                  have n1_ := Aside0.mk (below_step (by repeat (first | (with_reducible first | exact HB.out | apply below_alloc | apply pw_below_drewN | apply below_drew1) | exact HB.out)) hb)
                  clear HB
                  have HO119 := n0_
                  have HB := n1_
                  clear n0_ n1_
                  clear hb ho13
                  obtain ⟨Ao14, co14, eo14⟩ := Kd.R_slice HO119.out
                  subst eo14
                  obtain ⟨ado14, fo14, _⟩ := Kd.at_string (Kd.R_reads' HO119.out).2.2 0 (by decide) (by rw [Ny117.out]; simp)
                  cases fo14
                  refine hK.out _ _ ⟨.slice (some ado14) y117.length co14, ado14, m8_, (by rw [ha.out]; exact putSel_upk 3 hb_ rfl rfl rfl), (by repeat (first | (with_reducible first | exact HB.out | apply below_alloc | apply pw_below_drewN | apply below_drew1) | exact HB.out)), fun _ => (by (with_reducible repeat (first | apply Kd.R_alloc | apply Kd.R_drewN | apply Kd.R_drew)); exact HO119.out), fun _ => ⟨_, rfl⟩, fun h0_ => absurd ((hoff 8 (by kernel_rfl)).symm.trans h0_) (by decide)⟩
                refine steps_cons ?_ ?_
                · rintro b a w' ⟨v118, adz_v118, m8_, ha, Q_HB, Q_HO119, Q_HA_HO119, Q_X8_⟩ hb_ hon hoff
                  refine ⟨_, rfl, fun K hK => ?_⟩
                  have e18 : a.tmps[18]? = some (.int .i64 (wrap64 (-a0))) := by rw [ha]; exact (putSel_off rfl).trans rfl
                  replace ha := Aside0.mk ha
                  have HB := Aside0.mk Q_HB
                  refine value_ (w1 := w') (v := .int .i64 ji7) (by rfl) rfl ?_ ?_
                  · go_simp
                    (try simp only [i64_w])
                    try rfl
                    try (first | omega | (rw [ByteArray.size_append] at c10; exact c10) | (have z_ := c10; rw [ByteArray.size_append] at z_; have z2_ : (⟨#[]⟩ : ByteArray).size = 0 := rfl; omega))
                  refine hK.out _ _ ⟨v118, adz_v118, m8_, (by rw [ha.out]; exact putSel_upk 4 hb_ rfl rfl rfl), Q_HB, Q_HO119, Q_HA_HO119, fun h0_ => absurd ((hoff 8 (by kernel_rfl)).symm.trans h0_) (by decide)⟩
                refine steps_cons ?_ ?_
                · rintro b a w' ⟨v118, adz_v118, m8_, ha, Q_HB, Q_HO119, Q_HA_HO119, Q_X8_⟩ hb_ hon hoff
                  refine ⟨_, rfl, fun K hK => ?_⟩
                  have e17 : a.tmps[17]? = some (v118) := by rw [ha]; exact putSel_on (e := (5, 17, v118)) 3 rfl rfl (hon 5 (by kernel_rfl)) rfl
                  have e19 : a.tmps[19]? = some (.int .i64 ji7) := by rw [ha]; exact putSel_on (e := (7, 19, .int .i64 ji7)) 4 rfl rfl (hon 7 (by kernel_rfl)) rfl
                  replace ha := Aside0.mk ha
                  have HB := Aside0.mk Q_HB
                  have HO119 := Aside0.mk (Q_HO119 (hon 5 (by kernel_rfl)))
                  have HA_HO119 := Aside0.mk (Q_HA_HO119 (hon 5 (by kernel_rfl)))
                  obtain ⟨c_, hv_⟩ := HA_HO119.out
                  rw [hv_] at e17
                  refine value_ (w1 := w') (v := .pointer (some (adz_v118.add ((ji7)).toNat))) (by rfl) rfl ?_ ?_
                  · go_simp
                    (try simp only [i64_w])
                    try rfl
                    try (first | omega | (rw [ByteArray.size_append] at c10; exact c10) | (have z_ := c10; rw [ByteArray.size_append] at z_; have z2_ : (⟨#[]⟩ : ByteArray).size = 0 := rfl; omega))
                  refine hK.out _ _ ⟨v118, adz_v118, (.pointer (some (adz_v118.add ((ji7)).toNat))), (by rw [ha.out]; exact putSel_upk 5 hb_ rfl rfl rfl), Q_HB, Q_HO119, Q_HA_HO119, fun _ => rfl⟩
                refine steps_cons ?_ ?_
                · rintro b a w' ⟨v118, adz_v118, m8_, ha, Q_HB, Q_HO119, Q_HA_HO119, Q_X8_⟩ hb_ hon hoff
                  refine ⟨_, rfl, fun K hK => ?_⟩
                  have e20 : a.tmps[20]? = some (m8_) := by rw [ha]; exact putSel_on (e := (8, 20, m8_)) 5 rfl rfl (hon 8 (by kernel_rfl)) rfl
                  rw [Q_X8_ (hon 8 (by kernel_rfl))] at e20
                  replace ha := Aside0.mk ha
                  have HB := Aside0.mk Q_HB
                  have HO119 := Aside0.mk (Q_HO119 (hon 5 (by kernel_rfl)))
                  have HA_HO119 := Aside0.mk (Q_HA_HO119 (hon 5 (by kernel_rfl)))
                  obtain ⟨c_, hv_⟩ := HA_HO119.out
                  have hF_ := HO119.out
                  rw [hv_] at hF_
                  obtain ⟨ad_, ea_, hx_⟩ := Kd.at_string (Kd.R_reads' hF_).2.2 (ji7) (of_eq_true pi120) (of_eq_true qi120)
                  cases ea_
                  refine value_ (w1 := w') (v := .string (rdOf ByteArray.empty y117 (ji7))) (by rfl) rfl ?_ ?_
                  · go_simp
                    (try simp only [i64_w])
                    try rfl
                    try (first | omega | (rw [ByteArray.size_append] at c10; exact c10) | (have z_ := c10; rw [ByteArray.size_append] at z_; have z2_ : (⟨#[]⟩ : ByteArray).size = 0 := rfl; omega))
                  refine hK.out _ _ ⟨v118, adz_v118, m8_, (by rw [ha.out]; exact putSel_upk 6 hb_ rfl rfl rfl), Q_HB, Q_HO119, Q_HA_HO119, Q_X8_⟩
                refine steps_cons ?_ ?_
                · rintro b a w' ⟨v118, adz_v118, m8_, ha, Q_HB, Q_HO119, Q_HA_HO119, Q_X8_⟩ hb_ hon hoff
                  refine ⟨_, rfl, fun K hK => ?_⟩
                  have e16 : a.tmps[16]? = some (.string ((⟨#[45]⟩ : ByteArray) ++ t116)) := by rw [ha]; exact putSel_on (e := (4, 16, .string ((⟨#[45]⟩ : ByteArray) ++ t116))) 2 rfl rfl (hon 4 (by kernel_rfl)) rfl
                  have e21 : a.tmps[21]? = some (.string (rdOf ByteArray.empty y117 (ji7))) := by rw [ha]; exact putSel_on (e := (9, 21, .string (rdOf ByteArray.empty y117 (ji7)))) 6 rfl rfl (hon 9 (by kernel_rfl)) rfl
                  replace ha := Aside0.mk ha
                  have HB := Aside0.mk Q_HB
                  have HO119 := Aside0.mk (Q_HO119 (hon 5 (by kernel_rfl)))
                  have HA_HO119 := Aside0.mk (Q_HA_HO119 (hon 5 (by kernel_rfl)))
                  refine value_ (w1 := w') (v := .string (((⟨#[45]⟩ : ByteArray) ++ t116) ++ (rdOf ByteArray.empty y117 (ji7)))) (by rfl) rfl ?_ ?_
                  · go_simp
                    (try simp only [i64_w])
                    try rfl
                    try (first | omega | (rw [ByteArray.size_append] at c10; exact c10) | (have z_ := c10; rw [ByteArray.size_append] at z_; have z2_ : (⟨#[]⟩ : ByteArray).size = 0 := rfl; omega))
                  refine hK.out _ _ ⟨v118, adz_v118, m8_, (by rw [ha.out]; exact putSel_upk 7 hb_ rfl rfl rfl), Q_HB, Q_HO119, Q_HA_HO119, Q_X8_⟩
                refine steps_cons ?_ ?_
                · rintro b a w' ⟨v118, adz_v118, m8_, ha, Q_HB, Q_HO119, Q_HA_HO119, Q_X8_⟩ hb_ hon hoff
                  refine ⟨_, rfl, fun K hK => ?_⟩
                  have e22 : a.tmps[22]? = some (.string (((⟨#[45]⟩ : ByteArray) ++ t116) ++ (rdOf ByteArray.empty y117 (ji7)))) := by rw [ha]; exact putSel_on (e := (10, 22, .string (((⟨#[45]⟩ : ByteArray) ++ t116) ++ (rdOf ByteArray.empty y117 (ji7))))) 7 rfl rfl (hon 10 (by kernel_rfl)) rfl
                  replace ha := Aside0.mk ha
                  have HB := Aside0.mk Q_HB
                  have HO119 := Aside0.mk (Q_HO119 (hon 5 (by kernel_rfl)))
                  have HA_HO119 := Aside0.mk (Q_HA_HO119 (hon 5 (by kernel_rfl)))
                  refine value_ (w1 := w') (v := .string (((⟨#[45]⟩ : ByteArray) ++ t116) ++ (rdOf ByteArray.empty y117 (ji7)))) (by rfl) rfl ?_ ?_
                  · go_simp
                    (try simp only [i64_w])
                    try rfl
                    try (first | omega | (rw [ByteArray.size_append] at c10; exact c10) | (have z_ := c10; rw [ByteArray.size_append] at z_; have z2_ : (⟨#[]⟩ : ByteArray).size = 0 := rfl; omega))
                  refine hK.out _ _ ⟨v118, adz_v118, m8_, (by rw [ha.out]; exact putSel_upk 8 hb_ rfl rfl rfl), Q_HB, Q_HO119, Q_HA_HO119, Q_X8_⟩
                exact steps_nil
              rintro b a w16 hall ⟨v118, adz_v118, m8_, ha, Q_HB, Q_HO119, Q_HA_HO119, Q_X8_⟩
              clear HB
              have hb2_ := hall 2 (by kernel_rfl)
              have hb3_ := hall 3 (by kernel_rfl)
              have hb4_ := hall 4 (by kernel_rfl)
              have hb5_ := hall 5 (by kernel_rfl)
              have hb7_ := hall 7 (by kernel_rfl)
              have hb8_ := hall 8 (by kernel_rfl)
              have hb9_ := hall 9 (by kernel_rfl)
              have hb10_ := hall 10 (by kernel_rfl)
              have hb11_ := hall 11 (by kernel_rfl)
              subst ha
              obtain rfl := Q_X8_ hb8_
              simp only [putSel, hb2_, hb3_, hb4_, hb5_, hb7_, hb8_, hb9_, hb10_, hb11_, if_true, Act.put, List.setIfInBounds_toArray, List.set_cons_zero, List.set_cons_succ]
              have HB := Aside0.mk Q_HB
              clear Q_HB
              have HO119 := Aside0.mk (Q_HO119 hb5_)
              clear Q_HO119
              have HA_HO119 := Aside0.mk (Q_HA_HO119 hb5_)
              clear Q_HA_HO119
              clear hall hb2_ hb3_ hb4_ hb5_ hb7_ hb8_ hb9_ hb10_ hb11_
              obtain ⟨co17, eo17⟩ := HA_HO119.out
              clear HA_HO119
              subst eo17
              try go_wp2
              go_ret
              exact ⟨by first | rfl | (simp [errW_none, errW_some] <;> rfl) | (simp only [← hji7]; first | rfl | (simp [errW_none, errW_some] <;> rfl)) | (simp [*, errW_none, errW_some] <;> rfl), by repeat (first | (with_reducible first | exact HB.out | apply below_alloc | apply pw_below_drewN | apply below_drew1) | exact HB.out)⟩
            · rw [if_neg c10] at H
              exact absurd H (by simp)
          · rw [if_neg c9] at H
            exact absurd H (by simp)
        · rw [if_neg c8] at H
          exact absurd H (by simp)
      · rw [if_neg c6] at H
        exact absurd H (by simp)
    · rw [if_neg c4] at H
      have c4b0 : decide (a0 < 0) = false := decide_eq_false c4
      clear c4
      replace H := Option.bind_eq_some_iff.mp H
      obtain ⟨t121, A180, H⟩ := H
      replace H : (if 0 + t121.size ≤ 9223372036854775807 then ((some (([(⟨#[]⟩ : ByteArray), (⟨#[46, 49, 50, 53]⟩ : ByteArray), (⟨#[46, 50, 53]⟩ : ByteArray), (⟨#[46, 51, 55, 53]⟩ : ByteArray), (⟨#[46, 53]⟩ : ByteArray), (⟨#[46, 54, 50, 53]⟩ : ByteArray), (⟨#[46, 55, 53]⟩ : ByteArray), (⟨#[46, 56, 55, 53]⟩ : ByteArray)] : List ByteArray) : List ByteArray)).bind fun y122 => (if 0 ≤ (Int.tmod a0 8) then (if (Int.tmod a0 8) < (y122.length : Int) then (if ((⟨#[]⟩ : ByteArray) ++ t121).size + (rdOf ByteArray.empty y122 (Int.tmod a0 8)).size ≤ 9223372036854775807 then (some (((⟨#[]⟩ : ByteArray) ++ t121) ++ (rdOf ByteArray.empty y122 (Int.tmod a0 8)))) else (none)) else (none)) else (none))) else (none)) = some r := H
      have A18 := Aside0.mk A180
      clear A180
      by_cases c19 : 0 + t121.size ≤ 9223372036854775807
      · rw [if_pos c19] at H
        have c19b0 := eq_true c19
        have c19b1 : decide (0 + t121.size ≤ 9223372036854775807) = true := decide_eq_true c19
        try have c19b2 : (9223372036854775807 < 0 + t121.size) = False := eq_false (Nat.not_lt.2 c19)
        obtain ⟨y122, hy122⟩ : ∃ y_ : List ByteArray, y_ = (([(⟨#[]⟩ : ByteArray), (⟨#[46, 49, 50, 53]⟩ : ByteArray), (⟨#[46, 50, 53]⟩ : ByteArray), (⟨#[46, 51, 55, 53]⟩ : ByteArray), (⟨#[46, 53]⟩ : ByteArray), (⟨#[46, 54, 50, 53]⟩ : ByteArray), (⟨#[46, 55, 53]⟩ : ByteArray), (⟨#[46, 56, 55, 53]⟩ : ByteArray)] : List ByteArray)) := ⟨_, rfl⟩
        replace H : (if 0 ≤ (Int.tmod a0 8) then (if (Int.tmod a0 8) < (y122.length : Int) then (if ((⟨#[]⟩ : ByteArray) ++ t121).size + (rdOf ByteArray.empty y122 (Int.tmod a0 8)).size ≤ 9223372036854775807 then (some (((⟨#[]⟩ : ByteArray) ++ t121) ++ (rdOf ByteArray.empty y122 (Int.tmod a0 8)))) else (none)) else (none)) else (none)) = some r := by first | (rw [hy122]; with_reducible exact H) | (have H2_ := (Option.bind_some _ _).symm.trans H; rw [hy122]; with_reducible exact H2_) | (have H2_ := (Option.bind_some _ _).symm.trans H; with_reducible exact H2_) | with_reducible exact H | (rw [hy122]; exact H) | exact H
        have Ny122 := Aside0.mk hy122
        clear hy122
        obtain ⟨ji20, hji20⟩ : ∃ j_ : Int, (Int.tmod a0 8) = j_ := ⟨_, rfl⟩
        replace H : (if 0 ≤ (ji20) then (if (ji20) < (y122.length : Int) then (if ((⟨#[]⟩ : ByteArray) ++ t121).size + (rdOf ByteArray.empty y122 (ji20)).size ≤ 9223372036854775807 then (some (((⟨#[]⟩ : ByteArray) ++ t121) ++ (rdOf ByteArray.empty y122 (ji20)))) else (none)) else (none)) else (none)) = some r := by first | (rw [hji20] at H; exact H) | (simp only [hji20] at H ⊢; exact H)
        (try rw [hji20] at A2)
        (try rw [hji20] at A18)
        by_cases c21 : 0 ≤ (ji20)
        · rw [if_pos c21] at H
          have c21b0 : decide (0 ≤ (ji20)) = true := decide_eq_true c21
          clear c21
          by_cases c22 : (ji20) < (y122.length : Int)
          · rw [if_pos c22] at H
            have c22b0 : decide ((ji20) < (y122.length : Int)) = true := decide_eq_true c22
            clear c22
            by_cases c23 : ((⟨#[]⟩ : ByteArray) ++ t121).size + (rdOf ByteArray.empty y122 (ji20)).size ≤ 9223372036854775807
            · rw [if_pos c23] at H
              have c23b0 := eq_true c23
              have c23b1 : decide (((⟨#[]⟩ : ByteArray) ++ t121).size + (rdOf ByteArray.empty y122 (ji20)).size ≤ 9223372036854775807) = true := decide_eq_true c23
              try have c23b2 : (9223372036854775807 < ((⟨#[]⟩ : ByteArray) ++ t121).size + (rdOf ByteArray.empty y122 (ji20)).size) = False := eq_false (Nat.not_lt.2 c23)
              obtain rfl := Option.some.inj H
              go_enter Tryd.func22, Tryd.ntmps22
              try go_wp2_with (first | ((with_reducible refine gate_callee (f := 46) rfl ?_); refine goesL_ (some 5) rfl rfl Tryd.func46 (by kernel_rfl) rfl #[.int .i64 a0] rfl (by (try simp only [List.map_toArray, List.map_cons, List.map_nil]); first | done | rfl | (simp only [List.length_drop, List.length_take]; rfl)) ?_; (with_reducible refine (spec_IsMeasure.calls a0 true _ A2.out).mono ?_); rintro e w' ⟨rfl, ⟨nd, rfl⟩⟩; refine ⟨_, rfl, ?_⟩))
              have pi125 : (0 ≤ ((ji20) : Int)) = True := eq_true (of_decide_eq_true (by first | (with_reducible assumption) | assumption))
              have qi125 : ((ji20) < (y122.length : Int)) = True := eq_true (of_decide_eq_true (by first | (with_reducible assumption) | assumption))
              have n0_ := Aside0.mk (below_drew1 (pw_below_drewN HB.out nd))
              clear HB
              have HB := n0_
              clear n0_
              refine start_ (n := 12) (S := fun w' => True) (ds := []) #[false, false, false, false, false, false, false, false, false, false, false, false] (by kernel_rfl) rfl rfl trivial (fun hHeld => ?_); refine with_tabW spec_FormatMeasure.tab7 spec_FormatMeasure.bits7 (fun HT_ HW_ => ?_)
              generalize (w.drewN nd).drew = w24 at HB hHeld ⊢
              refine pure_ (i := 0) (N := some 12) (v := ?_) (a' := ?_) #[true, false, false, false, false, false, false, false, false, false, false, false] rfl rfl (any_of HT_.out (by kernel_rfl)) (fun _ _ _ h => h) (Or.inl ⟨by rfl, ?_⟩) ?_ ?_
              rotate_left
              · intro w'
                go_simp
                with_reducible rfl
              rotate_left
              · simp only [Act.put, List.setIfInBounds_toArray, List.set_cons_zero, List.set_cons_succ, i64_w, i32_w]
                rfl
              refine pure_ (i := 1) (N := some 13) (v := ?_) (a' := ?_) #[true, true, false, false, false, false, false, false, false, false, false, false] rfl rfl (any_of HT_.out (by kernel_rfl)) (fun _ _ _ h => h) (Or.inl ⟨by rfl, ?_⟩) ?_ ?_
              rotate_left
              · intro w'
                go_simp
                with_reducible rfl
              rotate_left
              · simp only [Act.put, List.setIfInBounds_toArray, List.set_cons_zero, List.set_cons_succ, i64_w, i32_w]
                rfl
              refine pure_ (i := 6) (N := some 18) (v := ?_) (a' := ?_) #[true, true, false, false, false, false, true, false, false, false, false, false] rfl rfl (any_of HT_.out (by kernel_rfl)) (fun _ _ _ h => h) (Or.inl ⟨by rfl, ?_⟩) ?_ ?_
              rotate_left
              · intro w'
                go_simp
                with_reducible rfl
              rotate_left
              · simp only [Act.put, List.setIfInBounds_toArray, List.set_cons_zero, List.set_cons_succ, i64_w, i32_w]
                rfl
              refine inv_at [2, 3, 4, 5, 7, 8, 9, 10, 11] (fun a0_ b a w' => ∃ (v123 : Value) (adz_v123 : Addr) (m8_ : Value), a = putSel a0_ b [(2, 14, .int .i64 (wrap64 (Int.tdiv a0 8))), (3, 15, .string t121), (4, 16, .string ((⟨#[]⟩ : ByteArray) ++ t121)), (5, 17, v123), (7, 19, .int .i64 ji20), (8, 20, m8_), (9, 21, .string (rdOf ByteArray.empty y122 (ji20))), (10, 22, .string (((⟨#[]⟩ : ByteArray) ++ t121) ++ (rdOf ByteArray.empty y122 (ji20)))), (11, 2, .string (((⟨#[]⟩ : ByteArray) ++ t121) ++ (rdOf ByteArray.empty y122 (ji20))))] ∧ (Below w.heap.size w w') ∧ (b 5 = true → Kd.R Kd.string 9 w' w.heap.size (fun _ => True) v123 y122) ∧ (b 5 = true → ∃ c_, (v123 : Value) = .slice (some adz_v123) y122.length c_) ∧ (b 8 = true → (m8_ : Value) = .pointer (some (adz_v123.add ((ji20)).toNat)))) HT_.out HW_.out (by kernel_rfl) (by kernel_rfl) ?_ ?_ ?_
              · exact ⟨.bool false, ⟨0, 0, none⟩, .bool false, by simp only [putSel, Bool.false_eq_true, if_false], HB.out, fun h_ => absurd h_ (by decide), fun h_ => absurd h_ (by decide), fun h_ => absurd h_ (by decide)⟩
              · skip
                clear HB
                refine steps_cons ?_ ?_
                · rintro b a w' ⟨v123, adz_v123, m8_, ha, Q_HB, Q_HO124, Q_HA_HO124, Q_X8_⟩ hb_ hon hoff
                  refine ⟨_, rfl, fun K hK => ?_⟩
                  have e13 : a.tmps[13]? = some (.int .i64 a0) := by rw [ha]; exact (putSel_off rfl).trans rfl
                  replace ha := Aside0.mk ha
                  have HB := Aside0.mk Q_HB
                  refine value_ (w1 := w') (v := .int .i64 (wrap64 (Int.tdiv a0 8))) (by rfl) rfl ?_ ?_
                  · go_simp
                    (try simp only [i64_w])
                    try rfl
                    try (first | omega | (rw [ByteArray.size_append] at c23; exact c23) | (have z_ := c23; rw [ByteArray.size_append] at z_; have z2_ : (⟨#[]⟩ : ByteArray).size = 0 := rfl; omega))
                  refine hK.out _ _ ⟨v123, adz_v123, m8_, (by rw [ha.out]; exact putSel_upk 0 hb_ rfl rfl rfl), Q_HB, Q_HO124, Q_HA_HO124, Q_X8_⟩
                refine steps_cons ?_ ?_
                · rintro b a w' ⟨v123, adz_v123, m8_, ha, Q_HB, Q_HO124, Q_HA_HO124, Q_X8_⟩ hb_ hon hoff
                  refine ⟨_, rfl, fun K hK => ?_⟩
                  have e14 : a.tmps[14]? = some (.int .i64 (wrap64 (Int.tdiv a0 8))) := by rw [ha]; exact putSel_on (e := (2, 14, .int .i64 (wrap64 (Int.tdiv a0 8)))) 0 rfl rfl (hon 2 (by kernel_rfl)) rfl
                  replace ha := Aside0.mk ha
                  have HB := Aside0.mk Q_HB
                  refine goes_ Tryd.func15 (by kernel_rfl) rfl #[.int .i64 (wrap64 (Int.tdiv a0 8))] (by rfl) rfl rfl (by first | (simp only [List.map_toArray, List.map_cons, List.map_nil, Act.eval, Array.getD_eq_getD_getElem?, Option.getD_some, e14]; done) | (simp only [List.map_toArray, List.map_cons, List.map_nil, Act.eval, Array.getD_eq_getD_getElem?, Option.getD_some, e14]; rfl)) ?_
                  with_reducible refine (spec_FormatNumber.calls k (wrap64 (Int.tdiv a0 8)) t121 _ A18.out).mono ?_
                  rintro e w25 ⟨rfl, hb⟩
                  refine ⟨_, rfl, ?_⟩
                  have n0_ := Aside0.mk (below_step (by repeat (first | (with_reducible first | exact HB.out | apply below_alloc | apply pw_below_drewN | apply below_drew1) | exact HB.out)) hb)
                  have z_HO124 := fun (h0_ : b 5 = true) => (show Kd.R Kd.string 9 w25 w.heap.size (fun _ => True) v123 y122 from by first | exact (Kd.R_below (by (with_reducible repeat (first | apply Kd.R_alloc | apply Kd.R_drewN | apply Kd.R_drew)); exact (Q_HO124 h0_)) hb) | exact Kd.R_mono (Kd.R_below (by (with_reducible repeat (first | apply Kd.R_alloc | apply Kd.R_drewN | apply Kd.R_drew)); exact (Q_HO124 h0_)) hb) (fun _ h_ => by first | trivial | exact h_ | exact h_.1))
                  clear HB
                  have HB := n0_
                  clear n0_
                  (try clear hb)
                  (try clear hb2)
                  (try clear hk)
                  (try clear hi)
                  refine hK.out _ _ ⟨v123, adz_v123, m8_, (by rw [ha.out]; exact putSel_upk 1 hb_ rfl rfl rfl), (by repeat (first | (with_reducible first | exact HB.out | apply below_alloc | apply pw_below_drewN | apply below_drew1) | exact HB.out)), z_HO124, Q_HA_HO124, Q_X8_⟩
                refine steps_cons ?_ ?_
                · rintro b a w' ⟨v123, adz_v123, m8_, ha, Q_HB, Q_HO124, Q_HA_HO124, Q_X8_⟩ hb_ hon hoff
                  refine ⟨_, rfl, fun K hK => ?_⟩
                  have e12 : a.tmps[12]? = some (.string (⟨#[]⟩ : ByteArray)) := by rw [ha]; exact (putSel_off rfl).trans rfl
                  have e15 : a.tmps[15]? = some (.string t121) := by rw [ha]; exact putSel_on (e := (3, 15, .string t121)) 1 rfl rfl (hon 3 (by kernel_rfl)) rfl
                  replace ha := Aside0.mk ha
                  have HB := Aside0.mk Q_HB
                  refine value_ (w1 := w') (v := .string ((⟨#[]⟩ : ByteArray) ++ t121)) (by rfl) rfl ?_ ?_
                  · go_simp
                    (try simp only [i64_w])
                    try rfl
                    try (first | omega | (rw [ByteArray.size_append] at c23; exact c23) | (have z_ := c23; rw [ByteArray.size_append] at z_; have z2_ : (⟨#[]⟩ : ByteArray).size = 0 := rfl; omega))
                  refine hK.out _ _ ⟨v123, adz_v123, m8_, (by rw [ha.out]; exact putSel_upk 2 hb_ rfl rfl rfl), Q_HB, Q_HO124, Q_HA_HO124, Q_X8_⟩
                refine steps_cons ?_ ?_
                · rintro b a w' ⟨v123, adz_v123, m8_, ha, Q_HB, Q_HO124, Q_HA_HO124, Q_X8_⟩ hb_ hon hoff
                  refine ⟨_, rfl, fun K hK => ?_⟩
                  replace ha := Aside0.mk ha
                  have HB := Aside0.mk Q_HB
                  refine Kd.R_lit_step Kd.string _ 9 ?hg (N := 17) ?hd (xs := ([(⟨#[]⟩ : ByteArray), (⟨#[46, 49, 50, 53]⟩ : ByteArray), (⟨#[46, 50, 53]⟩ : ByteArray), (⟨#[46, 51, 55, 53]⟩ : ByteArray), (⟨#[46, 53]⟩ : ByteArray), (⟨#[46, 54, 50, 53]⟩ : ByteArray), (⟨#[46, 55, 53]⟩ : ByteArray), (⟨#[46, 56, 55, 53]⟩ : ByteArray)] : List ByteArray)) (inner := [.string (⟨#[]⟩ : ByteArray), .string (⟨#[46, 49, 50, 53]⟩ : ByteArray), .string (⟨#[46, 50, 53]⟩ : ByteArray), .string (⟨#[46, 51, 55, 53]⟩ : ByteArray), .string (⟨#[46, 53]⟩ : ByteArray), .string (⟨#[46, 54, 50, 53]⟩ : ByteArray), .string (⟨#[46, 55, 53]⟩ : ByteArray), .string (⟨#[46, 56, 55, 53]⟩ : ByteArray)]) (ok := fun _ => True) (okp := fun _ => True) ?hr ?hp (fun _ hk => hk) trivial (Below.refl _ _) (Nat.le_refl _) (by simp) ?_; (case hd => rfl); (case hg => rfl); (case hr => first | (go_simp; done) | (go_simp; rfl)); (case hp => exact (Reps.one (show Kd.M Kd.string _ _ _ (⟨#[]⟩ : ByteArray) [.string (⟨#[]⟩ : ByteArray)] from rfl) (Reps.one (show Kd.M Kd.string _ _ _ (⟨#[46, 49, 50, 53]⟩ : ByteArray) [.string (⟨#[46, 49, 50, 53]⟩ : ByteArray)] from rfl) (Reps.one (show Kd.M Kd.string _ _ _ (⟨#[46, 50, 53]⟩ : ByteArray) [.string (⟨#[46, 50, 53]⟩ : ByteArray)] from rfl) (Reps.one (show Kd.M Kd.string _ _ _ (⟨#[46, 51, 55, 53]⟩ : ByteArray) [.string (⟨#[46, 51, 55, 53]⟩ : ByteArray)] from rfl) (Reps.one (show Kd.M Kd.string _ _ _ (⟨#[46, 53]⟩ : ByteArray) [.string (⟨#[46, 53]⟩ : ByteArray)] from rfl) (Reps.one (show Kd.M Kd.string _ _ _ (⟨#[46, 54, 50, 53]⟩ : ByteArray) [.string (⟨#[46, 54, 50, 53]⟩ : ByteArray)] from rfl) (Reps.one (show Kd.M Kd.string _ _ _ (⟨#[46, 55, 53]⟩ : ByteArray) [.string (⟨#[46, 55, 53]⟩ : ByteArray)] from rfl) (Reps.one (show Kd.M Kd.string _ _ _ (⟨#[46, 56, 55, 53]⟩ : ByteArray) [.string (⟨#[46, 56, 55, 53]⟩ : ByteArray)] from rfl) (Reps.none _ _))))))))))
                  intro v123 w25 ho26 hb hg_ hnew_
                  clear hg_ hnew_
                  (first | rw [← Ny122.out] at ho26 | (simp only [Int.reduceToNat] at ho26; rw [← Ny122.out] at ho26))
                  have n0_ := Aside0.mk (Kd.R_lower ho26 (below_size (by repeat (first | (with_reducible first | exact HB.out | apply below_alloc | apply pw_below_drewN | apply below_drew1) | exact HB.out))))
                  have n1_ := Aside0.mk (below_step (by repeat (first | (with_reducible first | exact HB.out | apply below_alloc | apply pw_below_drewN | apply below_drew1) | exact HB.out)) hb)
                  clear HB
                  have HO124 := n0_
                  have HB := n1_
                  clear n0_ n1_
                  clear hb ho26
                  obtain ⟨Ao27, co27, eo27⟩ := Kd.R_slice HO124.out
                  subst eo27
                  obtain ⟨ado27, fo27, _⟩ := Kd.at_string (Kd.R_reads' HO124.out).2.2 0 (by decide) (by rw [Ny122.out]; simp)
                  cases fo27
                  refine hK.out _ _ ⟨.slice (some ado27) y122.length co27, ado27, m8_, (by rw [ha.out]; exact putSel_upk 3 hb_ rfl rfl rfl), (by repeat (first | (with_reducible first | exact HB.out | apply below_alloc | apply pw_below_drewN | apply below_drew1) | exact HB.out)), fun _ => (by (with_reducible repeat (first | apply Kd.R_alloc | apply Kd.R_drewN | apply Kd.R_drew)); exact HO124.out), fun _ => ⟨_, rfl⟩, fun h0_ => absurd ((hoff 8 (by kernel_rfl)).symm.trans h0_) (by decide)⟩
                refine steps_cons ?_ ?_
                · rintro b a w' ⟨v123, adz_v123, m8_, ha, Q_HB, Q_HO124, Q_HA_HO124, Q_X8_⟩ hb_ hon hoff
                  refine ⟨_, rfl, fun K hK => ?_⟩
                  have e18 : a.tmps[18]? = some (.int .i64 a0) := by rw [ha]; exact (putSel_off rfl).trans rfl
                  replace ha := Aside0.mk ha
                  have HB := Aside0.mk Q_HB
                  refine value_ (w1 := w') (v := .int .i64 ji20) (by rfl) rfl ?_ ?_
                  · go_simp
                    (try simp only [i64_w])
                    try rfl
                    try (first | omega | (rw [ByteArray.size_append] at c23; exact c23) | (have z_ := c23; rw [ByteArray.size_append] at z_; have z2_ : (⟨#[]⟩ : ByteArray).size = 0 := rfl; omega))
                  refine hK.out _ _ ⟨v123, adz_v123, m8_, (by rw [ha.out]; exact putSel_upk 4 hb_ rfl rfl rfl), Q_HB, Q_HO124, Q_HA_HO124, fun h0_ => absurd ((hoff 8 (by kernel_rfl)).symm.trans h0_) (by decide)⟩
                refine steps_cons ?_ ?_
                · rintro b a w' ⟨v123, adz_v123, m8_, ha, Q_HB, Q_HO124, Q_HA_HO124, Q_X8_⟩ hb_ hon hoff
                  refine ⟨_, rfl, fun K hK => ?_⟩
                  have e17 : a.tmps[17]? = some (v123) := by rw [ha]; exact putSel_on (e := (5, 17, v123)) 3 rfl rfl (hon 5 (by kernel_rfl)) rfl
                  have e19 : a.tmps[19]? = some (.int .i64 ji20) := by rw [ha]; exact putSel_on (e := (7, 19, .int .i64 ji20)) 4 rfl rfl (hon 7 (by kernel_rfl)) rfl
                  replace ha := Aside0.mk ha
                  have HB := Aside0.mk Q_HB
                  have HO124 := Aside0.mk (Q_HO124 (hon 5 (by kernel_rfl)))
                  have HA_HO124 := Aside0.mk (Q_HA_HO124 (hon 5 (by kernel_rfl)))
                  obtain ⟨c_, hv_⟩ := HA_HO124.out
                  rw [hv_] at e17
                  refine value_ (w1 := w') (v := .pointer (some (adz_v123.add ((ji20)).toNat))) (by rfl) rfl ?_ ?_
                  · go_simp
                    (try simp only [i64_w])
                    try rfl
                    try (first | omega | (rw [ByteArray.size_append] at c23; exact c23) | (have z_ := c23; rw [ByteArray.size_append] at z_; have z2_ : (⟨#[]⟩ : ByteArray).size = 0 := rfl; omega))
                  refine hK.out _ _ ⟨v123, adz_v123, (.pointer (some (adz_v123.add ((ji20)).toNat))), (by rw [ha.out]; exact putSel_upk 5 hb_ rfl rfl rfl), Q_HB, Q_HO124, Q_HA_HO124, fun _ => rfl⟩
                refine steps_cons ?_ ?_
                · rintro b a w' ⟨v123, adz_v123, m8_, ha, Q_HB, Q_HO124, Q_HA_HO124, Q_X8_⟩ hb_ hon hoff
                  refine ⟨_, rfl, fun K hK => ?_⟩
                  have e20 : a.tmps[20]? = some (m8_) := by rw [ha]; exact putSel_on (e := (8, 20, m8_)) 5 rfl rfl (hon 8 (by kernel_rfl)) rfl
                  rw [Q_X8_ (hon 8 (by kernel_rfl))] at e20
                  replace ha := Aside0.mk ha
                  have HB := Aside0.mk Q_HB
                  have HO124 := Aside0.mk (Q_HO124 (hon 5 (by kernel_rfl)))
                  have HA_HO124 := Aside0.mk (Q_HA_HO124 (hon 5 (by kernel_rfl)))
                  obtain ⟨c_, hv_⟩ := HA_HO124.out
                  have hF_ := HO124.out
                  rw [hv_] at hF_
                  obtain ⟨ad_, ea_, hx_⟩ := Kd.at_string (Kd.R_reads' hF_).2.2 (ji20) (of_eq_true pi125) (of_eq_true qi125)
                  cases ea_
                  refine value_ (w1 := w') (v := .string (rdOf ByteArray.empty y122 (ji20))) (by rfl) rfl ?_ ?_
                  · go_simp
                    (try simp only [i64_w])
                    try rfl
                    try (first | omega | (rw [ByteArray.size_append] at c23; exact c23) | (have z_ := c23; rw [ByteArray.size_append] at z_; have z2_ : (⟨#[]⟩ : ByteArray).size = 0 := rfl; omega))
                  refine hK.out _ _ ⟨v123, adz_v123, m8_, (by rw [ha.out]; exact putSel_upk 6 hb_ rfl rfl rfl), Q_HB, Q_HO124, Q_HA_HO124, Q_X8_⟩
                refine steps_cons ?_ ?_
                · rintro b a w' ⟨v123, adz_v123, m8_, ha, Q_HB, Q_HO124, Q_HA_HO124, Q_X8_⟩ hb_ hon hoff
                  refine ⟨_, rfl, fun K hK => ?_⟩
                  have e16 : a.tmps[16]? = some (.string ((⟨#[]⟩ : ByteArray) ++ t121)) := by rw [ha]; exact putSel_on (e := (4, 16, .string ((⟨#[]⟩ : ByteArray) ++ t121))) 2 rfl rfl (hon 4 (by kernel_rfl)) rfl
                  have e21 : a.tmps[21]? = some (.string (rdOf ByteArray.empty y122 (ji20))) := by rw [ha]; exact putSel_on (e := (9, 21, .string (rdOf ByteArray.empty y122 (ji20)))) 6 rfl rfl (hon 9 (by kernel_rfl)) rfl
                  replace ha := Aside0.mk ha
                  have HB := Aside0.mk Q_HB
                  have HO124 := Aside0.mk (Q_HO124 (hon 5 (by kernel_rfl)))
                  have HA_HO124 := Aside0.mk (Q_HA_HO124 (hon 5 (by kernel_rfl)))
                  refine value_ (w1 := w') (v := .string (((⟨#[]⟩ : ByteArray) ++ t121) ++ (rdOf ByteArray.empty y122 (ji20)))) (by rfl) rfl ?_ ?_
                  · go_simp
                    (try simp only [i64_w])
                    try rfl
                    try (first | omega | (rw [ByteArray.size_append] at c23; exact c23) | (have z_ := c23; rw [ByteArray.size_append] at z_; have z2_ : (⟨#[]⟩ : ByteArray).size = 0 := rfl; omega))
                  refine hK.out _ _ ⟨v123, adz_v123, m8_, (by rw [ha.out]; exact putSel_upk 7 hb_ rfl rfl rfl), Q_HB, Q_HO124, Q_HA_HO124, Q_X8_⟩
                refine steps_cons ?_ ?_
                · rintro b a w' ⟨v123, adz_v123, m8_, ha, Q_HB, Q_HO124, Q_HA_HO124, Q_X8_⟩ hb_ hon hoff
                  refine ⟨_, rfl, fun K hK => ?_⟩
                  have e22 : a.tmps[22]? = some (.string (((⟨#[]⟩ : ByteArray) ++ t121) ++ (rdOf ByteArray.empty y122 (ji20)))) := by rw [ha]; exact putSel_on (e := (10, 22, .string (((⟨#[]⟩ : ByteArray) ++ t121) ++ (rdOf ByteArray.empty y122 (ji20))))) 7 rfl rfl (hon 10 (by kernel_rfl)) rfl
                  replace ha := Aside0.mk ha
                  have HB := Aside0.mk Q_HB
                  have HO124 := Aside0.mk (Q_HO124 (hon 5 (by kernel_rfl)))
                  have HA_HO124 := Aside0.mk (Q_HA_HO124 (hon 5 (by kernel_rfl)))
                  refine value_ (w1 := w') (v := .string (((⟨#[]⟩ : ByteArray) ++ t121) ++ (rdOf ByteArray.empty y122 (ji20)))) (by rfl) rfl ?_ ?_
                  · go_simp
                    (try simp only [i64_w])
                    try rfl
                    try (first | omega | (rw [ByteArray.size_append] at c23; exact c23) | (have z_ := c23; rw [ByteArray.size_append] at z_; have z2_ : (⟨#[]⟩ : ByteArray).size = 0 := rfl; omega))
                  refine hK.out _ _ ⟨v123, adz_v123, m8_, (by rw [ha.out]; exact putSel_upk 8 hb_ rfl rfl rfl), Q_HB, Q_HO124, Q_HA_HO124, Q_X8_⟩
                exact steps_nil
              rintro b a w29 hall ⟨v123, adz_v123, m8_, ha, Q_HB, Q_HO124, Q_HA_HO124, Q_X8_⟩
              clear HB
              have hb2_ := hall 2 (by kernel_rfl)
              have hb3_ := hall 3 (by kernel_rfl)
              have hb4_ := hall 4 (by kernel_rfl)
              have hb5_ := hall 5 (by kernel_rfl)
              have hb7_ := hall 7 (by kernel_rfl)
              have hb8_ := hall 8 (by kernel_rfl)
              have hb9_ := hall 9 (by kernel_rfl)
              have hb10_ := hall 10 (by kernel_rfl)
              have hb11_ := hall 11 (by kernel_rfl)
              subst ha
              obtain rfl := Q_X8_ hb8_
              simp only [putSel, hb2_, hb3_, hb4_, hb5_, hb7_, hb8_, hb9_, hb10_, hb11_, if_true, Act.put, List.setIfInBounds_toArray, List.set_cons_zero, List.set_cons_succ]
              have HB := Aside0.mk Q_HB
              clear Q_HB
              have HO124 := Aside0.mk (Q_HO124 hb5_)
              clear Q_HO124
              have HA_HO124 := Aside0.mk (Q_HA_HO124 hb5_)
              clear Q_HA_HO124
              clear hall hb2_ hb3_ hb4_ hb5_ hb7_ hb8_ hb9_ hb10_ hb11_
              obtain ⟨co30, eo30⟩ := HA_HO124.out
              clear HA_HO124
              subst eo30
              try go_wp2
              go_ret
              exact ⟨by first | rfl | (simp [errW_none, errW_some] <;> rfl) | (simp only [← hji20]; first | rfl | (simp [errW_none, errW_some] <;> rfl)) | (simp [*, errW_none, errW_some] <;> rfl), by repeat (first | (with_reducible first | exact HB.out | apply below_alloc | apply pw_below_drewN | apply below_drew1) | exact HB.out)⟩
            · rw [if_neg c23] at H
              exact absurd H (by simp)
          · rw [if_neg c22] at H
            exact absurd H (by simp)
        · rw [if_neg c21] at H
          exact absurd H (by simp)
      · rw [if_neg c19] at H
        exact absurd H (by simp)
  · replace c3 := Bool.eq_false_iff.mpr c3
    subst c3
    have H1 : (some (⟨#[]⟩ : ByteArray)) = some r := by rw [if_neg (show ¬ (false = true) by decide)] at H; exact H
    clear H
    have H := H1
    clear H1
    obtain rfl := Option.some.inj H
    go_enter Tryd.func22, Tryd.ntmps22
    go_wp2_with (first | ((with_reducible refine gate_callee (f := 46) rfl ?_); refine goesL_ (some 5) rfl rfl Tryd.func46 (by kernel_rfl) rfl #[.int .i64 a0] rfl (by (try simp only [List.map_toArray, List.map_cons, List.map_nil]); first | done | rfl | (simp only [List.length_drop, List.length_take]; rfl)) ?_; (with_reducible refine (spec_IsMeasure.calls a0 false _ A2.out).mono ?_); rintro e w' ⟨rfl, ⟨nd, rfl⟩⟩; refine ⟨_, rfl, ?_⟩))
    go_ret
    exact ⟨by first | rfl | (simp [errW_none, errW_some] <;> rfl) | (simp [*, errW_none, errW_some] <;> rfl), by repeat (first | (with_reducible first | exact HB.out | apply below_alloc | apply pw_below_drewN | apply below_drew1) | exact HB.out)⟩

/-! ### spec_ParseNumber: function 60 -/
def spec_ParseNumber.l0 : Nat → ByteArray → Int → Int → Option (Int × Bool)
  | 0, _, _, _ => none
  | k + 1, x0, x4, x5 => if x5 < (x0.size : Int) then (if x5 < 4 then (if 0 ≤ x5 then (spec_ParseNumber.l0 k x0 (wrap64 ((wrap64 ((wrap64 (10 * x4)) + (wrap64 (bt x0 x5)))) - 48)) (wrap64 (x5 + 1))) else (none)) else (if (x0.size : Int) = 0 then (some (0, false)) else (if x4 < 0 then (some (0, false)) else (if x4 > 999 then (some (0, false)) else ((spec_FormatNumber.f k x4).bind fun t126 => (if t126.toList = x0.toList then (some (x4, true)) else (some (0, false)))))))) else (if (x0.size : Int) = 0 then (some (0, false)) else (if x4 < 0 then (some (0, false)) else (if x4 > 999 then (some (0, false)) else ((spec_FormatNumber.f k x4).bind fun t127 => (if t127.toList = x0.toList then (some (x4, true)) else (some (0, false)))))))
def spec_ParseNumber.f (k : Nat) (a0 : ByteArray) : Option (Int × Bool) := spec_ParseNumber.l0 k a0 0 0
theorem spec_ParseNumber.mono_l : ∀ k, (∀ y0 y1 y2, LeO (spec_ParseNumber.l0 k y0 y1 y2) (spec_ParseNumber.l0 (k + 1) y0 y1 y2))
  | 0 => fun _ _ _ r h => by simp [spec_ParseNumber.l0] at h
  | k + 1 => by
    have ih0 := spec_ParseNumber.mono_l k
    · intro y0 y1 y2
      unfold spec_ParseNumber.l0
      repeat' first
      | (with_reducible exact ih0 _ _ _)
      | (with_reducible exact spec_FormatNumber.mono _ _)
      | (with_reducible exact LeO.refl _)
      | (with_reducible exact LeO.none _)
      | (with_reducible refine LeO.ite ?_ ?_)
      | (with_reducible refine LeO.bind ?_ (fun _ => ?_))
      | exact ih0 _ _ _
      | exact spec_FormatNumber.mono _ _
      | exact LeO.none _
      | refine LeO.ite ?_ ?_
      | refine LeO.bind ?_ (fun _ => ?_)
theorem spec_ParseNumber.mono : ∀ a0 k, LeO (spec_ParseNumber.f k a0) (spec_ParseNumber.f (k + 1) a0) := by
  intro a0 k
  have ih0 := spec_ParseNumber.mono_l k
  unfold spec_ParseNumber.f
  repeat' first
      | (with_reducible exact ih0 _ _ _)
      | (with_reducible exact spec_FormatNumber.mono _ _)
      | (with_reducible exact LeO.refl _)
      | (with_reducible exact LeO.none _)
      | (with_reducible refine LeO.ite ?_ ?_)
      | (with_reducible refine LeO.bind ?_ (fun _ => ?_))
      | exact ih0 _ _ _
      | exact spec_FormatNumber.mono _ _
      | exact LeO.none _
      | refine LeO.ite ?_ ?_
      | refine LeO.bind ?_ (fun _ => ?_)
set_option maxHeartbeats 8000000 in
set_option maxRecDepth 100000 in
theorem spec_ParseNumber.calls (k : Nat) (a0 : ByteArray) (r1 : Int) (r2 : Bool) (w : World) (h : spec_ParseNumber.f k a0 = some (r1, r2)) :
    Calls Tryd.prog 60 #[.string a0] w fun e w' => e = .returned (.tuple #[.int .i64 r1, .bool r2]) ∧ Below w.heap.size w w' := by
  have HB := Aside0.mk (Below.refl w.heap.size w)
  have H : (spec_ParseNumber.l0 k a0 0 0) = some (r1, r2) := h
  clear h
  have H' := Aside0.mk H
  clear H
  go_enter Tryd.func60, Tryd.ntmps60
  go_wp2
  go_loopg [4, 5] k (fun kq v4 v5 w' => ∃ (x4_1 : Int) (x5_1 : Int), v4 = .int .i64 x4_1 ∧ v5 = .int .i64 x5_1 ∧ Aside0 (spec_ParseNumber.l0 kq a0 x4_1 x5_1 = some (r1, r2)) ∧ Aside0 (kq ≤ k) ∧ Aside0 (Below w.heap.size w w'))
  case atStart => exact ⟨(0), (0), (by first | rfl | (simp; done) | (simp [*]; done)), (by first | rfl | (simp; done) | (simp [*]; done)), H', ⟨Nat.le_refl _⟩, ⟨by repeat (first | (with_reducible first | exact HB.out | apply below_alloc | apply pw_below_drewN | apply below_drew1) | exact HB.out)⟩⟩
  case round =>
    clear H'
    obtain ⟨x4_1, x5_1, rfl, rfl, HA, HK1, HB⟩ := hrel
    cases gk with
    | zero => exact absurd HA.out (by simp [spec_ParseNumber.l0])
    | succ k1 =>
      have H := HA.out
      clear HA
      simp only [spec_ParseNumber.l0] at H
      by_cases c2 : x5_1 < (a0.size : Int)
      · rw [if_pos c2] at H
        have c2b0 : decide (x5_1 < (a0.size : Int)) = true := decide_eq_true c2
        clear c2
        by_cases c3 : x5_1 < 4
        · rw [if_pos c3] at H
          have c3b0 : decide (x5_1 < 4) = true := decide_eq_true c3
          clear c3
          by_cases c4 : 0 ≤ x5_1
          · rw [if_pos c4] at H
            have c4b0 : decide (0 ≤ x5_1) = true := decide_eq_true c4
            clear c4
            have H' := Aside0.mk H
            clear H
            have p5 : 0 ≤ (x5_1 : Int) := of_decide_eq_true (by first | (with_reducible assumption) | assumption)
            have q5 : x5_1 < (a0.size : Int) := of_decide_eq_true (by first | (with_reducible assumption) | assumption)
            have hx5 := bt_at a0 x5_1
            replace p5 := eq_true p5
            replace q5 := eq_true q5
            go_wp2
            go_roundg k1
            case measure => have := HK1.out; omega
            case rel => exact ⟨(wrap64 ((wrap64 ((wrap64 (10 * x4_1)) + (wrap64 (bt a0 x5_1)))) - 48)), (wrap64 (x5_1 + 1)), (by first | rfl | (simp; done) | (simp [*]; done)), (by first | rfl | (simp; done) | (simp [*]; done)), H', ⟨by have := HK1.out; omega⟩, ⟨by repeat (first | (with_reducible first | exact HB.out | apply below_alloc | apply pw_below_drewN | apply below_drew1) | exact HB.out)⟩⟩
          · rw [if_neg c4] at H
            exact absurd H (by simp)
        · rw [if_neg c3] at H
          have c3b0 : decide (x5_1 < 4) = false := decide_eq_false c3
          clear c3
          by_cases c6 : (a0.size : Int) = 0
          · rw [if_pos c6] at H
            have c6b0 : ((a0.size : Int) == 0) = true := beq_iff_eq.mpr c6
            have c6b1 : ((a0.size : Int) != 0) = false := bne_eq_false_iff_eq.mpr c6
            clear c6
            simp only [Option.some.injEq, Prod.mk.injEq] at H
            obtain ⟨rfl, rfl⟩ := H
            go_wp2
            go_ret2
            exact ⟨by first | rfl | (simp [errW_none, errW_some] <;> rfl) | (simp [*, errW_none, errW_some] <;> rfl), by repeat (first | (with_reducible first | exact HB.out | apply below_alloc | apply pw_below_drewN | apply below_drew1) | exact HB.out)⟩
          · rw [if_neg c6] at H
            have c6b0 : ((a0.size : Int) == 0) = false := beq_eq_false_iff_ne.mpr c6
            have c6b1 : ((a0.size : Int) != 0) = true := bne_iff_ne.mpr c6
            by_cases c7 : x4_1 < 0
            · rw [if_pos c7] at H
              have c7b0 : decide (x4_1 < 0) = true := decide_eq_true c7
              clear c7
              simp only [Option.some.injEq, Prod.mk.injEq] at H
              obtain ⟨rfl, rfl⟩ := H
              go_wp2
              go_ret2
              exact ⟨by first | rfl | (simp [errW_none, errW_some] <;> rfl) | (simp [*, errW_none, errW_some] <;> rfl), by repeat (first | (with_reducible first | exact HB.out | apply below_alloc | apply pw_below_drewN | apply below_drew1) | exact HB.out)⟩
            · rw [if_neg c7] at H
              have c7b0 : decide (x4_1 < 0) = false := decide_eq_false c7
              clear c7
              by_cases c8 : x4_1 > 999
              · rw [if_pos c8] at H
                have c8b0 : decide (999 < x4_1) = true := decide_eq_true c8
                clear c8
                simp only [Option.some.injEq, Prod.mk.injEq] at H
                obtain ⟨rfl, rfl⟩ := H
                go_wp2
                go_ret2
                exact ⟨by first | rfl | (simp [errW_none, errW_some] <;> rfl) | (simp [*, errW_none, errW_some] <;> rfl), by repeat (first | (with_reducible first | exact HB.out | apply below_alloc | apply pw_below_drewN | apply below_drew1) | exact HB.out)⟩
              · rw [if_neg c8] at H
                have c8b0 : decide (999 < x4_1) = false := decide_eq_false c8
                clear c8
                replace H := Option.bind_eq_some_iff.mp H
                obtain ⟨t126, A90, H⟩ := H
                replace H : (if t126.toList = a0.toList then (some (x4_1, true)) else (some (0, false))) = some (r1, r2) := H
                have A9 := Aside0.mk A90
                clear A90
                by_cases c10 : t126.toList = a0.toList
                · rw [if_pos c10] at H
                  have c10b0 : (t126.toList == a0.toList) = true := beq_iff_eq.mpr c10
                  have c10b1 : (t126.toList != a0.toList) = false := bne_eq_false_iff_eq.mpr c10
                  clear c10
                  simp only [Option.some.injEq, Prod.mk.injEq] at H
                  obtain ⟨rfl, rfl⟩ := H
                  go_wp2_with (first | (go_at_call 15; (with_reducible refine (spec_FormatNumber.calls k1 x4_1 t126 _ A9.out).mono ?_); rintro e w11 ⟨rfl, hb⟩; have n0_ := Aside0.mk (below_step (by repeat (first | (with_reducible first | exact HB.out | apply below_alloc | apply pw_below_drewN | apply below_drew1) | exact HB.out)) hb); clear HB; have HB := n0_; clear n0_; (try clear hb); (try clear hb2); (try clear hk); (try clear hi)))
                  go_ret2
                  exact ⟨by first | rfl | (simp [errW_none, errW_some] <;> rfl) | (simp [*, errW_none, errW_some] <;> rfl), by repeat (first | (with_reducible first | exact HB.out | apply below_alloc | apply pw_below_drewN | apply below_drew1) | exact HB.out)⟩
                · rw [if_neg c10] at H
                  have c10b0 : (t126.toList == a0.toList) = false := beq_eq_false_iff_ne.mpr c10
                  have c10b1 : (t126.toList != a0.toList) = true := bne_iff_ne.mpr c10
                  simp only [Option.some.injEq, Prod.mk.injEq] at H
                  obtain ⟨rfl, rfl⟩ := H
                  go_wp2_with (first | (go_at_call 15; (with_reducible refine (spec_FormatNumber.calls k1 x4_1 t126 _ A9.out).mono ?_); rintro e w12 ⟨rfl, hb⟩; have n0_ := Aside0.mk (below_step (by repeat (first | (with_reducible first | exact HB.out | apply below_alloc | apply pw_below_drewN | apply below_drew1) | exact HB.out)) hb); clear HB; have HB := n0_; clear n0_; (try clear hb); (try clear hb2); (try clear hk); (try clear hi)))
                  go_ret2
                  exact ⟨by first | rfl | (simp [errW_none, errW_some] <;> rfl) | (simp [*, errW_none, errW_some] <;> rfl), by repeat (first | (with_reducible first | exact HB.out | apply below_alloc | apply pw_below_drewN | apply below_drew1) | exact HB.out)⟩
      · rw [if_neg c2] at H
        have c2b0 : decide (x5_1 < (a0.size : Int)) = false := decide_eq_false c2
        clear c2
        by_cases c13 : (a0.size : Int) = 0
        · rw [if_pos c13] at H
          have c13b0 : ((a0.size : Int) == 0) = true := beq_iff_eq.mpr c13
          have c13b1 : ((a0.size : Int) != 0) = false := bne_eq_false_iff_eq.mpr c13
          clear c13
          simp only [Option.some.injEq, Prod.mk.injEq] at H
          obtain ⟨rfl, rfl⟩ := H
          go_wp2
          go_ret2
          exact ⟨by first | rfl | (simp [errW_none, errW_some] <;> rfl) | (simp [*, errW_none, errW_some] <;> rfl), by repeat (first | (with_reducible first | exact HB.out | apply below_alloc | apply pw_below_drewN | apply below_drew1) | exact HB.out)⟩
        · rw [if_neg c13] at H
          have c13b0 : ((a0.size : Int) == 0) = false := beq_eq_false_iff_ne.mpr c13
          have c13b1 : ((a0.size : Int) != 0) = true := bne_iff_ne.mpr c13
          by_cases c14 : x4_1 < 0
          · rw [if_pos c14] at H
            have c14b0 : decide (x4_1 < 0) = true := decide_eq_true c14
            clear c14
            simp only [Option.some.injEq, Prod.mk.injEq] at H
            obtain ⟨rfl, rfl⟩ := H
            go_wp2
            go_ret2
            exact ⟨by first | rfl | (simp [errW_none, errW_some] <;> rfl) | (simp [*, errW_none, errW_some] <;> rfl), by repeat (first | (with_reducible first | exact HB.out | apply below_alloc | apply pw_below_drewN | apply below_drew1) | exact HB.out)⟩
          · rw [if_neg c14] at H
            have c14b0 : decide (x4_1 < 0) = false := decide_eq_false c14
            clear c14
            by_cases c15 : x4_1 > 999
            · rw [if_pos c15] at H
              have c15b0 : decide (999 < x4_1) = true := decide_eq_true c15
              clear c15
              simp only [Option.some.injEq, Prod.mk.injEq] at H
              obtain ⟨rfl, rfl⟩ := H
              go_wp2
              go_ret2
              exact ⟨by first | rfl | (simp [errW_none, errW_some] <;> rfl) | (simp [*, errW_none, errW_some] <;> rfl), by repeat (first | (with_reducible first | exact HB.out | apply below_alloc | apply pw_below_drewN | apply below_drew1) | exact HB.out)⟩
            · rw [if_neg c15] at H
              have c15b0 : decide (999 < x4_1) = false := decide_eq_false c15
              clear c15
              replace H := Option.bind_eq_some_iff.mp H
              obtain ⟨t127, A160, H⟩ := H
              replace H : (if t127.toList = a0.toList then (some (x4_1, true)) else (some (0, false))) = some (r1, r2) := H
              have A16 := Aside0.mk A160
              clear A160
              by_cases c17 : t127.toList = a0.toList
              · rw [if_pos c17] at H
                have c17b0 : (t127.toList == a0.toList) = true := beq_iff_eq.mpr c17
                have c17b1 : (t127.toList != a0.toList) = false := bne_eq_false_iff_eq.mpr c17
                clear c17
                simp only [Option.some.injEq, Prod.mk.injEq] at H
                obtain ⟨rfl, rfl⟩ := H
                go_wp2_with (first | (go_at_call 15; (with_reducible refine (spec_FormatNumber.calls k1 x4_1 t127 _ A16.out).mono ?_); rintro e w18 ⟨rfl, hb⟩; have n0_ := Aside0.mk (below_step (by repeat (first | (with_reducible first | exact HB.out | apply below_alloc | apply pw_below_drewN | apply below_drew1) | exact HB.out)) hb); clear HB; have HB := n0_; clear n0_; (try clear hb); (try clear hb2); (try clear hk); (try clear hi)))
                go_ret2
                exact ⟨by first | rfl | (simp [errW_none, errW_some] <;> rfl) | (simp [*, errW_none, errW_some] <;> rfl), by repeat (first | (with_reducible first | exact HB.out | apply below_alloc | apply pw_below_drewN | apply below_drew1) | exact HB.out)⟩
              · rw [if_neg c17] at H
                have c17b0 : (t127.toList == a0.toList) = false := beq_eq_false_iff_ne.mpr c17
                have c17b1 : (t127.toList != a0.toList) = true := bne_iff_ne.mpr c17
                simp only [Option.some.injEq, Prod.mk.injEq] at H
                obtain ⟨rfl, rfl⟩ := H
                go_wp2_with (first | (go_at_call 15; (with_reducible refine (spec_FormatNumber.calls k1 x4_1 t127 _ A16.out).mono ?_); rintro e w19 ⟨rfl, hb⟩; have n0_ := Aside0.mk (below_step (by repeat (first | (with_reducible first | exact HB.out | apply below_alloc | apply pw_below_drewN | apply below_drew1) | exact HB.out)) hb); clear HB; have HB := n0_; clear n0_; (try clear hb); (try clear hb2); (try clear hk); (try clear hi)))
                go_ret2
                exact ⟨by first | rfl | (simp [errW_none, errW_some] <;> rfl) | (simp [*, errW_none, errW_some] <;> rfl), by repeat (first | (with_reducible first | exact HB.out | apply below_alloc | apply pw_below_drewN | apply below_drew1) | exact HB.out)⟩

end Go.Proofs.YtcnkfnkdcjpkoaaDoor.PFnExactParseJet
