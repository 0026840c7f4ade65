/- Plain functions and walks of the law FnJetText: each function answers as its plain function does. No condition beside. Printed by a changed copy of the print (wip/tools/inject.py). -/
import Derived.Test.YtcnkfnkdcjpkoaaDoorIFnJetTextx0
namespace Go.Proofs.YtcnkfnkdcjpkoaaDoor.PFnJetText
open Go.RowKit Go.Proofs.YtcnkfnkdcjpkoaaDoorV Go.Proofs.YtcnkfnkdcjpkoaaDoorW.PrintWords Go.Proofs.YtcnkfnkdcjpkoaaDoorW.PrintLast Go.Proofs.YtcnkfnkdcjpkoaaDoorW.PrintMore
attribute [local go_sem] max2_int min2_int max_two min_two max_three min_three max_four min_four   -- for this text's walks alone
set_option linter.unusedVariables false
set_option linter.unusedSimpArgs false

theorem p1c : type_of% @List.setIfInBounds_toArray := @List.setIfInBounds_toArray
theorem p2c : type_of% @List.set_cons_zero := @List.set_cons_zero
theorem p3c : type_of% @List.set_cons_succ := @List.set_cons_succ
theorem q1c : type_of% @below_alloc := @below_alloc
theorem q2c : type_of% @pw_below_drewN := @pw_below_drewN
theorem q3c : type_of% @below_drew1 := @below_drew1
theorem q4c : type_of% @below_set := @below_set
theorem q5c : type_of% @blk_drewN := @blk_drewN
theorem q6c : type_of% @blk_drew := @blk_drew
theorem q7c : type_of% @blk_alloc := @blk_alloc
theorem q8c : type_of% @blk_below := @blk_below
theorem q9c : type_of% @below_step := @below_step
theorem qac : type_of% @below_size := @below_size
theorem qbc : type_of% @blk_frozen := @blk_frozen
theorem qcc : type_of% @blk_cell := @blk_cell
theorem qgc : type_of% @Aside0.mk := @Aside0.mk
theorem qhc : type_of% @box_event := @box_event
theorem qtc : type_of% @gate_callee := @gate_callee
theorem quc : type_of% @gate_dst := @gate_dst
/-! ### impl_FormatNumber: function 16 -/
def impl_FormatNumber.f (a0 : Int) : Option (ByteArray) := (strconv_Itoa.f a0).bind fun t101 => (some t101)
set_option maxHeartbeats 8000000 in
set_option maxRecDepth 100000 in
theorem impl_FormatNumber.calls (a0 : Int) (r : ByteArray) (w : World) (h : impl_FormatNumber.f a0 = some r) (ht : Tabs w) :
 Calls Tryd.prog 16 #[.int .i64 a0] w fun e w' => e = .returned (.string r) ∧ Below w.heap.size w w' := by
 have HT := qgc ht
 clear ht
 have HB := qgc (Below.refl w.heap.size w)
 have H : ((strconv_Itoa.f a0).bind fun t101 => (some t101)) = some r := h
 clear h
 replace H := Option.bind_eq_some_iff.mp H
 obtain ⟨t101, A20, H⟩ := H
 replace H : (some t101) = some r := H
 have A2 := qgc A20
 clear A20
 obtain rfl := Option.some.inj H
 go_enter Tryd.func16, Tryd.ntmps16
 go_wp2_with (first | ((with_reducible refine qtc (f := 56) rfl ?_); refine goesL_ (some 4) rfl rfl Tryd.func56 (by kernel_rfl) rfl #[.int .i64 a0] rfl (by (try simp only [List.map_toArray, List.map_cons, List.map_nil]); first | done | rfl | (simp only [List.length_drop, List.length_take]; rfl)) ?_; (with_reducible refine (strconv_Itoa.calls a0 t101 _ A2.out ?tabs).mono ?_); (case tabs => exact Tabs.below HT.out (by repeat (first | (with_reducible first | exact HB.out | apply q1c | apply q2c | apply q3c) | exact HB.out))); rintro e w3 ⟨rfl, hb⟩; refine ⟨_, rfl, ?_⟩; have n0_ := qgc (q9c (by repeat (first | (with_reducible first | exact HB.out | apply q1c | apply q2c | apply q3c) | exact HB.out)) hb); clear HB; have HB := n0_; clear n0_; (try clear hb); (try clear hb2); (try clear hk); (try clear hi)))
 go_ret
 exact ⟨by first | rfl | (simp [errW_none, errW_some] <;> rfl) | (simp [*, errW_none, errW_some] <;> rfl), by repeat (first | (with_reducible first | exact HB.out | apply q1c | apply q2c | apply q3c) | exact HB.out)⟩
/-! ### impl_isWithin: function 71 -/
def impl_isWithin.f (a0 : Int) (a1 : Int) (a2 : Int) : Option (Bool) := if a1 ≤ a0 then (some (decide (a0 ≤ a2))) else (some false)
set_option maxHeartbeats 8000000 in
set_option maxRecDepth 100000 in
theorem impl_isWithin.calls (a0 : Int) (a1 : Int) (a2 : Int) (r : Bool) (w : World) (h : impl_isWithin.f a0 a1 a2 = some r) :
 Calls Tryd.prog 71 #[.int .i64 a0, .int .i64 a1, .int .i64 a2] w fun e w' => e = .returned (.bool r) ∧ Drawn0 w w' := by
 have H : (if a1 ≤ a0 then (some (decide (a0 ≤ a2))) else (some false)) = some r := h
 clear h
 by_cases c4 : a1 ≤ a0
 ·rw [if_pos c4] at H
  have c4b0 : decide (a1 ≤ a0) = true := decide_eq_true c4
  clear c4
  obtain rfl := Option.some.inj H
  go_enter Tryd.func71, Tryd.ntmps71
  go_wp2
  go_ret
  exact ⟨by first | rfl | (simp; done) | (simp [*]; done), by repeat (first | exact Drawn0.refl _ | apply Drawn0.step)⟩
 ·rw [if_neg c4] at H
  have c4b0 : decide (a1 ≤ a0) = false := decide_eq_false c4
  clear c4
  obtain rfl := Option.some.inj H
  go_enter Tryd.func71, Tryd.ntmps71
  go_wp2
  go_ret
  exact ⟨by first | rfl | (simp; done) | (simp [*]; done), by repeat (first | exact Drawn0.refl _ | apply Drawn0.step)⟩
/-! ### impl_IsMeasure: function 45 -/
def impl_IsMeasure.f (a0 : Int) : Option (Bool) := (impl_isWithin.f a0 (-4096) 4096).bind fun t102 => (some t102)
set_option maxHeartbeats 8000000 in
set_option maxRecDepth 100000 in
theorem impl_IsMeasure.calls (a0 : Int) (r : Bool) (w : World) (h : impl_IsMeasure.f a0 = some r) :
 Calls Tryd.prog 45 #[.int .i64 a0] w fun e w' => e = .returned (.bool r) ∧ Drawn0 w w' := by
 have H : ((impl_isWithin.f a0 (-4096) 4096).bind fun t102 => (some t102)) = some r := h
 clear h
 replace H := Option.bind_eq_some_iff.mp H
 obtain ⟨t102, A20, H⟩ := H
 replace H : (some t102) = some r := H
 have A2 := qgc A20
 clear A20
 obtain rfl := Option.some.inj H
 go_enter Tryd.func45, Tryd.ntmps45
 go_wp2_with (first | ((with_reducible refine qtc (f := 71) rfl ?_); refine goesL_ (some 4) rfl rfl Tryd.func71 (by kernel_rfl) rfl #[.int .i64 a0, .int .i64 (-4096), .int .i64 4096] rfl (by (try simp only [List.map_toArray, List.map_cons, List.map_nil]); first | done | rfl | (simp only [List.length_drop, List.length_take]; rfl)) ?_; (with_reducible refine (impl_isWithin.calls a0 (-4096) 4096 t102 _ A2.out).mono ?_); rintro e w' ⟨rfl, ⟨nd, rfl⟩⟩; refine ⟨_, rfl, ?_⟩))
 go_ret
 exact ⟨by first | rfl | (simp; done) | (simp [*]; done), by repeat (first | exact Drawn0.refl _ | apply Drawn0.step)⟩
/-! ### impl_FormatMeasure: function 23 -/
def impl_FormatMeasure.j0 : Nat → Int → ByteArray → Option (ByteArray)
  | 0, _, _ => none
  | k + 1, x0, x3 => (impl_FormatNumber.f (wrap64 (Int.tdiv x0 8))).bind fun t104 => (if x3.size + t104.size ≤ 9223372036854775807 then (if (Int.tmod x0 8) > 0 then ((impl_FormatNumber.f (wrap64 (1000 + (wrap64 ((Int.tmod x0 8) * 125))))).bind fun t105 => (if 1 ≤ (t105.size : Int) then ((strings_TrimRight.f (t105.extract 1 t105.size) (⟨#[48]⟩ : ByteArray)).bind fun t106 => (if 1 + t106.size ≤ 9223372036854775807 then (if (x3 ++ t104).size + ((⟨#[46]⟩ : ByteArray) ++ t106).size ≤ 9223372036854775807 then (some ((x3 ++ t104) ++ ((⟨#[46]⟩ : ByteArray) ++ t106))) else (none)) else (none))) else (none))) else (some (x3 ++ t104))) else (none))
def impl_FormatMeasure.f (k : Nat) (a0 : Int) : Option (ByteArray) := (impl_IsMeasure.f a0).bind fun t103 => (if t103 = true then (if a0 < 0 then (impl_FormatMeasure.j0 k (wrap64 (-a0)) (⟨#[45]⟩ : ByteArray)) else (impl_FormatMeasure.j0 k a0 (⟨#[]⟩ : ByteArray))) else (some (⟨#[]⟩ : ByteArray)))
theorem impl_FormatMeasure.mono_l : ∀ k, (∀ y0 y1, LeO (impl_FormatMeasure.j0 k y0 y1) (impl_FormatMeasure.j0 (k + 1) y0 y1))
  | 0 => fun _ _ r h => by simp [impl_FormatMeasure.j0] at h
  | k + 1 => by
    have ih0 := impl_FormatMeasure.mono_l k
    · intro y0 y1
      unfold impl_FormatMeasure.j0
      repeat' first
      | (with_reducible exact ih0 _ _)
      | (with_reducible exact LeO.refl _)
      | (with_reducible exact LeO.none _)
      | (with_reducible refine LeO.ite ?_ ?_)
      | (with_reducible refine LeO.bind ?_ (fun _ => ?_))
      | exact ih0 _ _
      | exact LeO.none _
      | refine LeO.ite ?_ ?_
      | refine LeO.bind ?_ (fun _ => ?_)
theorem impl_FormatMeasure.mono : ∀ a0 k, LeO (impl_FormatMeasure.f k a0) (impl_FormatMeasure.f (k + 1) a0) := by
  intro a0 k
  have ih0 := impl_FormatMeasure.mono_l k
  unfold impl_FormatMeasure.f
  repeat' first
      | (with_reducible exact ih0 _ _)
      | (with_reducible exact LeO.refl _)
      | (with_reducible exact LeO.none _)
      | (with_reducible refine LeO.ite ?_ ?_)
      | (with_reducible refine LeO.bind ?_ (fun _ => ?_))
      | exact ih0 _ _
      | exact LeO.none _
      | refine LeO.ite ?_ ?_
      | refine LeO.bind ?_ (fun _ => ?_)
set_option maxHeartbeats 8000000 in
set_option maxRecDepth 100000 in
theorem impl_FormatMeasure.calls (k : Nat) (a0 : Int) (r : ByteArray) (w : World) (h : impl_FormatMeasure.f k a0 = some r) (ht : Tabs w) :
 Calls Tryd.prog 23 #[.int .i64 a0] w fun e w' => e = .returned (.string r) ∧ Below w.heap.size w w' := by
 have HT := qgc ht
 clear ht
 have HB := qgc (Below.refl w.heap.size w)
 have H : ((impl_IsMeasure.f a0).bind fun t103 => (if t103 = true then (if a0 < 0 then (impl_FormatMeasure.j0 k (wrap64 (-a0)) (⟨#[45]⟩ : ByteArray)) else (impl_FormatMeasure.j0 k a0 (⟨#[]⟩ : ByteArray))) else (some (⟨#[]⟩ : ByteArray)))) = some r := h
 clear h
 replace H := Option.bind_eq_some_iff.mp H
 obtain ⟨t103, A20, H⟩ := H
 replace H : (if t103 = true then (if a0 < 0 then (impl_FormatMeasure.j0 k (wrap64 (-a0)) (⟨#[45]⟩ : ByteArray)) else (impl_FormatMeasure.j0 k a0 (⟨#[]⟩ : ByteArray))) else (some (⟨#[]⟩ : ByteArray))) = some r := H
 have A2 := qgc A20
 clear A20
 by_cases c3 : t103 = true
 ·subst c3
  have H1 : (if a0 < 0 then (impl_FormatMeasure.j0 k (wrap64 (-a0)) (⟨#[45]⟩ : ByteArray)) else (impl_FormatMeasure.j0 k a0 (⟨#[]⟩ : ByteArray))) = some r := by rw [if_pos rfl] at H; exact H
  clear H
  have H := H1
  clear H1
  have HC4 := qgc H
  clear H
  go_enter Tryd.func23, Tryd.ntmps23
  go_upto_if 9 with (first | ((with_reducible refine qtc (f := 45) rfl ?_); refine goesL_ (some 6) rfl rfl Tryd.func45 (by kernel_rfl) rfl #[.int .i64 a0] rfl (by (try simp only [List.map_toArray, List.map_cons, List.map_nil]); first | done | rfl | (simp only [List.length_drop, List.length_take]; rfl)) ?_; (with_reducible refine (impl_IsMeasure.calls a0 true _ A2.out).mono ?_); rintro e w' ⟨rfl, ⟨nd, rfl⟩⟩; refine ⟨_, rfl, ?_⟩))
  (try simp only [Act.put, p1c, p2c, p3c])
  go_cut [0, 3] (fun v0 v3 wc => ∃ (kq : Nat) (x0_3 : Int) (x3_3 : ByteArray), v0 = .int .i64 x0_3 ∧ v3 = .string x3_3 ∧ Aside0 (impl_FormatMeasure.j0 kq x0_3 x3_3 = some r) ∧ Aside0 (kq ≤ k) ∧ Aside0 (Below w.heap.size w wc))
  case first =>
   have H := HC4.out
   clear HC4
   by_cases c5 : a0 < 0
   ·rw [if_pos c5] at H
    have c5b0 : decide (a0 < 0) = true := decide_eq_true c5
    clear c5
    (first | rw [c5b0] | (simp only [i64_w, i32_w]; rw [c5b0]) | skip)
    have H' := qgc H
    clear H
    go_wp2
    go_meet
    case rel => exact ⟨_, (wrap64 (-a0)), ((⟨#[45]⟩ : ByteArray)), (by first | rfl | (simp; done) | (simp [*]; done)), (by first | rfl | (simp; done) | (simp [*]; done)), H', ⟨by first | omega | exact Nat.le_refl _⟩, ⟨by repeat (first | (with_reducible first | exact HB.out | apply q1c | apply q2c | apply q3c) | exact HB.out)⟩⟩
   ·rw [if_neg c5] at H
    have c5b0 : decide (a0 < 0) = false := decide_eq_false c5
    clear c5
    (first | rw [c5b0] | (simp only [i64_w, i32_w]; rw [c5b0]) | skip)
    have H' := qgc H
    clear H
    go_wp2
    go_meet
    case rel => exact ⟨_, (a0), ((⟨#[]⟩ : ByteArray)), (by first | rfl | (simp; done) | (simp [*]; done)), (by first | rfl | (simp; done) | (simp [*]; done)), H', ⟨by first | omega | exact Nat.le_refl _⟩, ⟨by repeat (first | (with_reducible first | exact HB.out | apply q1c | apply q2c | apply q3c) | exact HB.out)⟩⟩
  case rest =>
   clear HC4
   try clear c2
   try clear p2
   try clear c3
   try clear c4
   try clear c5
   try clear c5b0
   obtain ⟨kq, x0_3, x3_3, rfl, rfl, HA, HJ3, HB⟩ := hcut
   cases kq with
   | zero => exact absurd HA.out (by simp [impl_FormatMeasure.j0])
   | succ kj3 =>
    have H := HA.out
    clear HA
    simp only [impl_FormatMeasure.j0] at H
    replace H := Option.bind_eq_some_iff.mp H
    obtain ⟨t104, A60, H⟩ := H
    replace H : (if x3_3.size + t104.size ≤ 9223372036854775807 then (if (Int.tmod x0_3 8) > 0 then ((impl_FormatNumber.f (wrap64 (1000 + (wrap64 ((Int.tmod x0_3 8) * 125))))).bind fun t105 => (if 1 ≤ (t105.size : Int) then ((strings_TrimRight.f (t105.extract 1 t105.size) (⟨#[48]⟩ : ByteArray)).bind fun t106 => (if 1 + t106.size ≤ 9223372036854775807 then (if (x3_3 ++ t104).size + ((⟨#[46]⟩ : ByteArray) ++ t106).size ≤ 9223372036854775807 then (some ((x3_3 ++ t104) ++ ((⟨#[46]⟩ : ByteArray) ++ t106))) else (none)) else (none))) else (none))) else (some (x3_3 ++ t104))) else (none)) = some r := H
    have A6 := qgc A60
    clear A60
    by_cases c7 : x3_3.size + t104.size ≤ 9223372036854775807
    ·rw [if_pos c7] at H
     have c7b0 := eq_true c7
     have c7b1 : decide (x3_3.size + t104.size ≤ 9223372036854775807) = true := decide_eq_true c7
     try have c7b2 : (9223372036854775807 < x3_3.size + t104.size) = False := eq_false (Nat.not_lt.2 c7)
     by_cases c8 : (Int.tmod x0_3 8) > 0
     ·rw [if_pos c8] at H
      have c8b0 : decide (0 < (Int.tmod x0_3 8)) = true := decide_eq_true c8
      clear c8
      replace H := Option.bind_eq_some_iff.mp H
      obtain ⟨t105, A90, H⟩ := H
      replace H : (if 1 ≤ (t105.size : Int) then ((strings_TrimRight.f (t105.extract 1 t105.size) (⟨#[48]⟩ : ByteArray)).bind fun t106 => (if 1 + t106.size ≤ 9223372036854775807 then (if (x3_3 ++ t104).size + ((⟨#[46]⟩ : ByteArray) ++ t106).size ≤ 9223372036854775807 then (some ((x3_3 ++ t104) ++ ((⟨#[46]⟩ : ByteArray) ++ t106))) else (none)) else (none))) else (none)) = some r := H
      have A9 := qgc A90
      clear A90
      by_cases c10 : 1 ≤ (t105.size : Int)
      ·rw [if_pos c10] at H
       have c10b0 := eq_true c10
       have c10b1 : decide (1 ≤ (t105.size : Int)) = true := decide_eq_true c10
       clear c10
       replace H := Option.bind_eq_some_iff.mp H
       obtain ⟨t106, A110, H⟩ := H
       replace H : (if 1 + t106.size ≤ 9223372036854775807 then (if (x3_3 ++ t104).size + ((⟨#[46]⟩ : ByteArray) ++ t106).size ≤ 9223372036854775807 then (some ((x3_3 ++ t104) ++ ((⟨#[46]⟩ : ByteArray) ++ t106))) else (none)) else (none)) = some r := H
       have A11 := qgc A110
       clear A110
       by_cases c12 : 1 + t106.size ≤ 9223372036854775807
       ·rw [if_pos c12] at H
        have c12b0 := eq_true c12
        have c12b1 : decide (1 + t106.size ≤ 9223372036854775807) = true := decide_eq_true c12
        try have c12b2 : (9223372036854775807 < 1 + t106.size) = False := eq_false (Nat.not_lt.2 c12)
        by_cases c13 : (x3_3 ++ t104).size + ((⟨#[46]⟩ : ByteArray) ++ t106).size ≤ 9223372036854775807
        ·rw [if_pos c13] at H
         have c13b0 := eq_true c13
         have c13b1 : decide ((x3_3 ++ t104).size + ((⟨#[46]⟩ : ByteArray) ++ t106).size ≤ 9223372036854775807) = true := decide_eq_true c13
         try have c13b2 : (9223372036854775807 < (x3_3 ++ t104).size + ((⟨#[46]⟩ : ByteArray) ++ t106).size) = False := eq_false (Nat.not_lt.2 c13)
         obtain rfl := Option.some.inj H
         go_wp2_with (first | ((with_reducible refine qtc (f := 16) rfl ?_); refine goesL_ (some 15) rfl rfl Tryd.func16 (by kernel_rfl) rfl #[.int .i64 (wrap64 (Int.tdiv x0_3 8))] rfl (by (try simp only [List.map_toArray, List.map_cons, List.map_nil]); first | done | rfl | (simp only [List.length_drop, List.length_take]; rfl)) ?_; (with_reducible refine (impl_FormatNumber.calls (wrap64 (Int.tdiv x0_3 8)) t104 _ A6.out ?tabs).mono ?_); (case tabs => exact Tabs.below HT.out (by repeat (first | (with_reducible first | exact HB.out | apply q1c | apply q2c | apply q3c) | exact HB.out))); rintro e w14 ⟨rfl, hb⟩; refine ⟨_, rfl, ?_⟩; have n0_ := qgc (q9c (by repeat (first | (with_reducible first | exact HB.out | apply q1c | apply q2c | apply q3c) | exact HB.out)) hb); clear HB; have HB := n0_; clear n0_; (try clear hb); (try clear hb2); (try clear hk); (try clear hi)) | ((with_reducible refine qtc (f := 16) rfl ?_); refine goesL_ (some 25) rfl rfl Tryd.func16 (by kernel_rfl) rfl #[.int .i64 (wrap64 (1000 + (wrap64 ((Int.tmod x0_3 8) * 125))))] rfl (by (try simp only [List.map_toArray, List.map_cons, List.map_nil]); first | done | rfl | (simp only [List.length_drop, List.length_take]; rfl)) ?_; (with_reducible refine (impl_FormatNumber.calls (wrap64 (1000 + (wrap64 ((Int.tmod x0_3 8) * 125)))) t105 _ A9.out ?tabs).mono ?_); (case tabs => exact Tabs.below HT.out (by repeat (first | (with_reducible first | exact HB.out | apply q1c | apply q2c | apply q3c) | exact HB.out))); rintro e w15 ⟨rfl, hb⟩; refine ⟨_, rfl, ?_⟩; have n0_ := qgc (q9c (by repeat (first | (with_reducible first | exact HB.out | apply q1c | apply q2c | apply q3c) | exact HB.out)) hb); clear HB; have HB := n0_; clear n0_; (try clear hb); (try clear hb2); (try clear hk); (try clear hi)) | ((with_reducible refine qtc (f := 59) rfl ?_); refine goesL_ (some 27) rfl rfl Tryd.func59 (by kernel_rfl) rfl #[.string (t105.extract 1 t105.size), .string (⟨#[48]⟩ : ByteArray)] rfl (by (try simp only [List.map_toArray, List.map_cons, List.map_nil]); first | done | rfl | (simp only [List.length_drop, List.length_take]; rfl)) ?_; (with_reducible refine (strings_TrimRight.calls (t105.extract 1 t105.size) (⟨#[48]⟩ : ByteArray) t106 _ A11.out).mono ?_); rintro e w' ⟨rfl, ⟨nd, rfl⟩⟩; refine ⟨_, rfl, ?_⟩))
         go_ret
         exact ⟨by first | rfl | (simp [errW_none, errW_some] <;> rfl) | (simp [*, errW_none, errW_some] <;> rfl), by repeat (first | (with_reducible first | exact HB.out | apply q1c | apply q2c | apply q3c) | exact HB.out)⟩
        ·rw [if_neg c13] at H
         exact absurd H (by simp)
       ·rw [if_neg c12] at H
        exact absurd H (by simp)
      ·rw [if_neg c10] at H
       exact absurd H (by simp)
     ·rw [if_neg c8] at H
      have c8b0 : decide (0 < (Int.tmod x0_3 8)) = false := decide_eq_false c8
      clear c8
      obtain rfl := Option.some.inj H
      go_wp2_with (first | ((with_reducible refine qtc (f := 16) rfl ?_); refine goesL_ (some 15) rfl rfl Tryd.func16 (by kernel_rfl) rfl #[.int .i64 (wrap64 (Int.tdiv x0_3 8))] rfl (by (try simp only [List.map_toArray, List.map_cons, List.map_nil]); first | done | rfl | (simp only [List.length_drop, List.length_take]; rfl)) ?_; (with_reducible refine (impl_FormatNumber.calls (wrap64 (Int.tdiv x0_3 8)) t104 _ A6.out ?tabs).mono ?_); (case tabs => exact Tabs.below HT.out (by repeat (first | (with_reducible first | exact HB.out | apply q1c | apply q2c | apply q3c) | exact HB.out))); rintro e w16 ⟨rfl, hb⟩; refine ⟨_, rfl, ?_⟩; have n0_ := qgc (q9c (by repeat (first | (with_reducible first | exact HB.out | apply q1c | apply q2c | apply q3c) | exact HB.out)) hb); clear HB; have HB := n0_; clear n0_; (try clear hb); (try clear hb2); (try clear hk); (try clear hi)))
      go_ret
      exact ⟨by first | rfl | (simp [errW_none, errW_some] <;> rfl) | (simp [*, errW_none, errW_some] <;> rfl), by repeat (first | (with_reducible first | exact HB.out | apply q1c | apply q2c | apply q3c) | exact HB.out)⟩
    ·rw [if_neg c7] at H
     exact absurd H (by simp)
 ·replace c3 := Bool.eq_false_iff.mpr c3
  subst c3
  have H1 : (some (⟨#[]⟩ : ByteArray)) = some r := by rw [if_neg (show ¬ (false = true) by decide)] at H; exact H
  clear H
  have H := H1
  clear H1
  obtain rfl := Option.some.inj H
  go_enter Tryd.func23, Tryd.ntmps23
  go_wp2_with (first | ((with_reducible refine qtc (f := 45) rfl ?_); refine goesL_ (some 6) rfl rfl Tryd.func45 (by kernel_rfl) rfl #[.int .i64 a0] rfl (by (try simp only [List.map_toArray, List.map_cons, List.map_nil]); first | done | rfl | (simp only [List.length_drop, List.length_take]; rfl)) ?_; (with_reducible refine (impl_IsMeasure.calls a0 false _ A2.out).mono ?_); rintro e w' ⟨rfl, ⟨nd, rfl⟩⟩; refine ⟨_, rfl, ?_⟩))
  go_ret
  exact ⟨by first | rfl | (simp [errW_none, errW_some] <;> rfl) | (simp [*, errW_none, errW_some] <;> rfl), by repeat (first | (with_reducible first | exact HB.out | apply q1c | apply q2c | apply q3c) | exact HB.out)⟩
/-! ### impl_IsPlace: function 49 -/
def impl_IsPlace.f (a0_0 : Int) (a0_1 : Int) : Option (Bool) := (impl_IsMeasure.f a0_0).bind fun t108 => (if t108 = true then ((impl_IsMeasure.f a0_1).bind fun t109 => (some t109)) else (some false))
set_option maxHeartbeats 8000000 in
set_option maxRecDepth 100000 in
theorem impl_IsPlace.calls (a0_0 : Int) (a0_1 : Int) (r : Bool) (w : World) (h : impl_IsPlace.f a0_0 a0_1 = some r) :
 Calls Tryd.prog 49 #[.agg #[.int .i64 a0_0, .int .i64 a0_1]] w fun e w' => e = .returned (.bool r) ∧ Below w.heap.size w w' := by
 have hu35 := Tryd.underlying35
 have HB := qgc (Below.refl w.heap.size w)
 have H : ((impl_IsMeasure.f a0_0).bind fun t108 => (if t108 = true then ((impl_IsMeasure.f a0_1).bind fun t109 => (some t109)) else (some false))) = some r := h
 clear h
 replace H := Option.bind_eq_some_iff.mp H
 obtain ⟨t108, A20, H⟩ := H
 replace H : (if t108 = true then ((impl_IsMeasure.f a0_1).bind fun t109 => (some t109)) else (some false)) = some r := H
 have A2 := qgc A20
 clear A20
 by_cases c3 : t108 = true
 ·subst c3
  have H1 : ((impl_IsMeasure.f a0_1).bind fun t109 => (some t109)) = some r := by rw [if_pos rfl] at H; exact H
  clear H
  have H := H1
  clear H1
  replace H := Option.bind_eq_some_iff.mp H
  obtain ⟨t109, A40, H⟩ := H
  replace H : (some t109) = some r := H
  have A4 := qgc A40
  clear A40
  obtain rfl := Option.some.inj H
  go_enter Tryd.func49, Tryd.ntmps49
  go_wp2_with (first | ((with_reducible refine quc (N := 1) rfl ?_); refine qhc ?hg (N := 1) ?hd (cs := #[.int .i64 a0_0, .int .i64 a0_1]) (t := 35) ?hr ?_; (case hd => rfl); (case hg => rfl); (case hr => first | (go_simp; done) | (go_simp; rfl)); intro gb107 hg w5 hbox hb; have n0_ := qgc (q9c (by repeat (first | (with_reducible first | exact HB.out | apply q1c | apply q2c | apply q3c) | exact HB.out)) hb); have n1_ := qgc (hbox); have n2_ := qgc ((by rw [hg]; exact (qac (by repeat (first | (with_reducible first | exact HB.out | apply q1c | apply q2c | apply q3c) | exact HB.out))) : w.heap.size ≤ gb107)); have n3_ := qgc ((by rw [hg]; exact (qac (by repeat (first | (with_reducible first | exact HB.out | apply q1c | apply q2c | apply q3c) | exact HB.out))) : w.heap.size ≤ gb107)); clear HB; have HB := n0_; have BK107 := n1_; have GW107 := n2_; have GE107 := n3_; clear n0_ n1_ n2_ n3_; clear hb hbox hg; have hcz6_0 : w5.cell? ⟨gb107, 0, none⟩ = some (.int .i64 a0_0) := (qcc BK107.out 0).trans rfl; have hcz6_1 : w5.cell? ⟨gb107, 1, none⟩ = some (.int .i64 a0_1) := (qcc BK107.out 1).trans rfl; have hfz6_0 := qbc BK107.out 0; have hfz6_1 := qbc BK107.out 1) | ((with_reducible refine qtc (f := 45) rfl ?_); refine goesL_ (some 5) rfl rfl Tryd.func45 (by kernel_rfl) rfl #[.int .i64 a0_0] rfl (by (try simp only [List.map_toArray, List.map_cons, List.map_nil]); first | done | rfl | (simp only [List.length_drop, List.length_take]; rfl)) ?_; (with_reducible refine (impl_IsMeasure.calls a0_0 true _ A2.out).mono ?_); rintro e w' ⟨rfl, ⟨nd, rfl⟩⟩; refine ⟨_, rfl, ?_⟩) | (go_at_call 45; (with_reducible refine (impl_IsMeasure.calls a0_1 t109 _ A4.out).mono ?_); rintro e w' ⟨rfl, ⟨nd, rfl⟩⟩))
  go_ret
  exact ⟨by first | rfl | (simp [errW_none, errW_some] <;> rfl) | (simp [*, errW_none, errW_some] <;> rfl), by repeat (first | (with_reducible first | exact HB.out | apply q1c | apply q2c | apply q3c | refine q4c ?_ GE107.out) | exact HB.out)⟩
 ·replace c3 := Bool.eq_false_iff.mpr c3
  subst c3
  have H1 : (some false) = some r := by rw [if_neg (show ¬ (false = true) by decide)] at H; exact H
  clear H
  have H := H1
  clear H1
  obtain rfl := Option.some.inj H
  go_enter Tryd.func49, Tryd.ntmps49
  go_wp2_with (first | ((with_reducible refine quc (N := 1) rfl ?_); refine qhc ?hg (N := 1) ?hd (cs := #[.int .i64 a0_0, .int .i64 a0_1]) (t := 35) ?hr ?_; (case hd => rfl); (case hg => rfl); (case hr => first | (go_simp; done) | (go_simp; rfl)); intro gb107 hg w7 hbox hb; have n0_ := qgc (q9c (by repeat (first | (with_reducible first | exact HB.out | apply q1c | apply q2c | apply q3c) | exact HB.out)) hb); have n1_ := qgc (hbox); have n2_ := qgc ((by rw [hg]; exact (qac (by repeat (first | (with_reducible first | exact HB.out | apply q1c | apply q2c | apply q3c) | exact HB.out))) : w.heap.size ≤ gb107)); have n3_ := qgc ((by rw [hg]; exact (qac (by repeat (first | (with_reducible first | exact HB.out | apply q1c | apply q2c | apply q3c) | exact HB.out))) : w.heap.size ≤ gb107)); clear HB; have HB := n0_; have BK107 := n1_; have GW107 := n2_; have GE107 := n3_; clear n0_ n1_ n2_ n3_; clear hb hbox hg; have hcz8_0 : w7.cell? ⟨gb107, 0, none⟩ = some (.int .i64 a0_0) := (qcc BK107.out 0).trans rfl; have hcz8_1 : w7.cell? ⟨gb107, 1, none⟩ = some (.int .i64 a0_1) := (qcc BK107.out 1).trans rfl; have hfz8_0 := qbc BK107.out 0; have hfz8_1 := qbc BK107.out 1) | ((with_reducible refine qtc (f := 45) rfl ?_); refine goesL_ (some 5) rfl rfl Tryd.func45 (by kernel_rfl) rfl #[.int .i64 a0_0] rfl (by (try simp only [List.map_toArray, List.map_cons, List.map_nil]); first | done | rfl | (simp only [List.length_drop, List.length_take]; rfl)) ?_; (with_reducible refine (impl_IsMeasure.calls a0_0 false _ A2.out).mono ?_); rintro e w' ⟨rfl, ⟨nd, rfl⟩⟩; refine ⟨_, rfl, ?_⟩))
  go_ret
  exact ⟨by first | rfl | (simp [errW_none, errW_some] <;> rfl) | (simp [*, errW_none, errW_some] <;> rfl), by repeat (first | (with_reducible first | exact HB.out | apply q1c | apply q2c | apply q3c | refine q4c ?_ GE107.out) | exact HB.out)⟩
/-! ### impl_FormatPlace: function 28 -/
def impl_FormatPlace.f (k : Nat) (a0_0 : Int) (a0_1 : Int) : Option (ByteArray) := (impl_IsPlace.f a0_0 a0_1).bind fun t111 => (if t111 = true then (if a0_1 < 0 then ((impl_FormatMeasure.f k a0_0).bind fun t112 => (if t112.size + 0 ≤ 9223372036854775807 then ((impl_FormatMeasure.f k a0_1).bind fun t113 => (if (t112 ++ (⟨#[]⟩ : ByteArray)).size + t113.size ≤ 9223372036854775807 then (if ((t112 ++ (⟨#[]⟩ : ByteArray)) ++ t113).size + 1 ≤ 9223372036854775807 then (some (((t112 ++ (⟨#[]⟩ : ByteArray)) ++ t113) ++ (⟨#[105]⟩ : ByteArray))) else (none)) else (none))) else (none))) else ((impl_FormatMeasure.f k a0_0).bind fun t114 => (if t114.size + 1 ≤ 9223372036854775807 then ((impl_FormatMeasure.f k a0_1).bind fun t115 => (if (t114 ++ (⟨#[43]⟩ : ByteArray)).size + t115.size ≤ 9223372036854775807 then (if ((t114 ++ (⟨#[43]⟩ : ByteArray)) ++ t115).size + 1 ≤ 9223372036854775807 then (some (((t114 ++ (⟨#[43]⟩ : ByteArray)) ++ t115) ++ (⟨#[105]⟩ : ByteArray))) else (none)) else (none))) else (none)))) else (some (⟨#[]⟩ : ByteArray)))
theorem impl_FormatPlace.mono : ∀ a0 a1 k, LeO (impl_FormatPlace.f k a0 a1) (impl_FormatPlace.f (k + 1) a0 a1) := by
  intro a0 a1 k
  unfold impl_FormatPlace.f
  repeat' first
      | (with_reducible exact impl_FormatMeasure.mono _ _)
      | (with_reducible exact LeO.refl _)
      | (with_reducible exact LeO.none _)
      | (with_reducible refine LeO.ite ?_ ?_)
      | (with_reducible refine LeO.bind ?_ (fun _ => ?_))
      | exact impl_FormatMeasure.mono _ _
      | exact LeO.none _
      | refine LeO.ite ?_ ?_
      | refine LeO.bind ?_ (fun _ => ?_)
def impl_FormatPlace.T6 : Bool × List (List Nat × List Nat) := (true, [([], []), ([0], [0]), ([1], [1]), ([], []), ([2, 3], [2, 3]), ([], []), ([5], [5]), ([6, 2], [6]), ([4, 7], [4, 7]), ([8], [8]), ([9, 7, 0, 1, 2, 3, 4, 5, 6, 7, 8, 9], [9])])
def impl_FormatPlace.B6 : List Nat := [0, 1, 3, 0, 15, 0, 32, 103, 255, 511, 1023]
theorem impl_FormatPlace.tab6 : rtab .any (opsOf Tryd.f28 6) = impl_FormatPlace.T6 := by kernel_rfl
theorem impl_FormatPlace.bits6 : waitsOk impl_FormatPlace.T6.2 impl_FormatPlace.B6 = true := by kernel_rfl
set_option maxHeartbeats 8000000 in
set_option maxRecDepth 100000 in
theorem impl_FormatPlace.calls (k : Nat) (a0_0 : Int) (a0_1 : Int) (r : ByteArray) (w : World) (h : impl_FormatPlace.f k a0_0 a0_1 = some r) (ht : Tabs w) :
 Calls Tryd.prog 28 #[.agg #[.int .i64 a0_0, .int .i64 a0_1]] w fun e w' => e = .returned (.string r) ∧ Below w.heap.size w w' := by
 have HT := qgc ht
 clear ht
 have hu35 := Tryd.underlying35
 have HB := qgc (Below.refl w.heap.size w)
 have H : ((impl_IsPlace.f a0_0 a0_1).bind fun t111 => (if t111 = true then (if a0_1 < 0 then ((impl_FormatMeasure.f k a0_0).bind fun t112 => (if t112.size + 0 ≤ 9223372036854775807 then ((impl_FormatMeasure.f k a0_1).bind fun t113 => (if (t112 ++ (⟨#[]⟩ : ByteArray)).size + t113.size ≤ 9223372036854775807 then (if ((t112 ++ (⟨#[]⟩ : ByteArray)) ++ t113).size + 1 ≤ 9223372036854775807 then (some (((t112 ++ (⟨#[]⟩ : ByteArray)) ++ t113) ++ (⟨#[105]⟩ : ByteArray))) else (none)) else (none))) else (none))) else ((impl_FormatMeasure.f k a0_0).bind fun t114 => (if t114.size + 1 ≤ 9223372036854775807 then ((impl_FormatMeasure.f k a0_1).bind fun t115 => (if (t114 ++ (⟨#[43]⟩ : ByteArray)).size + t115.size ≤ 9223372036854775807 then (if ((t114 ++ (⟨#[43]⟩ : ByteArray)) ++ t115).size + 1 ≤ 9223372036854775807 then (some (((t114 ++ (⟨#[43]⟩ : ByteArray)) ++ t115) ++ (⟨#[105]⟩ : ByteArray))) else (none)) else (none))) else (none)))) else (some (⟨#[]⟩ : ByteArray)))) = some r := h
 clear h
 replace H := Option.bind_eq_some_iff.mp H
 obtain ⟨t111, A20, H⟩ := H
 replace H : (if t111 = true then (if a0_1 < 0 then ((impl_FormatMeasure.f k a0_0).bind fun t112 => (if t112.size + 0 ≤ 9223372036854775807 then ((impl_FormatMeasure.f k a0_1).bind fun t113 => (if (t112 ++ (⟨#[]⟩ : ByteArray)).size + t113.size ≤ 9223372036854775807 then (if ((t112 ++ (⟨#[]⟩ : ByteArray)) ++ t113).size + 1 ≤ 9223372036854775807 then (some (((t112 ++ (⟨#[]⟩ : ByteArray)) ++ t113) ++ (⟨#[105]⟩ : ByteArray))) else (none)) else (none))) else (none))) else ((impl_FormatMeasure.f k a0_0).bind fun t114 => (if t114.size + 1 ≤ 9223372036854775807 then ((impl_FormatMeasure.f k a0_1).bind fun t115 => (if (t114 ++ (⟨#[43]⟩ : ByteArray)).size + t115.size ≤ 9223372036854775807 then (if ((t114 ++ (⟨#[43]⟩ : ByteArray)) ++ t115).size + 1 ≤ 9223372036854775807 then (some (((t114 ++ (⟨#[43]⟩ : ByteArray)) ++ t115) ++ (⟨#[105]⟩ : ByteArray))) else (none)) else (none))) else (none)))) else (some (⟨#[]⟩ : ByteArray))) = some r := H
 have A2 := qgc A20
 clear A20
 by_cases c3 : t111 = true
 ·subst c3
  have H1 : (if a0_1 < 0 then ((impl_FormatMeasure.f k a0_0).bind fun t112 => (if t112.size + 0 ≤ 9223372036854775807 then ((impl_FormatMeasure.f k a0_1).bind fun t113 => (if (t112 ++ (⟨#[]⟩ : ByteArray)).size + t113.size ≤ 9223372036854775807 then (if ((t112 ++ (⟨#[]⟩ : ByteArray)) ++ t113).size + 1 ≤ 9223372036854775807 then (some (((t112 ++ (⟨#[]⟩ : ByteArray)) ++ t113) ++ (⟨#[105]⟩ : ByteArray))) else (none)) else (none))) else (none))) else ((impl_FormatMeasure.f k a0_0).bind fun t114 => (if t114.size + 1 ≤ 9223372036854775807 then ((impl_FormatMeasure.f k a0_1).bind fun t115 => (if (t114 ++ (⟨#[43]⟩ : ByteArray)).size + t115.size ≤ 9223372036854775807 then (if ((t114 ++ (⟨#[43]⟩ : ByteArray)) ++ t115).size + 1 ≤ 9223372036854775807 then (some (((t114 ++ (⟨#[43]⟩ : ByteArray)) ++ t115) ++ (⟨#[105]⟩ : ByteArray))) else (none)) else (none))) else (none)))) = some r := by rw [if_pos rfl] at H; exact H
  clear H
  have H := H1
  clear H1
  by_cases c4 : a0_1 < 0
  ·rw [if_pos c4] at H
   have c4b0 : decide (a0_1 < 0) = true := decide_eq_true c4
   clear c4
   replace H := Option.bind_eq_some_iff.mp H
   obtain ⟨t112, A50, H⟩ := H
   replace H : (if t112.size + 0 ≤ 9223372036854775807 then ((impl_FormatMeasure.f k a0_1).bind fun t113 => (if (t112 ++ (⟨#[]⟩ : ByteArray)).size + t113.size ≤ 9223372036854775807 then (if ((t112 ++ (⟨#[]⟩ : ByteArray)) ++ t113).size + 1 ≤ 9223372036854775807 then (some (((t112 ++ (⟨#[]⟩ : ByteArray)) ++ t113) ++ (⟨#[105]⟩ : ByteArray))) else (none)) else (none))) else (none)) = some r := H
   have A5 := qgc A50
   clear A50
   by_cases c6 : t112.size + 0 ≤ 9223372036854775807
   ·rw [if_pos c6] at H
    have c6b0 := eq_true c6
    have c6b1 : decide (t112.size + 0 ≤ 9223372036854775807) = true := decide_eq_true c6
    try have c6b2 : (9223372036854775807 < t112.size + 0) = False := eq_false (Nat.not_lt.2 c6)
    have zz_c6 : t112.size ≤ 9223372036854775807 := by have h_ := c6; (try simp only [ByteArray.size_append] at h_); first | exact h_ | (have e0_ : (⟨#[]⟩ : ByteArray).size = 0 := rfl; omega)
    have zt_c6 := eq_true zz_c6
    have zf_c6 : (9223372036854775807 < t112.size) = False := eq_false (Nat.not_lt.2 zz_c6)
    replace H := Option.bind_eq_some_iff.mp H
    obtain ⟨t113, A70, H⟩ := H
    replace H : (if (t112 ++ (⟨#[]⟩ : ByteArray)).size + t113.size ≤ 9223372036854775807 then (if ((t112 ++ (⟨#[]⟩ : ByteArray)) ++ t113).size + 1 ≤ 9223372036854775807 then (some (((t112 ++ (⟨#[]⟩ : ByteArray)) ++ t113) ++ (⟨#[105]⟩ : ByteArray))) else (none)) else (none)) = some r := H
    have A7 := qgc A70
    clear A70
    by_cases c8 : (t112 ++ (⟨#[]⟩ : ByteArray)).size + t113.size ≤ 9223372036854775807
    ·rw [if_pos c8] at H
     have c8b0 := eq_true c8
     have c8b1 : decide ((t112 ++ (⟨#[]⟩ : ByteArray)).size + t113.size ≤ 9223372036854775807) = true := decide_eq_true c8
     try have c8b2 : (9223372036854775807 < (t112 ++ (⟨#[]⟩ : ByteArray)).size + t113.size) = False := eq_false (Nat.not_lt.2 c8)
     have zz_c8 : t112.size + t113.size ≤ 9223372036854775807 := by have h_ := c8; (try simp only [ByteArray.size_append] at h_); first | exact h_ | (have e0_ : (⟨#[]⟩ : ByteArray).size = 0 := rfl; omega)
     have zt_c8 := eq_true zz_c8
     have zf_c8 : (9223372036854775807 < t112.size + t113.size) = False := eq_false (Nat.not_lt.2 zz_c8)
     by_cases c9 : ((t112 ++ (⟨#[]⟩ : ByteArray)) ++ t113).size + 1 ≤ 9223372036854775807
     ·rw [if_pos c9] at H
      have c9b0 := eq_true c9
      have c9b1 : decide (((t112 ++ (⟨#[]⟩ : ByteArray)) ++ t113).size + 1 ≤ 9223372036854775807) = true := decide_eq_true c9
      try have c9b2 : (9223372036854775807 < ((t112 ++ (⟨#[]⟩ : ByteArray)) ++ t113).size + 1) = False := eq_false (Nat.not_lt.2 c9)
      have zz_c9 : t112.size + t113.size + 1 ≤ 9223372036854775807 := by have h_ := c9; (try simp only [ByteArray.size_append] at h_); first | exact h_ | (have e0_ : (⟨#[]⟩ : ByteArray).size = 0 := rfl; omega)
      have zt_c9 := eq_true zz_c9
      have zf_c9 : (9223372036854775807 < t112.size + t113.size + 1) = False := eq_false (Nat.not_lt.2 zz_c9)
      obtain rfl := Option.some.inj H
      go_enter Tryd.func28, Tryd.ntmps28
      try go_wp2_with (first | ((with_reducible refine quc (N := 1) rfl ?_); refine qhc ?hg (N := 1) ?hd (cs := #[.int .i64 a0_0, .int .i64 a0_1]) (t := 35) ?hr ?_; (case hd => rfl); (case hg => rfl); (case hr => first | (go_simp; done) | (go_simp; rfl)); intro gb110 hg w10 hbox hb; have n0_ := qgc (q9c (by repeat (first | (with_reducible first | exact HB.out | apply q1c | apply q2c | apply q3c) | exact HB.out)) hb); have n1_ := qgc (hbox); have n2_ := qgc ((by rw [hg]; exact (qac (by repeat (first | (with_reducible first | exact HB.out | apply q1c | apply q2c | apply q3c) | exact HB.out))) : w.heap.size ≤ gb110)); have n3_ := qgc ((by rw [hg]; exact (qac (by repeat (first | (with_reducible first | exact HB.out | apply q1c | apply q2c | apply q3c) | exact HB.out))) : w.heap.size ≤ gb110)); clear HB; have HB := n0_; have BK110 := n1_; have GW110 := n2_; have GE110 := n3_; clear n0_ n1_ n2_ n3_; clear hb hbox hg; have hcz11_0 : w10.cell? ⟨gb110, 0, none⟩ = some (.int .i64 a0_0) := (qcc BK110.out 0).trans rfl; have hcz11_1 : w10.cell? ⟨gb110, 1, none⟩ = some (.int .i64 a0_1) := (qcc BK110.out 1).trans rfl; have hfz11_0 := qbc BK110.out 0; have hfz11_1 := qbc BK110.out 1) | ((with_reducible refine qtc (f := 49) rfl ?_); refine goesL_ (some 5) rfl rfl Tryd.func49 (by kernel_rfl) rfl #[.agg #[.int .i64 a0_0, .int .i64 a0_1]] rfl (by (try simp only [List.map_toArray, List.map_cons, List.map_nil]); first | done | rfl | (simp only [List.length_drop, List.length_take]; rfl)) ?_; (with_reducible refine (impl_IsPlace.calls a0_0 a0_1 true _ A2.out).mono ?_); rintro e w12 ⟨rfl, hb⟩; refine ⟨_, rfl, ?_⟩; have n0_ := qgc (q8c (g := gb110) (o := .cells #[.int .i64 a0_0, .int .i64 a0_1] 35 (0, 0)) (by (with_reducible repeat (first | refine q5c ?_ _ | refine q6c ?_ | refine q7c ?_ _)); exact BK110.out) hb); have n1_ := qgc (q9c (by repeat (first | (with_reducible first | exact HB.out | apply q1c | apply q2c | apply q3c | refine q4c ?_ GE110.out) | exact HB.out)) hb); clear BK110; clear HB; have BK110 := n0_; have HB := n1_; clear n0_ n1_; (try clear hb); (try clear hb2); (try clear hk); (try clear hi); have hcz13_0 : w12.cell? ⟨gb110, 0, none⟩ = some (.int .i64 a0_0) := (qcc BK110.out 0).trans rfl; have hcz13_1 : w12.cell? ⟨gb110, 1, none⟩ = some (.int .i64 a0_1) := (qcc BK110.out 1).trans rfl; have hfz13_0 := qbc BK110.out 0; have hfz13_1 := qbc BK110.out 1))
      have n0_ := qgc (q6c BK110.out)
      have n1_ := qgc (q3c HB.out)
      clear BK110
      clear HB
      have BK110 := n0_
      have HB := n1_
      clear n0_ n1_
      refine start_ (n := 11) (S := fun w' => w'.cell? ⟨gb110, 0, none⟩ = some (.int .i64 a0_0) ∧ w'.cell? ⟨gb110, 1, none⟩ = some (.int .i64 a0_1)) (ds := []) #[false, false, false, false, false, false, false, false, false, false, false] (by kernel_rfl) rfl rfl ⟨(qcc BK110.out 0).trans rfl, (qcc BK110.out 1).trans rfl⟩ (fun hHeld => ?_); refine with_tabW impl_FormatPlace.tab6 impl_FormatPlace.bits6 (fun HT_ HW_ => ?_)
      generalize w12.drew = w14 at BK110 HB hHeld ⊢
      refine pure_ (i := 0) (N := some 10) (v := ?_) (a' := ?_) #[true, false, false, false, false, false, false, false, false, false, false] rfl rfl (any_of HT_.out (by kernel_rfl)) (fun _ _ _ h => h) (Or.inl ⟨by rfl, ?_⟩) ?_ ?_
      rotate_left
      ·intro w'
       go_simp
       with_reducible rfl
      rotate_left
      ·simp only [Act.put, p1c, p2c, p3c, i64_w, i32_w]
       rfl
      refine pure_ (i := 3) (N := some 13) (v := ?_) (a' := ?_) #[true, false, false, true, false, false, false, false, false, false, false] rfl rfl (any_of HT_.out (by kernel_rfl)) (fun _ _ _ h => h) (Or.inl ⟨by rfl, ?_⟩) ?_ ?_
      rotate_left
      ·intro w'
       go_simp
       with_reducible rfl
      rotate_left
      ·simp only [Act.put, p1c, p2c, p3c, i64_w, i32_w]
       rfl
      refine pure_ (i := 5) (N := some 15) (v := ?_) (a' := ?_) #[true, false, false, true, false, true, false, false, false, false, false] rfl rfl (any_of HT_.out (by kernel_rfl)) (fun _ _ _ h => h) (Or.inl ⟨by rfl, ?_⟩) ?_ ?_
      rotate_left
      ·intro w'
       go_simp
       with_reducible rfl
      rotate_left
      ·simp only [Act.put, p1c, p2c, p3c, i64_w, i32_w]
       rfl
      refine take_ (i := 1) (N := some 11) (v := ?_) (a' := ?_) #[true, true, false, true, false, true, false, false, false, false, false] rfl rfl (take_ofW HT_.out HW_.out (by kernel_rfl)) (fun _ _ _ h => h) (Or.inl ⟨by rfl, ?_⟩) hHeld ?_ ?_
      rotate_left
      ·rintro w' ⟨s0, s1⟩
       go_simp
       with_reducible rfl
      rotate_left
      ·simp only [Act.put, p1c, p2c, p3c, i64_w, i32_w]
       rfl
      refine take_ (i := 6) (N := some 16) (v := ?_) (a' := ?_) #[true, true, false, true, false, true, true, false, false, false, false] rfl rfl (take_ofW HT_.out HW_.out (by kernel_rfl)) (fun _ _ _ h => h) (Or.inl ⟨by rfl, ?_⟩) hHeld ?_ ?_
      rotate_left
      ·rintro w' ⟨s0, s1⟩
       go_simp
       with_reducible rfl
      rotate_left
      ·simp only [Act.put, p1c, p2c, p3c, i64_w, i32_w]
       rfl
      refine one_ (i := 2) (N := some 12) #[true, true, true, true, false, true, true, false, false, false, false] rfl rfl (one_of HT_.out (by kernel_rfl)) (by decide) (fun K hK => ?_)
      refine goes_ Tryd.func23 (by kernel_rfl) rfl #[.int .i64 a0_0] (by rfl) rfl rfl (by (try simp only [List.map_toArray, List.map_cons, List.map_nil]); first | done | rfl | (simp only [List.length_drop, List.length_take]; rfl)) ?_
      with_reducible refine (impl_FormatMeasure.calls k a0_0 t112 _ A5.out ?tabs).mono ?_
      case tabs => exact Tabs.below HT.out (by repeat (first | (with_reducible first | exact HB.out | apply q1c | apply q2c | apply q3c | refine q4c ?_ GE110.out) | exact HB.out))
      rintro e w15 ⟨rfl, hb⟩
      refine ⟨_, rfl, ?_⟩
      have n0_ := qgc (q8c (g := gb110) (o := .cells #[.int .i64 a0_0, .int .i64 a0_1] 35 (0, 0)) (by (with_reducible repeat (first | refine q5c ?_ _ | refine q6c ?_ | refine q7c ?_ _)); exact BK110.out) hb)
      have n1_ := qgc (q9c (by repeat (first | (with_reducible first | exact HB.out | apply q1c | apply q2c | apply q3c | refine q4c ?_ GE110.out) | exact HB.out)) hb)
      clear BK110
      clear HB
      have BK110 := n0_
      have HB := n1_
      clear n0_ n1_
      (try clear hb)
      (try clear hb2)
      (try clear hk)
      (try clear hi)
      refine hK.out _ _ ⟨(qcc BK110.out 0).trans rfl, (qcc BK110.out 1).trans rfl⟩ (fun hHeld => ?_)
      clear hK K
      refine norm_ (a' := ?_) ?_ ?_
      rotate_left
      ·show Act.put _ (some 12) _ = _
       simp only [Act.put, p1c, p2c, p3c, i64_w, i32_w]
       rfl
      refine pure_ (i := 4) (N := some 14) (v := ?_) (a' := ?_) #[true, true, true, true, true, true, true, false, false, false, false] rfl rfl (any_of HT_.out (by kernel_rfl)) (fun _ _ _ h => h) (Or.inl ⟨by rfl, ?_⟩) ?_ ?_
      rotate_left
      ·intro w'
       go_simp
       with_reducible rfl
      rotate_left
      ·simp only [Act.put, p1c, p2c, p3c, i64_w, i32_w]
       rfl
      refine one_ (i := 7) (N := some 17) #[true, true, true, true, true, true, true, true, false, false, false] rfl rfl (one_of HT_.out (by kernel_rfl)) (by decide) (fun K hK => ?_)
      refine goes_ Tryd.func23 (by kernel_rfl) rfl #[.int .i64 a0_1] (by rfl) rfl rfl (by (try simp only [List.map_toArray, List.map_cons, List.map_nil]); first | done | rfl | (simp only [List.length_drop, List.length_take]; rfl)) ?_
      with_reducible refine (impl_FormatMeasure.calls k a0_1 t113 _ A7.out ?tabs).mono ?_
      case tabs => exact Tabs.below HT.out (by repeat (first | (with_reducible first | exact HB.out | apply q1c | apply q2c | apply q3c | refine q4c ?_ GE110.out) | exact HB.out))
      rintro e w16 ⟨rfl, hb⟩
      refine ⟨_, rfl, ?_⟩
      have n0_ := qgc (q8c (g := gb110) (o := .cells #[.int .i64 a0_0, .int .i64 a0_1] 35 (0, 0)) (by (with_reducible repeat (first | refine q5c ?_ _ | refine q6c ?_ | refine q7c ?_ _)); exact BK110.out) hb)
      have n1_ := qgc (q9c (by repeat (first | (with_reducible first | exact HB.out | apply q1c | apply q2c | apply q3c | refine q4c ?_ GE110.out) | exact HB.out)) hb)
      clear BK110
      clear HB
      have BK110 := n0_
      have HB := n1_
      clear n0_ n1_
      (try clear hb)
      (try clear hb2)
      (try clear hk)
      (try clear hi)
      refine hK.out _ _ ⟨(qcc BK110.out 0).trans rfl, (qcc BK110.out 1).trans rfl⟩ (fun hHeld => ?_)
      clear hK K
      refine norm_ (a' := ?_) ?_ ?_
      rotate_left
      ·show Act.put _ (some 17) _ = _
       simp only [Act.put, p1c, p2c, p3c, i64_w, i32_w]
       rfl
      refine pure_ (i := 8) (N := some 18) (v := ?_) (a' := ?_) #[true, true, true, true, true, true, true, true, true, false, false] rfl rfl (any_of HT_.out (by kernel_rfl)) (fun _ _ _ h => h) (Or.inl ⟨by rfl, ?_⟩) ?_ ?_
      rotate_left
      ·intro w'
       go_simp
       with_reducible rfl
      rotate_left
      ·simp only [Act.put, p1c, p2c, p3c, i64_w, i32_w]
       rfl
      refine pure_ (i := 9) (N := some 19) (v := ?_) (a' := ?_) #[true, true, true, true, true, true, true, true, true, true, false] rfl rfl (any_of HT_.out (by kernel_rfl)) (fun _ _ _ h => h) (Or.inl ⟨by rfl, ?_⟩) ?_ ?_
      rotate_left
      ·intro w'
       go_simp
       with_reducible rfl
      rotate_left
      ·simp only [Act.put, p1c, p2c, p3c, i64_w, i32_w]
       rfl
      refine pure_ (i := 10) (N := some 2) (v := ?_) (a' := ?_) #[true, true, true, true, true, true, true, true, true, true, true] rfl rfl (any_of HT_.out (by kernel_rfl)) (fun _ _ _ h => h) (Or.inl ⟨by rfl, ?_⟩) ?_ ?_
      rotate_left
      ·intro w'
       go_simp
       with_reducible rfl
      rotate_left
      ·simp only [Act.put, p1c, p2c, p3c, i64_w, i32_w]
       rfl
      refine done_ (done_of HT_.out (by kernel_rfl)) ?_
      try go_wp2
      go_ret
      exact ⟨by first | rfl | (simp [errW_none, errW_some] <;> rfl) | (simp [*, errW_none, errW_some] <;> rfl), by repeat (first | (with_reducible first | exact HB.out | apply q1c | apply q2c | apply q3c | refine q4c ?_ GE110.out) | exact HB.out)⟩
     ·rw [if_neg c9] at H
      exact absurd H (by simp)
    ·rw [if_neg c8] at H
     exact absurd H (by simp)
   ·rw [if_neg c6] at H
    exact absurd H (by simp)
  ·rw [if_neg c4] at H
   have c4b0 : decide (a0_1 < 0) = false := decide_eq_false c4
   clear c4
   replace H := Option.bind_eq_some_iff.mp H
   obtain ⟨t114, A170, H⟩ := H
   replace H : (if t114.size + 1 ≤ 9223372036854775807 then ((impl_FormatMeasure.f k a0_1).bind fun t115 => (if (t114 ++ (⟨#[43]⟩ : ByteArray)).size + t115.size ≤ 9223372036854775807 then (if ((t114 ++ (⟨#[43]⟩ : ByteArray)) ++ t115).size + 1 ≤ 9223372036854775807 then (some (((t114 ++ (⟨#[43]⟩ : ByteArray)) ++ t115) ++ (⟨#[105]⟩ : ByteArray))) else (none)) else (none))) else (none)) = some r := H
   have A17 := qgc A170
   clear A170
   by_cases c18 : t114.size + 1 ≤ 9223372036854775807
   ·rw [if_pos c18] at H
    have c18b0 := eq_true c18
    have c18b1 : decide (t114.size + 1 ≤ 9223372036854775807) = true := decide_eq_true c18
    try have c18b2 : (9223372036854775807 < t114.size + 1) = False := eq_false (Nat.not_lt.2 c18)
    replace H := Option.bind_eq_some_iff.mp H
    obtain ⟨t115, A190, H⟩ := H
    replace H : (if (t114 ++ (⟨#[43]⟩ : ByteArray)).size + t115.size ≤ 9223372036854775807 then (if ((t114 ++ (⟨#[43]⟩ : ByteArray)) ++ t115).size + 1 ≤ 9223372036854775807 then (some (((t114 ++ (⟨#[43]⟩ : ByteArray)) ++ t115) ++ (⟨#[105]⟩ : ByteArray))) else (none)) else (none)) = some r := H
    have A19 := qgc A190
    clear A190
    by_cases c20 : (t114 ++ (⟨#[43]⟩ : ByteArray)).size + t115.size ≤ 9223372036854775807
    ·rw [if_pos c20] at H
     have c20b0 := eq_true c20
     have c20b1 : decide ((t114 ++ (⟨#[43]⟩ : ByteArray)).size + t115.size ≤ 9223372036854775807) = true := decide_eq_true c20
     try have c20b2 : (9223372036854775807 < (t114 ++ (⟨#[43]⟩ : ByteArray)).size + t115.size) = False := eq_false (Nat.not_lt.2 c20)
     have zz_c20 : t114.size + 1 + t115.size ≤ 9223372036854775807 := by have h_ := c20; (try simp only [ByteArray.size_append] at h_); first | exact h_ | (have e0_ : (⟨#[]⟩ : ByteArray).size = 0 := rfl; omega)
     have zt_c20 := eq_true zz_c20
     have zf_c20 : (9223372036854775807 < t114.size + 1 + t115.size) = False := eq_false (Nat.not_lt.2 zz_c20)
     by_cases c21 : ((t114 ++ (⟨#[43]⟩ : ByteArray)) ++ t115).size + 1 ≤ 9223372036854775807
     ·rw [if_pos c21] at H
      have c21b0 := eq_true c21
      have c21b1 : decide (((t114 ++ (⟨#[43]⟩ : ByteArray)) ++ t115).size + 1 ≤ 9223372036854775807) = true := decide_eq_true c21
      try have c21b2 : (9223372036854775807 < ((t114 ++ (⟨#[43]⟩ : ByteArray)) ++ t115).size + 1) = False := eq_false (Nat.not_lt.2 c21)
      have zz_c21 : t114.size + 1 + t115.size + 1 ≤ 9223372036854775807 := by have h_ := c21; (try simp only [ByteArray.size_append] at h_); first | exact h_ | (have e0_ : (⟨#[]⟩ : ByteArray).size = 0 := rfl; omega)
      have zt_c21 := eq_true zz_c21
      have zf_c21 : (9223372036854775807 < t114.size + 1 + t115.size + 1) = False := eq_false (Nat.not_lt.2 zz_c21)
      obtain rfl := Option.some.inj H
      go_enter Tryd.func28, Tryd.ntmps28
      try go_wp2_with (first | ((with_reducible refine quc (N := 1) rfl ?_); refine qhc ?hg (N := 1) ?hd (cs := #[.int .i64 a0_0, .int .i64 a0_1]) (t := 35) ?hr ?_; (case hd => rfl); (case hg => rfl); (case hr => first | (go_simp; done) | (go_simp; rfl)); intro gb110 hg w22 hbox hb; have n0_ := qgc (q9c (by repeat (first | (with_reducible first | exact HB.out | apply q1c | apply q2c | apply q3c) | exact HB.out)) hb); have n1_ := qgc (hbox); have n2_ := qgc ((by rw [hg]; exact (qac (by repeat (first | (with_reducible first | exact HB.out | apply q1c | apply q2c | apply q3c) | exact HB.out))) : w.heap.size ≤ gb110)); have n3_ := qgc ((by rw [hg]; exact (qac (by repeat (first | (with_reducible first | exact HB.out | apply q1c | apply q2c | apply q3c) | exact HB.out))) : w.heap.size ≤ gb110)); clear HB; have HB := n0_; have BK110 := n1_; have GW110 := n2_; have GE110 := n3_; clear n0_ n1_ n2_ n3_; clear hb hbox hg; have hcz23_0 : w22.cell? ⟨gb110, 0, none⟩ = some (.int .i64 a0_0) := (qcc BK110.out 0).trans rfl; have hcz23_1 : w22.cell? ⟨gb110, 1, none⟩ = some (.int .i64 a0_1) := (qcc BK110.out 1).trans rfl; have hfz23_0 := qbc BK110.out 0; have hfz23_1 := qbc BK110.out 1) | ((with_reducible refine qtc (f := 49) rfl ?_); refine goesL_ (some 5) rfl rfl Tryd.func49 (by kernel_rfl) rfl #[.agg #[.int .i64 a0_0, .int .i64 a0_1]] rfl (by (try simp only [List.map_toArray, List.map_cons, List.map_nil]); first | done | rfl | (simp only [List.length_drop, List.length_take]; rfl)) ?_; (with_reducible refine (impl_IsPlace.calls a0_0 a0_1 true _ A2.out).mono ?_); rintro e w24 ⟨rfl, hb⟩; refine ⟨_, rfl, ?_⟩; have n0_ := qgc (q8c (g := gb110) (o := .cells #[.int .i64 a0_0, .int .i64 a0_1] 35 (0, 0)) (by (with_reducible repeat (first | refine q5c ?_ _ | refine q6c ?_ | refine q7c ?_ _)); exact BK110.out) hb); have n1_ := qgc (q9c (by repeat (first | (with_reducible first | exact HB.out | apply q1c | apply q2c | apply q3c | refine q4c ?_ GE110.out) | exact HB.out)) hb); clear BK110; clear HB; have BK110 := n0_; have HB := n1_; clear n0_ n1_; (try clear hb); (try clear hb2); (try clear hk); (try clear hi); have hcz25_0 : w24.cell? ⟨gb110, 0, none⟩ = some (.int .i64 a0_0) := (qcc BK110.out 0).trans rfl; have hcz25_1 : w24.cell? ⟨gb110, 1, none⟩ = some (.int .i64 a0_1) := (qcc BK110.out 1).trans rfl; have hfz25_0 := qbc BK110.out 0; have hfz25_1 := qbc BK110.out 1))
      have n0_ := qgc (q6c BK110.out)
      have n1_ := qgc (q3c HB.out)
      clear BK110
      clear HB
      have BK110 := n0_
      have HB := n1_
      clear n0_ n1_
      refine start_ (n := 11) (S := fun w' => w'.cell? ⟨gb110, 0, none⟩ = some (.int .i64 a0_0) ∧ w'.cell? ⟨gb110, 1, none⟩ = some (.int .i64 a0_1)) (ds := []) #[false, false, false, false, false, false, false, false, false, false, false] (by kernel_rfl) rfl rfl ⟨(qcc BK110.out 0).trans rfl, (qcc BK110.out 1).trans rfl⟩ (fun hHeld => ?_); refine with_tabW impl_FormatPlace.tab6 impl_FormatPlace.bits6 (fun HT_ HW_ => ?_)
      generalize w24.drew = w26 at BK110 HB hHeld ⊢
      refine pure_ (i := 0) (N := some 10) (v := ?_) (a' := ?_) #[true, false, false, false, false, false, false, false, false, false, false] rfl rfl (any_of HT_.out (by kernel_rfl)) (fun _ _ _ h => h) (Or.inl ⟨by rfl, ?_⟩) ?_ ?_
      rotate_left
      ·intro w'
       go_simp
       with_reducible rfl
      rotate_left
      ·simp only [Act.put, p1c, p2c, p3c, i64_w, i32_w]
       rfl
      refine pure_ (i := 3) (N := some 13) (v := ?_) (a' := ?_) #[true, false, false, true, false, false, false, false, false, false, false] rfl rfl (any_of HT_.out (by kernel_rfl)) (fun _ _ _ h => h) (Or.inl ⟨by rfl, ?_⟩) ?_ ?_
      rotate_left
      ·intro w'
       go_simp
       with_reducible rfl
      rotate_left
      ·simp only [Act.put, p1c, p2c, p3c, i64_w, i32_w]
       rfl
      refine pure_ (i := 5) (N := some 15) (v := ?_) (a' := ?_) #[true, false, false, true, false, true, false, false, false, false, false] rfl rfl (any_of HT_.out (by kernel_rfl)) (fun _ _ _ h => h) (Or.inl ⟨by rfl, ?_⟩) ?_ ?_
      rotate_left
      ·intro w'
       go_simp
       with_reducible rfl
      rotate_left
      ·simp only [Act.put, p1c, p2c, p3c, i64_w, i32_w]
       rfl
      refine take_ (i := 1) (N := some 11) (v := ?_) (a' := ?_) #[true, true, false, true, false, true, false, false, false, false, false] rfl rfl (take_ofW HT_.out HW_.out (by kernel_rfl)) (fun _ _ _ h => h) (Or.inl ⟨by rfl, ?_⟩) hHeld ?_ ?_
      rotate_left
      ·rintro w' ⟨s0, s1⟩
       go_simp
       with_reducible rfl
      rotate_left
      ·simp only [Act.put, p1c, p2c, p3c, i64_w, i32_w]
       rfl
      refine take_ (i := 6) (N := some 16) (v := ?_) (a' := ?_) #[true, true, false, true, false, true, true, false, false, false, false] rfl rfl (take_ofW HT_.out HW_.out (by kernel_rfl)) (fun _ _ _ h => h) (Or.inl ⟨by rfl, ?_⟩) hHeld ?_ ?_
      rotate_left
      ·rintro w' ⟨s0, s1⟩
       go_simp
       with_reducible rfl
      rotate_left
      ·simp only [Act.put, p1c, p2c, p3c, i64_w, i32_w]
       rfl
      refine one_ (i := 2) (N := some 12) #[true, true, true, true, false, true, true, false, false, false, false] rfl rfl (one_of HT_.out (by kernel_rfl)) (by decide) (fun K hK => ?_)
      refine goes_ Tryd.func23 (by kernel_rfl) rfl #[.int .i64 a0_0] (by rfl) rfl rfl (by (try simp only [List.map_toArray, List.map_cons, List.map_nil]); first | done | rfl | (simp only [List.length_drop, List.length_take]; rfl)) ?_
      with_reducible refine (impl_FormatMeasure.calls k a0_0 t114 _ A17.out ?tabs).mono ?_
      case tabs => exact Tabs.below HT.out (by repeat (first | (with_reducible first | exact HB.out | apply q1c | apply q2c | apply q3c | refine q4c ?_ GE110.out) | exact HB.out))
      rintro e w27 ⟨rfl, hb⟩
      refine ⟨_, rfl, ?_⟩
      have n0_ := qgc (q8c (g := gb110) (o := .cells #[.int .i64 a0_0, .int .i64 a0_1] 35 (0, 0)) (by (with_reducible repeat (first | refine q5c ?_ _ | refine q6c ?_ | refine q7c ?_ _)); exact BK110.out) hb)
      have n1_ := qgc (q9c (by repeat (first | (with_reducible first | exact HB.out | apply q1c | apply q2c | apply q3c | refine q4c ?_ GE110.out) | exact HB.out)) hb)
      clear BK110
      clear HB
      have BK110 := n0_
      have HB := n1_
      clear n0_ n1_
      (try clear hb)
      (try clear hb2)
      (try clear hk)
      (try clear hi)
      refine hK.out _ _ ⟨(qcc BK110.out 0).trans rfl, (qcc BK110.out 1).trans rfl⟩ (fun hHeld => ?_)
      clear hK K
      refine norm_ (a' := ?_) ?_ ?_
      rotate_left
      ·show Act.put _ (some 12) _ = _
       simp only [Act.put, p1c, p2c, p3c, i64_w, i32_w]
       rfl
      refine pure_ (i := 4) (N := some 14) (v := ?_) (a' := ?_) #[true, true, true, true, true, true, true, false, false, false, false] rfl rfl (any_of HT_.out (by kernel_rfl)) (fun _ _ _ h => h) (Or.inl ⟨by rfl, ?_⟩) ?_ ?_
      rotate_left
      ·intro w'
       go_simp
       with_reducible rfl
      rotate_left
      ·simp only [Act.put, p1c, p2c, p3c, i64_w, i32_w]
       rfl
      refine one_ (i := 7) (N := some 17) #[true, true, true, true, true, true, true, true, false, false, false] rfl rfl (one_of HT_.out (by kernel_rfl)) (by decide) (fun K hK => ?_)
      refine goes_ Tryd.func23 (by kernel_rfl) rfl #[.int .i64 a0_1] (by rfl) rfl rfl (by (try simp only [List.map_toArray, List.map_cons, List.map_nil]); first | done | rfl | (simp only [List.length_drop, List.length_take]; rfl)) ?_
      with_reducible refine (impl_FormatMeasure.calls k a0_1 t115 _ A19.out ?tabs).mono ?_
      case tabs => exact Tabs.below HT.out (by repeat (first | (with_reducible first | exact HB.out | apply q1c | apply q2c | apply q3c | refine q4c ?_ GE110.out) | exact HB.out))
      rintro e w28 ⟨rfl, hb⟩
      refine ⟨_, rfl, ?_⟩
      have n0_ := qgc (q8c (g := gb110) (o := .cells #[.int .i64 a0_0, .int .i64 a0_1] 35 (0, 0)) (by (with_reducible repeat (first | refine q5c ?_ _ | refine q6c ?_ | refine q7c ?_ _)); exact BK110.out) hb)
      have n1_ := qgc (q9c (by repeat (first | (with_reducible first | exact HB.out | apply q1c | apply q2c | apply q3c | refine q4c ?_ GE110.out) | exact HB.out)) hb)
      clear BK110
      clear HB
      have BK110 := n0_
      have HB := n1_
      clear n0_ n1_
      (try clear hb)
      (try clear hb2)
      (try clear hk)
      (try clear hi)
      refine hK.out _ _ ⟨(qcc BK110.out 0).trans rfl, (qcc BK110.out 1).trans rfl⟩ (fun hHeld => ?_)
      clear hK K
      refine norm_ (a' := ?_) ?_ ?_
      rotate_left
      ·show Act.put _ (some 17) _ = _
       simp only [Act.put, p1c, p2c, p3c, i64_w, i32_w]
       rfl
      refine pure_ (i := 8) (N := some 18) (v := ?_) (a' := ?_) #[true, true, true, true, true, true, true, true, true, false, false] rfl rfl (any_of HT_.out (by kernel_rfl)) (fun _ _ _ h => h) (Or.inl ⟨by rfl, ?_⟩) ?_ ?_
      rotate_left
      ·intro w'
       go_simp
       with_reducible rfl
      rotate_left
      ·simp only [Act.put, p1c, p2c, p3c, i64_w, i32_w]
       rfl
      refine pure_ (i := 9) (N := some 19) (v := ?_) (a' := ?_) #[true, true, true, true, true, true, true, true, true, true, false] rfl rfl (any_of HT_.out (by kernel_rfl)) (fun _ _ _ h => h) (Or.inl ⟨by rfl, ?_⟩) ?_ ?_
      rotate_left
      ·intro w'
       go_simp
       with_reducible rfl
      rotate_left
      ·simp only [Act.put, p1c, p2c, p3c, i64_w, i32_w]
       rfl
      refine pure_ (i := 10) (N := some 2) (v := ?_) (a' := ?_) #[true, true, true, true, true, true, true, true, true, true, true] rfl rfl (any_of HT_.out (by kernel_rfl)) (fun _ _ _ h => h) (Or.inl ⟨by rfl, ?_⟩) ?_ ?_
      rotate_left
      ·intro w'
       go_simp
       with_reducible rfl
      rotate_left
      ·simp only [Act.put, p1c, p2c, p3c, i64_w, i32_w]
       rfl
      refine done_ (done_of HT_.out (by kernel_rfl)) ?_
      try go_wp2
      go_ret
      exact ⟨by first | rfl | (simp [errW_none, errW_some] <;> rfl) | (simp [*, errW_none, errW_some] <;> rfl), by repeat (first | (with_reducible first | exact HB.out | apply q1c | apply q2c | apply q3c | refine q4c ?_ GE110.out) | exact HB.out)⟩
     ·rw [if_neg c21] at H
      exact absurd H (by simp)
    ·rw [if_neg c20] at H
     exact absurd H (by simp)
   ·rw [if_neg c18] at H
    exact absurd H (by simp)
 ·replace c3 := Bool.eq_false_iff.mpr c3
  subst c3
  have H1 : (some (⟨#[]⟩ : ByteArray)) = some r := by rw [if_neg (show ¬ (false = true) by decide)] at H; exact H
  clear H
  have H := H1
  clear H1
  obtain rfl := Option.some.inj H
  go_enter Tryd.func28, Tryd.ntmps28
  go_wp2_with (first | ((with_reducible refine quc (N := 1) rfl ?_); refine qhc ?hg (N := 1) ?hd (cs := #[.int .i64 a0_0, .int .i64 a0_1]) (t := 35) ?hr ?_; (case hd => rfl); (case hg => rfl); (case hr => first | (go_simp; done) | (go_simp; rfl)); intro gb110 hg w29 hbox hb; have n0_ := qgc (q9c (by repeat (first | (with_reducible first | exact HB.out | apply q1c | apply q2c | apply q3c) | exact HB.out)) hb); have n1_ := qgc (hbox); have n2_ := qgc ((by rw [hg]; exact (qac (by repeat (first | (with_reducible first | exact HB.out | apply q1c | apply q2c | apply q3c) | exact HB.out))) : w.heap.size ≤ gb110)); have n3_ := qgc ((by rw [hg]; exact (qac (by repeat (first | (with_reducible first | exact HB.out | apply q1c | apply q2c | apply q3c) | exact HB.out))) : w.heap.size ≤ gb110)); clear HB; have HB := n0_; have BK110 := n1_; have GW110 := n2_; have GE110 := n3_; clear n0_ n1_ n2_ n3_; clear hb hbox hg; have hcz30_0 : w29.cell? ⟨gb110, 0, none⟩ = some (.int .i64 a0_0) := (qcc BK110.out 0).trans rfl; have hcz30_1 : w29.cell? ⟨gb110, 1, none⟩ = some (.int .i64 a0_1) := (qcc BK110.out 1).trans rfl; have hfz30_0 := qbc BK110.out 0; have hfz30_1 := qbc BK110.out 1) | ((with_reducible refine qtc (f := 49) rfl ?_); refine goesL_ (some 5) rfl rfl Tryd.func49 (by kernel_rfl) rfl #[.agg #[.int .i64 a0_0, .int .i64 a0_1]] rfl (by (try simp only [List.map_toArray, List.map_cons, List.map_nil]); first | done | rfl | (simp only [List.length_drop, List.length_take]; rfl)) ?_; (with_reducible refine (impl_IsPlace.calls a0_0 a0_1 false _ A2.out).mono ?_); rintro e w31 ⟨rfl, hb⟩; refine ⟨_, rfl, ?_⟩; have n0_ := qgc (q8c (g := gb110) (o := .cells #[.int .i64 a0_0, .int .i64 a0_1] 35 (0, 0)) (by (with_reducible repeat (first | refine q5c ?_ _ | refine q6c ?_ | refine q7c ?_ _)); exact BK110.out) hb); have n1_ := qgc (q9c (by repeat (first | (with_reducible first | exact HB.out | apply q1c | apply q2c | apply q3c | refine q4c ?_ GE110.out) | exact HB.out)) hb); clear BK110; clear HB; have BK110 := n0_; have HB := n1_; clear n0_ n1_; (try clear hb); (try clear hb2); (try clear hk); (try clear hi)))
  go_ret
  exact ⟨by first | rfl | (simp [errW_none, errW_some] <;> rfl) | (simp [*, errW_none, errW_some] <;> rfl), by repeat (first | (with_reducible first | exact HB.out | apply q1c | apply q2c | apply q3c | refine q4c ?_ GE110.out) | exact HB.out)⟩
/-! ### impl_IsHeading: function 76 -/
def impl_IsHeading.f (a0 : Int) : Option (Bool) := (impl_isWithin.f a0 0 3).bind fun t116 => (some t116)
set_option maxHeartbeats 8000000 in
set_option maxRecDepth 100000 in
theorem impl_IsHeading.calls (a0 : Int) (r : Bool) (w : World) (h : impl_IsHeading.f a0 = some r) :
 Calls Tryd.prog 76 #[.int .i64 a0] w fun e w' => e = .returned (.bool r) ∧ Drawn0 w w' := by
 have H : ((impl_isWithin.f a0 0 3).bind fun t116 => (some t116)) = some r := h
 clear h
 replace H := Option.bind_eq_some_iff.mp H
 obtain ⟨t116, A20, H⟩ := H
 replace H : (some t116) = some r := H
 have A2 := qgc A20
 clear A20
 obtain rfl := Option.some.inj H
 go_enter Tryd.func76, Tryd.ntmps76
 go_wp2_with (first | ((with_reducible refine qtc (f := 71) rfl ?_); refine goesL_ (some 4) rfl rfl Tryd.func71 (by kernel_rfl) rfl #[.int .i64 a0, .int .i64 0, .int .i64 3] rfl (by (try simp only [List.map_toArray, List.map_cons, List.map_nil]); first | done | rfl | (simp only [List.length_drop, List.length_take]; rfl)) ?_; (with_reducible refine (impl_isWithin.calls a0 0 3 t116 _ A2.out).mono ?_); rintro e w' ⟨rfl, ⟨nd, rfl⟩⟩; refine ⟨_, rfl, ?_⟩))
 go_ret
 exact ⟨by first | rfl | (simp; done) | (simp [*]; done), by repeat (first | exact Drawn0.refl _ | apply Drawn0.step)⟩
/-! ### impl_IsJet: function 53 -/
def impl_IsJet.f (a0_0 : Int) (a0_1 : Int) (a0_2 : Int) (a0_3 : Int) (a0_4 : Int) : Option (Bool) := (impl_isWithin.f a0_0 (-1024) 1024).bind fun t118 => (if t118 = true then ((impl_isWithin.f a0_1 (-1024) 1024).bind fun t119 => (if t119 = true then ((impl_IsHeading.f a0_2).bind fun t120 => (if t120 = true then ((impl_isWithin.f a0_3 0 16).bind fun t121 => (if t121 = true then ((impl_isWithin.f a0_4 1 32).bind fun t122 => (some t122)) else (some false))) else (some false))) else (some false))) else (some false))
set_option maxHeartbeats 8000000 in
set_option maxRecDepth 100000 in
theorem impl_IsJet.calls (a0_0 : Int) (a0_1 : Int) (a0_2 : Int) (a0_3 : Int) (a0_4 : Int) (r : Bool) (w : World) (h : impl_IsJet.f a0_0 a0_1 a0_2 a0_3 a0_4 = some r) :
 Calls Tryd.prog 53 #[.agg #[.int .i64 a0_0, .int .i64 a0_1, .int .i64 a0_2, .int .i64 a0_3, .int .i64 a0_4]] w fun e w' => e = .returned (.bool r) ∧ Below w.heap.size w w' := by
 have hu45 := Tryd.underlying45
 have HB := qgc (Below.refl w.heap.size w)
 have H : ((impl_isWithin.f a0_0 (-1024) 1024).bind fun t118 => (if t118 = true then ((impl_isWithin.f a0_1 (-1024) 1024).bind fun t119 => (if t119 = true then ((impl_IsHeading.f a0_2).bind fun t120 => (if t120 = true then ((impl_isWithin.f a0_3 0 16).bind fun t121 => (if t121 = true then ((impl_isWithin.f a0_4 1 32).bind fun t122 => (some t122)) else (some false))) else (some false))) else (some false))) else (some false))) = some r := h
 clear h
 replace H := Option.bind_eq_some_iff.mp H
 obtain ⟨t118, A20, H⟩ := H
 replace H : (if t118 = true then ((impl_isWithin.f a0_1 (-1024) 1024).bind fun t119 => (if t119 = true then ((impl_IsHeading.f a0_2).bind fun t120 => (if t120 = true then ((impl_isWithin.f a0_3 0 16).bind fun t121 => (if t121 = true then ((impl_isWithin.f a0_4 1 32).bind fun t122 => (some t122)) else (some false))) else (some false))) else (some false))) else (some false)) = some r := H
 have A2 := qgc A20
 clear A20
 by_cases c3 : t118 = true
 ·subst c3
  have H1 : ((impl_isWithin.f a0_1 (-1024) 1024).bind fun t119 => (if t119 = true then ((impl_IsHeading.f a0_2).bind fun t120 => (if t120 = true then ((impl_isWithin.f a0_3 0 16).bind fun t121 => (if t121 = true then ((impl_isWithin.f a0_4 1 32).bind fun t122 => (some t122)) else (some false))) else (some false))) else (some false))) = some r := by rw [if_pos rfl] at H; exact H
  clear H
  have H := H1
  clear H1
  replace H := Option.bind_eq_some_iff.mp H
  obtain ⟨t119, A40, H⟩ := H
  replace H : (if t119 = true then ((impl_IsHeading.f a0_2).bind fun t120 => (if t120 = true then ((impl_isWithin.f a0_3 0 16).bind fun t121 => (if t121 = true then ((impl_isWithin.f a0_4 1 32).bind fun t122 => (some t122)) else (some false))) else (some false))) else (some false)) = some r := H
  have A4 := qgc A40
  clear A40
  by_cases c5 : t119 = true
  ·subst c5
   have H1 : ((impl_IsHeading.f a0_2).bind fun t120 => (if t120 = true then ((impl_isWithin.f a0_3 0 16).bind fun t121 => (if t121 = true then ((impl_isWithin.f a0_4 1 32).bind fun t122 => (some t122)) else (some false))) else (some false))) = some r := by rw [if_pos rfl] at H; exact H
   clear H
   have H := H1
   clear H1
   replace H := Option.bind_eq_some_iff.mp H
   obtain ⟨t120, A60, H⟩ := H
   replace H : (if t120 = true then ((impl_isWithin.f a0_3 0 16).bind fun t121 => (if t121 = true then ((impl_isWithin.f a0_4 1 32).bind fun t122 => (some t122)) else (some false))) else (some false)) = some r := H
   have A6 := qgc A60
   clear A60
   by_cases c7 : t120 = true
   ·subst c7
    have H1 : ((impl_isWithin.f a0_3 0 16).bind fun t121 => (if t121 = true then ((impl_isWithin.f a0_4 1 32).bind fun t122 => (some t122)) else (some false))) = some r := by rw [if_pos rfl] at H; exact H
    clear H
    have H := H1
    clear H1
    replace H := Option.bind_eq_some_iff.mp H
    obtain ⟨t121, A80, H⟩ := H
    replace H : (if t121 = true then ((impl_isWithin.f a0_4 1 32).bind fun t122 => (some t122)) else (some false)) = some r := H
    have A8 := qgc A80
    clear A80
    by_cases c9 : t121 = true
    ·subst c9
     have H1 : ((impl_isWithin.f a0_4 1 32).bind fun t122 => (some t122)) = some r := by rw [if_pos rfl] at H; exact H
     clear H
     have H := H1
     clear H1
     replace H := Option.bind_eq_some_iff.mp H
     obtain ⟨t122, A100, H⟩ := H
     replace H : (some t122) = some r := H
     have A10 := qgc A100
     clear A100
     obtain rfl := Option.some.inj H
     go_enter Tryd.func53, Tryd.ntmps53
     go_wp2_with (first | ((with_reducible refine quc (N := 1) rfl ?_); refine qhc ?hg (N := 1) ?hd (cs := #[.int .i64 a0_0, .int .i64 a0_1, .int .i64 a0_2, .int .i64 a0_3, .int .i64 a0_4]) (t := 45) ?hr ?_; (case hd => rfl); (case hg => rfl); (case hr => first | (go_simp; done) | (go_simp; rfl)); intro gb117 hg w11 hbox hb; have n0_ := qgc (q9c (by repeat (first | (with_reducible first | exact HB.out | apply q1c | apply q2c | apply q3c) | exact HB.out)) hb); have n1_ := qgc (hbox); have n2_ := qgc ((by rw [hg]; exact (qac (by repeat (first | (with_reducible first | exact HB.out | apply q1c | apply q2c | apply q3c) | exact HB.out))) : w.heap.size ≤ gb117)); have n3_ := qgc ((by rw [hg]; exact (qac (by repeat (first | (with_reducible first | exact HB.out | apply q1c | apply q2c | apply q3c) | exact HB.out))) : w.heap.size ≤ gb117)); clear HB; have HB := n0_; have BK117 := n1_; have GW117 := n2_; have GE117 := n3_; clear n0_ n1_ n2_ n3_; clear hb hbox hg; have hcz12_0 : w11.cell? ⟨gb117, 0, none⟩ = some (.int .i64 a0_0) := (qcc BK117.out 0).trans rfl; have hcz12_1 : w11.cell? ⟨gb117, 1, none⟩ = some (.int .i64 a0_1) := (qcc BK117.out 1).trans rfl; have hcz12_2 : w11.cell? ⟨gb117, 2, none⟩ = some (.int .i64 a0_2) := (qcc BK117.out 2).trans rfl; have hcz12_3 : w11.cell? ⟨gb117, 3, none⟩ = some (.int .i64 a0_3) := (qcc BK117.out 3).trans rfl; have hcz12_4 : w11.cell? ⟨gb117, 4, none⟩ = some (.int .i64 a0_4) := (qcc BK117.out 4).trans rfl; have hfz12_0 := qbc BK117.out 0; have hfz12_1 := qbc BK117.out 1; have hfz12_2 := qbc BK117.out 2; have hfz12_3 := qbc BK117.out 3; have hfz12_4 := qbc BK117.out 4) | ((with_reducible refine qtc (f := 71) rfl ?_); refine goesL_ (some 6) rfl rfl Tryd.func71 (by kernel_rfl) rfl #[.int .i64 a0_0, .int .i64 (-1024), .int .i64 1024] rfl (by (try simp only [List.map_toArray, List.map_cons, List.map_nil]); first | done | rfl | (simp only [List.length_drop, List.length_take]; rfl)) ?_; (with_reducible refine (impl_isWithin.calls a0_0 (-1024) 1024 true _ A2.out).mono ?_); rintro e w' ⟨rfl, ⟨nd, rfl⟩⟩; refine ⟨_, rfl, ?_⟩) | (go_at_call 71; (with_reducible refine (impl_isWithin.calls a0_1 (-1024) 1024 true _ A4.out).mono ?_); rintro e w' ⟨rfl, ⟨nd, rfl⟩⟩) | (go_at_call 76; (with_reducible refine (impl_IsHeading.calls a0_2 true _ A6.out).mono ?_); rintro e w' ⟨rfl, ⟨nd, rfl⟩⟩) | (go_at_call 71; (with_reducible refine (impl_isWithin.calls a0_3 0 16 true _ A8.out).mono ?_); rintro e w' ⟨rfl, ⟨nd, rfl⟩⟩) | (go_at_call 71; (with_reducible refine (impl_isWithin.calls a0_4 1 32 t122 _ A10.out).mono ?_); rintro e w' ⟨rfl, ⟨nd, rfl⟩⟩))
     go_ret
     exact ⟨by first | rfl | (simp [errW_none, errW_some] <;> rfl) | (simp [*, errW_none, errW_some] <;> rfl), by repeat (first | (with_reducible first | exact HB.out | apply q1c | apply q2c | apply q3c | refine q4c ?_ GE117.out) | exact HB.out)⟩
    ·replace c9 := Bool.eq_false_iff.mpr c9
     subst c9
     have H1 : (some false) = some r := by rw [if_neg (show ¬ (false = true) by decide)] at H; exact H
     clear H
     have H := H1
     clear H1
     obtain rfl := Option.some.inj H
     go_enter Tryd.func53, Tryd.ntmps53
     go_wp2_with (first | ((with_reducible refine quc (N := 1) rfl ?_); refine qhc ?hg (N := 1) ?hd (cs := #[.int .i64 a0_0, .int .i64 a0_1, .int .i64 a0_2, .int .i64 a0_3, .int .i64 a0_4]) (t := 45) ?hr ?_; (case hd => rfl); (case hg => rfl); (case hr => first | (go_simp; done) | (go_simp; rfl)); intro gb117 hg w13 hbox hb; have n0_ := qgc (q9c (by repeat (first | (with_reducible first | exact HB.out | apply q1c | apply q2c | apply q3c) | exact HB.out)) hb); have n1_ := qgc (hbox); have n2_ := qgc ((by rw [hg]; exact (qac (by repeat (first | (with_reducible first | exact HB.out | apply q1c | apply q2c | apply q3c) | exact HB.out))) : w.heap.size ≤ gb117)); have n3_ := qgc ((by rw [hg]; exact (qac (by repeat (first | (with_reducible first | exact HB.out | apply q1c | apply q2c | apply q3c) | exact HB.out))) : w.heap.size ≤ gb117)); clear HB; have HB := n0_; have BK117 := n1_; have GW117 := n2_; have GE117 := n3_; clear n0_ n1_ n2_ n3_; clear hb hbox hg; have hcz14_0 : w13.cell? ⟨gb117, 0, none⟩ = some (.int .i64 a0_0) := (qcc BK117.out 0).trans rfl; have hcz14_1 : w13.cell? ⟨gb117, 1, none⟩ = some (.int .i64 a0_1) := (qcc BK117.out 1).trans rfl; have hcz14_2 : w13.cell? ⟨gb117, 2, none⟩ = some (.int .i64 a0_2) := (qcc BK117.out 2).trans rfl; have hcz14_3 : w13.cell? ⟨gb117, 3, none⟩ = some (.int .i64 a0_3) := (qcc BK117.out 3).trans rfl; have hcz14_4 : w13.cell? ⟨gb117, 4, none⟩ = some (.int .i64 a0_4) := (qcc BK117.out 4).trans rfl; have hfz14_0 := qbc BK117.out 0; have hfz14_1 := qbc BK117.out 1; have hfz14_2 := qbc BK117.out 2; have hfz14_3 := qbc BK117.out 3; have hfz14_4 := qbc BK117.out 4) | ((with_reducible refine qtc (f := 71) rfl ?_); refine goesL_ (some 6) rfl rfl Tryd.func71 (by kernel_rfl) rfl #[.int .i64 a0_0, .int .i64 (-1024), .int .i64 1024] rfl (by (try simp only [List.map_toArray, List.map_cons, List.map_nil]); first | done | rfl | (simp only [List.length_drop, List.length_take]; rfl)) ?_; (with_reducible refine (impl_isWithin.calls a0_0 (-1024) 1024 true _ A2.out).mono ?_); rintro e w' ⟨rfl, ⟨nd, rfl⟩⟩; refine ⟨_, rfl, ?_⟩) | (go_at_call 71; (with_reducible refine (impl_isWithin.calls a0_1 (-1024) 1024 true _ A4.out).mono ?_); rintro e w' ⟨rfl, ⟨nd, rfl⟩⟩) | (go_at_call 76; (with_reducible refine (impl_IsHeading.calls a0_2 true _ A6.out).mono ?_); rintro e w' ⟨rfl, ⟨nd, rfl⟩⟩) | (go_at_call 71; (with_reducible refine (impl_isWithin.calls a0_3 0 16 false _ A8.out).mono ?_); rintro e w' ⟨rfl, ⟨nd, rfl⟩⟩))
     go_ret
     exact ⟨by first | rfl | (simp [errW_none, errW_some] <;> rfl) | (simp [*, errW_none, errW_some] <;> rfl), by repeat (first | (with_reducible first | exact HB.out | apply q1c | apply q2c | apply q3c | refine q4c ?_ GE117.out) | exact HB.out)⟩
   ·replace c7 := Bool.eq_false_iff.mpr c7
    subst c7
    have H1 : (some false) = some r := by rw [if_neg (show ¬ (false = true) by decide)] at H; exact H
    clear H
    have H := H1
    clear H1
    obtain rfl := Option.some.inj H
    go_enter Tryd.func53, Tryd.ntmps53
    go_wp2_with (first | ((with_reducible refine quc (N := 1) rfl ?_); refine qhc ?hg (N := 1) ?hd (cs := #[.int .i64 a0_0, .int .i64 a0_1, .int .i64 a0_2, .int .i64 a0_3, .int .i64 a0_4]) (t := 45) ?hr ?_; (case hd => rfl); (case hg => rfl); (case hr => first | (go_simp; done) | (go_simp; rfl)); intro gb117 hg w15 hbox hb; have n0_ := qgc (q9c (by repeat (first | (with_reducible first | exact HB.out | apply q1c | apply q2c | apply q3c) | exact HB.out)) hb); have n1_ := qgc (hbox); have n2_ := qgc ((by rw [hg]; exact (qac (by repeat (first | (with_reducible first | exact HB.out | apply q1c | apply q2c | apply q3c) | exact HB.out))) : w.heap.size ≤ gb117)); have n3_ := qgc ((by rw [hg]; exact (qac (by repeat (first | (with_reducible first | exact HB.out | apply q1c | apply q2c | apply q3c) | exact HB.out))) : w.heap.size ≤ gb117)); clear HB; have HB := n0_; have BK117 := n1_; have GW117 := n2_; have GE117 := n3_; clear n0_ n1_ n2_ n3_; clear hb hbox hg; have hcz16_0 : w15.cell? ⟨gb117, 0, none⟩ = some (.int .i64 a0_0) := (qcc BK117.out 0).trans rfl; have hcz16_1 : w15.cell? ⟨gb117, 1, none⟩ = some (.int .i64 a0_1) := (qcc BK117.out 1).trans rfl; have hcz16_2 : w15.cell? ⟨gb117, 2, none⟩ = some (.int .i64 a0_2) := (qcc BK117.out 2).trans rfl; have hcz16_3 : w15.cell? ⟨gb117, 3, none⟩ = some (.int .i64 a0_3) := (qcc BK117.out 3).trans rfl; have hcz16_4 : w15.cell? ⟨gb117, 4, none⟩ = some (.int .i64 a0_4) := (qcc BK117.out 4).trans rfl; have hfz16_0 := qbc BK117.out 0; have hfz16_1 := qbc BK117.out 1; have hfz16_2 := qbc BK117.out 2; have hfz16_3 := qbc BK117.out 3; have hfz16_4 := qbc BK117.out 4) | ((with_reducible refine qtc (f := 71) rfl ?_); refine goesL_ (some 6) rfl rfl Tryd.func71 (by kernel_rfl) rfl #[.int .i64 a0_0, .int .i64 (-1024), .int .i64 1024] rfl (by (try simp only [List.map_toArray, List.map_cons, List.map_nil]); first | done | rfl | (simp only [List.length_drop, List.length_take]; rfl)) ?_; (with_reducible refine (impl_isWithin.calls a0_0 (-1024) 1024 true _ A2.out).mono ?_); rintro e w' ⟨rfl, ⟨nd, rfl⟩⟩; refine ⟨_, rfl, ?_⟩) | (go_at_call 71; (with_reducible refine (impl_isWithin.calls a0_1 (-1024) 1024 true _ A4.out).mono ?_); rintro e w' ⟨rfl, ⟨nd, rfl⟩⟩) | (go_at_call 76; (with_reducible refine (impl_IsHeading.calls a0_2 false _ A6.out).mono ?_); rintro e w' ⟨rfl, ⟨nd, rfl⟩⟩))
    go_ret
    exact ⟨by first | rfl | (simp [errW_none, errW_some] <;> rfl) | (simp [*, errW_none, errW_some] <;> rfl), by repeat (first | (with_reducible first | exact HB.out | apply q1c | apply q2c | apply q3c | refine q4c ?_ GE117.out) | exact HB.out)⟩
  ·replace c5 := Bool.eq_false_iff.mpr c5
   subst c5
   have H1 : (some false) = some r := by rw [if_neg (show ¬ (false = true) by decide)] at H; exact H
   clear H
   have H := H1
   clear H1
   obtain rfl := Option.some.inj H
   go_enter Tryd.func53, Tryd.ntmps53
   go_wp2_with (first | ((with_reducible refine quc (N := 1) rfl ?_); refine qhc ?hg (N := 1) ?hd (cs := #[.int .i64 a0_0, .int .i64 a0_1, .int .i64 a0_2, .int .i64 a0_3, .int .i64 a0_4]) (t := 45) ?hr ?_; (case hd => rfl); (case hg => rfl); (case hr => first | (go_simp; done) | (go_simp; rfl)); intro gb117 hg w17 hbox hb; have n0_ := qgc (q9c (by repeat (first | (with_reducible first | exact HB.out | apply q1c | apply q2c | apply q3c) | exact HB.out)) hb); have n1_ := qgc (hbox); have n2_ := qgc ((by rw [hg]; exact (qac (by repeat (first | (with_reducible first | exact HB.out | apply q1c | apply q2c | apply q3c) | exact HB.out))) : w.heap.size ≤ gb117)); have n3_ := qgc ((by rw [hg]; exact (qac (by repeat (first | (with_reducible first | exact HB.out | apply q1c | apply q2c | apply q3c) | exact HB.out))) : w.heap.size ≤ gb117)); clear HB; have HB := n0_; have BK117 := n1_; have GW117 := n2_; have GE117 := n3_; clear n0_ n1_ n2_ n3_; clear hb hbox hg; have hcz18_0 : w17.cell? ⟨gb117, 0, none⟩ = some (.int .i64 a0_0) := (qcc BK117.out 0).trans rfl; have hcz18_1 : w17.cell? ⟨gb117, 1, none⟩ = some (.int .i64 a0_1) := (qcc BK117.out 1).trans rfl; have hcz18_2 : w17.cell? ⟨gb117, 2, none⟩ = some (.int .i64 a0_2) := (qcc BK117.out 2).trans rfl; have hcz18_3 : w17.cell? ⟨gb117, 3, none⟩ = some (.int .i64 a0_3) := (qcc BK117.out 3).trans rfl; have hcz18_4 : w17.cell? ⟨gb117, 4, none⟩ = some (.int .i64 a0_4) := (qcc BK117.out 4).trans rfl; have hfz18_0 := qbc BK117.out 0; have hfz18_1 := qbc BK117.out 1; have hfz18_2 := qbc BK117.out 2; have hfz18_3 := qbc BK117.out 3; have hfz18_4 := qbc BK117.out 4) | ((with_reducible refine qtc (f := 71) rfl ?_); refine goesL_ (some 6) rfl rfl Tryd.func71 (by kernel_rfl) rfl #[.int .i64 a0_0, .int .i64 (-1024), .int .i64 1024] rfl (by (try simp only [List.map_toArray, List.map_cons, List.map_nil]); first | done | rfl | (simp only [List.length_drop, List.length_take]; rfl)) ?_; (with_reducible refine (impl_isWithin.calls a0_0 (-1024) 1024 true _ A2.out).mono ?_); rintro e w' ⟨rfl, ⟨nd, rfl⟩⟩; refine ⟨_, rfl, ?_⟩) | (go_at_call 71; (with_reducible refine (impl_isWithin.calls a0_1 (-1024) 1024 false _ A4.out).mono ?_); rintro e w' ⟨rfl, ⟨nd, rfl⟩⟩))
   go_ret
   exact ⟨by first | rfl | (simp [errW_none, errW_some] <;> rfl) | (simp [*, errW_none, errW_some] <;> rfl), by repeat (first | (with_reducible first | exact HB.out | apply q1c | apply q2c | apply q3c | refine q4c ?_ GE117.out) | exact HB.out)⟩
 ·replace c3 := Bool.eq_false_iff.mpr c3
  subst c3
  have H1 : (some false) = some r := by rw [if_neg (show ¬ (false = true) by decide)] at H; exact H
  clear H
  have H := H1
  clear H1
  obtain rfl := Option.some.inj H
  go_enter Tryd.func53, Tryd.ntmps53
  go_wp2_with (first | ((with_reducible refine quc (N := 1) rfl ?_); refine qhc ?hg (N := 1) ?hd (cs := #[.int .i64 a0_0, .int .i64 a0_1, .int .i64 a0_2, .int .i64 a0_3, .int .i64 a0_4]) (t := 45) ?hr ?_; (case hd => rfl); (case hg => rfl); (case hr => first | (go_simp; done) | (go_simp; rfl)); intro gb117 hg w19 hbox hb; have n0_ := qgc (q9c (by repeat (first | (with_reducible first | exact HB.out | apply q1c | apply q2c | apply q3c) | exact HB.out)) hb); have n1_ := qgc (hbox); have n2_ := qgc ((by rw [hg]; exact (qac (by repeat (first | (with_reducible first | exact HB.out | apply q1c | apply q2c | apply q3c) | exact HB.out))) : w.heap.size ≤ gb117)); have n3_ := qgc ((by rw [hg]; exact (qac (by repeat (first | (with_reducible first | exact HB.out | apply q1c | apply q2c | apply q3c) | exact HB.out))) : w.heap.size ≤ gb117)); clear HB; have HB := n0_; have BK117 := n1_; have GW117 := n2_; have GE117 := n3_; clear n0_ n1_ n2_ n3_; clear hb hbox hg; have hcz20_0 : w19.cell? ⟨gb117, 0, none⟩ = some (.int .i64 a0_0) := (qcc BK117.out 0).trans rfl; have hcz20_1 : w19.cell? ⟨gb117, 1, none⟩ = some (.int .i64 a0_1) := (qcc BK117.out 1).trans rfl; have hcz20_2 : w19.cell? ⟨gb117, 2, none⟩ = some (.int .i64 a0_2) := (qcc BK117.out 2).trans rfl; have hcz20_3 : w19.cell? ⟨gb117, 3, none⟩ = some (.int .i64 a0_3) := (qcc BK117.out 3).trans rfl; have hcz20_4 : w19.cell? ⟨gb117, 4, none⟩ = some (.int .i64 a0_4) := (qcc BK117.out 4).trans rfl; have hfz20_0 := qbc BK117.out 0; have hfz20_1 := qbc BK117.out 1; have hfz20_2 := qbc BK117.out 2; have hfz20_3 := qbc BK117.out 3; have hfz20_4 := qbc BK117.out 4) | ((with_reducible refine qtc (f := 71) rfl ?_); refine goesL_ (some 6) rfl rfl Tryd.func71 (by kernel_rfl) rfl #[.int .i64 a0_0, .int .i64 (-1024), .int .i64 1024] rfl (by (try simp only [List.map_toArray, List.map_cons, List.map_nil]); first | done | rfl | (simp only [List.length_drop, List.length_take]; rfl)) ?_; (with_reducible refine (impl_isWithin.calls a0_0 (-1024) 1024 false _ A2.out).mono ?_); rintro e w' ⟨rfl, ⟨nd, rfl⟩⟩; refine ⟨_, rfl, ?_⟩))
  go_ret
  exact ⟨by first | rfl | (simp [errW_none, errW_some] <;> rfl) | (simp [*, errW_none, errW_some] <;> rfl), by repeat (first | (with_reducible first | exact HB.out | apply q1c | apply q2c | apply q3c | refine q4c ?_ GE117.out) | exact HB.out)⟩
end Go.Proofs.YtcnkfnkdcjpkoaaDoor.PFnJetText
