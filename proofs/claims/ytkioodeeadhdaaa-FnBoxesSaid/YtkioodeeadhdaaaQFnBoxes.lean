/- The walk of the law FnBoxes at the answer true: where its plain function answers true, the Go function returns true and leaves what was there. No condition beside. By programs of this session out of the print. -/
import Derived.Test.YtkioodeeadhdaaaQFnBoxesA
namespace Go.Proofs.Ytkioodeeadhdaaa.PFnBoxes
open Go.RowKit Go.Proofs.YtkioodeeadhdaaaW.PrintWords Go.Proofs.YtkioodeeadhdaaaW.PrintLast Go.Proofs.YtkioodeeadhdaaaW.PrintMore
attribute [local go_sem] max2_int min2_int max_two min_two max_three min_three max_four min_four   -- for this text's walks alone
set_option linter.unusedVariables false
set_option linter.unusedSimpArgs false

set_option maxHeartbeats 8000000 in
set_option maxRecDepth 100000 in
theorem laws_FnBoxes.calls (k : Nat) (A0 : Option Addr) (c0 : Nat) (l0 : List Int) (r : Bool) (w : World) (hr0 : Kd.C (Kd.int .u8) w A0 l0.length l0) (hc0 : l0.length ≤ c0) (h : laws_FnBoxes.f k l0 = some r) (hr : r = true) :
 Calls Try.prog 12 #[.slice A0 l0.length c0] w fun e w' => e = .returned (.bool r) ∧ Below w.heap.size w w' := by
 have HR := qg hr
 clear hr
 have hu67 := Try.underlying67
 have hu25 := Try.underlying25
 have HR0 := qg hr0
 have HC0 := qg hc0
 clear hr0 hc0
 have HB := qg (Below.refl w.heap.size w)
 have H : ((laws_big.f l0).bind fun t321 => (if t321 = true then (some true) else ((spec_DrawBoxOf.f k l0).bind fun t322 => ((impl_BoxOf.f k t322).bind fun bt325 => (laws_FnBoxes.l0 k l0 t322 bt325.2.2.2.2 (decide ((t322.length : Int) > 0)) 0 bt325.1 bt325.2.1 bt325.2.2.1 bt325.2.2.2.1))))) = some r := h
 clear h
 replace H := Option.bind_eq_some_iff.mp H
 obtain ⟨t321, A20, H⟩ := H
 replace H : (if t321 = true then (some true) else ((spec_DrawBoxOf.f k l0).bind fun t322 => ((impl_BoxOf.f k t322).bind fun bt325 => (laws_FnBoxes.l0 k l0 t322 bt325.2.2.2.2 (decide ((t322.length : Int) > 0)) 0 bt325.1 bt325.2.1 bt325.2.2.1 bt325.2.2.2.1)))) = some r := H
 have A2 := qg A20
 clear A20
 by_cases c3 : t321 = true
 ·subst c3
  have H1 : (some true) = some r := by rw [if_pos rfl] at H; exact H
  clear H
  have H := H1
  clear H1
  obtain rfl := Option.some.inj H
  go_enter Try.func12, Try.ntmps12
  go_wp2_with (first | ((with_reducible refine qt (f := 14) rfl ?_); refine goesL_ (some 15) rfl rfl Try.func14 (by kernel_rfl) rfl #[.slice A0 l0.length c0] rfl (by (try simp only [List.map_toArray, List.map_cons, List.map_nil]); first | done | rfl | (simp only [List.length_drop, List.length_take]; rfl)) ?_; (with_reducible refine (laws_big.calls _ _ l0 true _ ?side1 ?side2 A2.out).mono ?_); (case side1 => repeat (first | exact HR0.out | (with_reducible refine qo ?_ _) | (with_reducible refine qr ?_ _) | (with_reducible refine qs ?_))); (case side2 => exact HC0.out); rintro e w' ⟨rfl, ⟨nd, rfl⟩⟩; refine ⟨_, rfl, ?_⟩))
  go_ret
  exact ⟨by first | rfl | (simp [errW_none, errW_some] <;> rfl) | (simp [*, errW_none, errW_some] <;> rfl), by repeat (first | (with_reducible first | exact HB.out | apply q1 | apply q2 | apply q3) | exact HB.out)⟩
 ·replace c3 := Bool.eq_false_iff.mpr c3
  subst c3
  have H1 : ((spec_DrawBoxOf.f k l0).bind fun t322 => ((impl_BoxOf.f k t322).bind fun bt325 => (laws_FnBoxes.l0 k l0 t322 bt325.2.2.2.2 (decide ((t322.length : Int) > 0)) 0 bt325.1 bt325.2.1 bt325.2.2.1 bt325.2.2.2.1))) = some r := by rw [if_neg (show ¬ (false = true) by decide)] at H; exact H
  clear H
  have H := H1
  clear H1
  replace H := Option.bind_eq_some_iff.mp H
  obtain ⟨t322, A40, H⟩ := H
  replace H : ((impl_BoxOf.f k t322).bind fun bt325 => (laws_FnBoxes.l0 k l0 t322 bt325.2.2.2.2 (decide ((t322.length : Int) > 0)) 0 bt325.1 bt325.2.1 bt325.2.2.1 bt325.2.2.2.1)) = some r := H
  have A4 := qg A40
  clear A40
  replace H := Option.bind_eq_some_iff.mp H
  obtain ⟨⟨t325, t326, t327, t328, t329⟩, A50, H⟩ := H
  replace H : (laws_FnBoxes.l0 k l0 t322 t329 (decide ((t322.length : Int) > 0)) 0 t325 t326 t327 t328) = some r := H
  have A5 := qg A50
  clear A50
  have H' := qg H
  clear H
  go_enter Try.func12, Try.ntmps12
  go_wp2_with (first | ((with_reducible refine qt (f := 14) rfl ?_); refine goesL_ (some 15) rfl rfl Try.func14 (by kernel_rfl) rfl #[.slice A0 l0.length c0] rfl (by (try simp only [List.map_toArray, List.map_cons, List.map_nil]); first | done | rfl | (simp only [List.length_drop, List.length_take]; rfl)) ?_; (with_reducible refine (laws_big.calls _ _ l0 false _ ?side1 ?side2 A2.out).mono ?_); (case side1 => repeat (first | exact HR0.out | (with_reducible refine qo ?_ _) | (with_reducible refine qr ?_ _) | (with_reducible refine qs ?_))); (case side2 => exact HC0.out); rintro e w' ⟨rfl, ⟨nd, rfl⟩⟩; refine ⟨_, rfl, ?_⟩) | ((with_reducible refine qt (f := 49) rfl ?_); refine goesL_ (some 17) rfl rfl Try.func49 (by kernel_rfl) rfl #[.slice A0 l0.length c0] rfl (by (try simp only [List.map_toArray, List.map_cons, List.map_nil]); first | done | rfl | (simp only [List.length_drop, List.length_take]; rfl)) ?_; (with_reducible refine (spec_DrawBoxOf.calls k _ _ l0 t322 _ ?side1 ?side2 A4.out).mono ?_); (case side1 => repeat (first | exact HR0.out | (with_reducible refine qo ?_ _) | (with_reducible refine qr ?_ _) | (with_reducible refine qs ?_))); (case side2 => exact HC0.out); rintro e w6 ⟨v323, rfl, ho0, hb⟩; refine ⟨_, rfl, ?_⟩; have n0_ := qg (Kd.R_lower ho0 (qa (by repeat (first | (with_reducible first | exact HB.out | apply q1 | apply q2 | apply q3) | exact HB.out)))); have n1_ := qg (q9 (by repeat (first | (with_reducible first | exact HB.out | apply q1 | apply q2 | apply q3) | exact HB.out)) hb); clear HB; have HO324 := n0_; have HB := n1_; clear n0_ n1_; (try clear hb); (try clear hb2); (try clear hk); (try clear hi); (try clear ho0); obtain ⟨Ao7, co7, eo7⟩ := Kd.R_slice HO324.out; subst eo7) | ((with_reducible refine qt (f := 50) rfl ?_); refine goesL_ (some 20) rfl rfl Try.func50 (by kernel_rfl) rfl #[.slice Ao7 t322.length co7] rfl (by (try simp only [List.map_toArray, List.map_cons, List.map_nil]); first | done | rfl | (simp only [List.length_drop, List.length_take]; rfl)) ?_; (with_reducible refine (impl_BoxOf.calls k _ _ t322 t325 t326 t327 t328 t329 _ ?side1 ?side2 A5.out).mono ?_); (case side1 => repeat (first | exact (Kd.R_reads' HO324.out).2.2 | (with_reducible refine qo ?_ _) | (with_reducible refine qr ?_ _) | (with_reducible refine qs ?_))); (case side2 => exact (Kd.R_reads' HO324.out).2.1); rintro e w8 ⟨rfl, hb⟩; refine ⟨_, rfl, ?_⟩; have n0_ := qg (qj (by (with_reducible repeat (first | apply qk | apply ql | apply qm)); exact HO324.out) hb); have n1_ := qg (q9 (by repeat (first | (with_reducible first | exact HB.out | apply q1 | apply q2 | apply q3) | exact HB.out)) hb); clear HO324; clear HB; have HO324 := n0_; have HB := n1_; clear n0_ n1_; (try clear hb); (try clear hb2); (try clear hk); (try clear hi)) | ((with_reducible refine qu (N := 4) rfl ?_); (try (refine gate_guard (by rfl) ?_; dsimp only)); refine qh ?hg (N := 4) ?hd (cs := #[.int .i64 0, .int .i64 0, .int .i64 0, .int .i64 0]) (t := 67) ?hr ?_; (case hd => rfl); (case hg => rfl); (case hr => first | (go_simp; done) | (go_simp; rfl)); intro gb330 hg w9 hbox hb; have n0_ := qg (qj (by (with_reducible repeat (first | apply qk | apply ql | apply qm)); exact HO324.out) hb); have n1_ := qg (q9 (by repeat (first | (with_reducible first | exact HB.out | apply q1 | apply q2 | apply q3) | exact HB.out)) hb); have n2_ := qg (hbox); have n3_ := qg ((by rw [hg]; exact (qa (by repeat (first | (with_reducible first | exact HB.out | apply q1 | apply q2 | apply q3) | exact HB.out))) : w.heap.size ≤ gb330)); have n4_ := qg ((by rw [hg]; exact (qa (by repeat (first | (with_reducible first | exact HB.out | apply q1 | apply q2 | apply q3) | exact HB.out))) : w.heap.size ≤ gb330)); clear HO324; clear HB; have HO324 := n0_; have HB := n1_; have BK330 := n2_; have GW330 := n3_; have GE330 := n4_; clear n0_ n1_ n2_ n3_ n4_; clear hb hbox hg; have hcz10_0 : w9.cell? ⟨gb330, 0, none⟩ = some (.int .i64 0) := (qc BK330.out 0).trans rfl; have hcz10_1 : w9.cell? ⟨gb330, 1, none⟩ = some (.int .i64 0) := (qc BK330.out 1).trans rfl; have hcz10_2 : w9.cell? ⟨gb330, 2, none⟩ = some (.int .i64 0) := (qc BK330.out 2).trans rfl; have hcz10_3 : w9.cell? ⟨gb330, 3, none⟩ = some (.int .i64 0) := (qc BK330.out 3).trans rfl; have hfz10_0 := qb BK330.out 0; have hfz10_1 := qb BK330.out 1; have hfz10_2 := qb BK330.out 2; have hfz10_3 := qb BK330.out 3))
  go_loopg [6, 7] k (fun kq v6 v7 w' => ∃ (x6_1 : Bool) (x7_1 : Int), v6 = .bool x6_1 ∧ v7 = .int .i64 x7_1 ∧ Aside0 (laws_FnBoxes.l0 kq l0 t322 t329 x6_1 x7_1 t325 t326 t327 t328 = some r) ∧ Aside0 (kq ≤ k) ∧ Aside0 (Kd.R k25 25 w' w.heap.size (fun _ => True) (.slice Ao7 t322.length co7) t322) ∧ Aside0 (w'.heap[gb330]? = some (.cells #[.int .i64 t325, .int .i64 t326, .int .i64 t327, .int .i64 t328] 67 (0, 0))) ∧ Aside0 (Below w.heap.size w w'))
  case atStart => exact ⟨(decide ((t322.length : Int) > 0)), (0), (by first | rfl | (simp; done) | (simp [*]; done)), (by first | rfl | (simp; done) | (simp [*]; done)), H', ⟨Nat.le_refl _⟩, ⟨by (with_reducible repeat (first | apply qk | apply ql | apply qm)); exact Kd.R_mono (Kd.R_far (p := ⟨gb330, 3, none⟩) (Kd.R_far (p := ⟨gb330, 2, none⟩) (Kd.R_far (p := ⟨gb330, 1, none⟩) (Kd.R_far (p := ⟨gb330, 0, none⟩) (Kd.R_types HO324.out BK330.out (by decide)) (fun _ hk => hk.2) (.int .i64 t325)) (fun _ hk => hk.2) (.int .i64 t326)) (fun _ hk => hk.2) (.int .i64 t327)) (fun _ hk => hk.2) (.int .i64 t328)) (fun _ hk => trivial)⟩, ⟨by (with_reducible repeat (first | refine q5 ?_ _ | refine q6 ?_ | refine q7 ?_ _)); refine qf (cs := #[.int .i64 t325, .int .i64 t326, .int .i64 t327, .int .i64 0]) ?_ 3 _ rfl; (with_reducible repeat (first | refine q5 ?_ _ | refine q6 ?_ | refine q7 ?_ _)); refine qf (cs := #[.int .i64 t325, .int .i64 t326, .int .i64 0, .int .i64 0]) ?_ 2 _ rfl; (with_reducible repeat (first | refine q5 ?_ _ | refine q6 ?_ | refine q7 ?_ _)); refine qf (cs := #[.int .i64 t325, .int .i64 0, .int .i64 0, .int .i64 0]) ?_ 1 _ rfl; (with_reducible repeat (first | refine q5 ?_ _ | refine q6 ?_ | refine q7 ?_ _)); refine qf (cs := #[.int .i64 0, .int .i64 0, .int .i64 0, .int .i64 0]) ?_ 0 _ rfl; (with_reducible repeat (first | refine q5 ?_ _ | refine q6 ?_ | refine q7 ?_ _)); exact BK330.out⟩, ⟨by repeat (first | (with_reducible first | exact HB.out | apply q1 | apply q2 | apply q3 | refine q4 ?_ GE330.out) | exact HB.out)⟩⟩
  case round => as_aux_lemma =>
   clear H'
   (try clear c1); (try clear p2); (try clear c3); (try clear c4); (try clear c5); (try clear hcz10_0); (try clear hcz10_1); (try clear hcz10_2); (try clear hcz10_3); (try clear hfz10_0); (try clear hfz10_1); (try clear hfz10_2); (try clear hfz10_3)
   obtain ⟨x6_1, x7_1, rfl, rfl, HA, HK1, HO_3, BK330, HB⟩ := hrel
   cases gk with
   | zero => exact absurd HA.out (by simp [laws_FnBoxes.l0])
   | succ k1 =>
    have H := HA.out
    clear HA
    simp only [laws_FnBoxes.l0] at H
    by_cases c11 : x7_1 < (t322.length : Int)
    ·rw [if_pos c11] at H
     have c11b0 : decide (x7_1 < (t322.length : Int)) = true := decide_eq_true c11
     clear c11
     by_cases c12 : x6_1 = true
     ·subst c12
      have H1 : (if 0 ≤ x7_1 then ((impl_IsPlace.f ((rd_T25 t322 x7_1).f0) ((rd_T25 t322 x7_1).f1)).bind fun t383 => (laws_FnBoxes.l0 k1 l0 t322 t329 t383 (wrap64 (x7_1 + 1)) t325 t326 t327 t328)) else (none)) = some r := by rw [if_pos rfl] at H; exact H
      clear H
      have H := H1
      clear H1
      by_cases c13 : 0 ≤ x7_1
      ·rw [if_pos c13] at H
       have c13b0 : decide (0 ≤ x7_1) = true := decide_eq_true c13
       clear c13
       replace H := Option.bind_eq_some_iff.mp H
       obtain ⟨t383, A140, H⟩ := H
       replace H : (laws_FnBoxes.l0 k1 l0 t322 t329 t383 (wrap64 (x7_1 + 1)) t325 t326 t327 t328) = some r := H
       have A14 := qg A140
       clear A140
       have H' := qg H
       clear H
       have p382 : 0 ≤ (x7_1 : Int) := of_decide_eq_true (by first | (with_reducible assumption) | assumption)
       have q382 : x7_1 < (t322.length : Int) := of_decide_eq_true (by first | (with_reducible assumption) | assumption)
       obtain ⟨ad382, e382, hx382_0, hx382_1⟩ := at_T25 (Kd.R_reads' HO_3.out).2.2 x7_1 p382 q382
       cases e382
       replace p382 := eq_true p382
       replace q382 := eq_true q382
       go_wp2_with (first | (go_at_call 34; (with_reducible refine (impl_IsPlace.calls ((rd_T25 t322 x7_1).f0) ((rd_T25 t322 x7_1).f1) t383 _ A14.out).mono ?_); rintro e w15 ⟨rfl, hb⟩; have n0_ := qg (qj (by (with_reducible repeat (first | apply qk | apply ql | apply qm)); exact HO_3.out) hb); have n1_ := qg (q8 (g := gb330) (o := .cells #[.int .i64 t325, .int .i64 t326, .int .i64 t327, .int .i64 t328] 67 (0, 0)) (by (with_reducible repeat (first | refine q5 ?_ _ | refine q6 ?_ | refine q7 ?_ _)); exact BK330.out) hb); have n2_ := qg (q9 (by repeat (first | (with_reducible first | exact HB.out | apply q1 | apply q2 | apply q3 | refine q4 ?_ GE330.out) | exact HB.out)) hb); clear HO_3; clear BK330; clear HB; have HO_3 := n0_; have BK330 := n1_; have HB := n2_; clear n0_ n1_ n2_; (try clear hb); (try clear hb2); (try clear hk); (try clear hi)))
       go_roundg k1
       case measure => have := HK1.out; omega
       case rel => exact ⟨(t383), (wrap64 (x7_1 + 1)), (by first | rfl | (simp; done) | (simp [*]; done)), (by first | rfl | (simp; done) | (simp [*]; done)), H', ⟨by have := HK1.out; omega⟩, ⟨by (with_reducible repeat (first | apply qk | apply ql | apply qm)); exact HO_3.out⟩, ⟨by (with_reducible repeat (first | refine q5 ?_ _ | refine q6 ?_ | refine q7 ?_ _)); exact BK330.out⟩, ⟨by repeat (first | (with_reducible first | exact HB.out | apply q1 | apply q2 | apply q3 | refine q4 ?_ GE330.out) | exact HB.out)⟩⟩
      ·rw [if_neg c13] at H
       exact absurd H (by simp)
     ·replace c12 := Bool.eq_false_iff.mpr c12
      subst c12
      have H1 : (laws_FnBoxes.l0 k1 l0 t322 t329 false (wrap64 (x7_1 + 1)) t325 t326 t327 t328) = some r := by rw [if_neg (show ¬ (false = true) by decide)] at H; exact H
      clear H
      have H := H1
      clear H1
      have H' := qg H
      clear H
      go_wp2
      go_roundg k1
      case measure => have := HK1.out; omega
      case rel => exact ⟨(false), (wrap64 (x7_1 + 1)), (by first | rfl | (simp; done) | (simp [*]; done)), (by first | rfl | (simp; done) | (simp [*]; done)), H', ⟨by have := HK1.out; omega⟩, ⟨by (with_reducible repeat (first | apply qk | apply ql | apply qm)); exact HO_3.out⟩, ⟨by (with_reducible repeat (first | refine q5 ?_ _ | refine q6 ?_ | refine q7 ?_ _)); exact BK330.out⟩, ⟨by repeat (first | (with_reducible first | exact HB.out | apply q1 | apply q2 | apply q3 | refine q4 ?_ GE330.out) | exact HB.out)⟩⟩
    ·rw [if_neg c11] at H
     have c11b0 : decide (x7_1 < (t322.length : Int)) = false := decide_eq_false c11
     clear c11
     by_cases c16 : (t329 != x6_1) = true
     ·rw [if_pos c16] at H
      have c16b0 : (t329 != x6_1) = true := c16
      (try (have c16b1 : decide (t329 = x6_1) = false := by simpa using c16))
      (try (have c16b2 : (t329 == x6_1) = false := by simpa using c16))
      (try (have c16b3 : ¬ (t329 = x6_1) := by simpa using c16))
      clear c16
      obtain rfl := Option.some.inj H
      exact absurd HR.out (by decide)
     ·rw [if_neg c16] at H
      have c16b0 : (t329 != x6_1) = false := by simpa using c16
      (try (have c16b1 : decide (t329 = x6_1) = true := by simpa using c16))
      (try (have c16b2 : (t329 == x6_1) = true := by simpa using c16))
      clear c16
      obtain ⟨y331, hy331⟩ : ∃ y_ : List Bool, y_ = (([false, false, false, false] : List Bool)) := ⟨_, rfl⟩
      replace H : (laws_FnBoxes.l1 k1 l0 t322 t329 y331 0 t325 t326 t327 t328) = some r := by first | (rw [hy331]; with_reducible exact H) | (have H2_ := (Option.bind_some _ _).symm.trans H; rw [hy331]; with_reducible exact H2_) | (have H2_ := (Option.bind_some _ _).symm.trans H; with_reducible exact H2_) | with_reducible exact H | (rw [hy331]; exact H) | exact H
      have Ny331 := qg hy331
      clear hy331
      have H' := qg H
      clear H
      go_wp2_with (first | ((with_reducible refine qu (N := 43) rfl ?_); (try (refine gate_guard (by rfl) ?_; dsimp only)); refine Kd.R_lit Kd.bool _ 4 ?hg (N := 43) ?hd (xs := ([false, false, false, false] : List Bool)) (inner := [.bool false, .bool false, .bool false, .bool false]) (ok := fun _ => True) (okp := fun _ => True) ?hr ?hp (fun _ hk => hk) trivial (Below.refl _ _) (Nat.le_refl _) (by simp) ?_; (case hd => rfl); (case hg => rfl); (case hr => first | (go_simp; done) | (go_simp; rfl)); (case hp => exact (Reps.one (show Kd.M Kd.bool _ _ _ false [.bool false] from rfl) (Reps.one (show Kd.M Kd.bool _ _ _ false [.bool false] from rfl) (Reps.one (show Kd.M Kd.bool _ _ _ false [.bool false] from rfl) (Reps.one (show Kd.M Kd.bool _ _ _ false [.bool false] from rfl) (Reps.none _ _)))))); intro v332 w17 ho18 hb hg_ hnew_; clear hg_ hnew_; (first | rw [← Ny331.out] at ho18 | (simp only [Int.reduceToNat] at ho18; rw [← Ny331.out] at ho18)); have n0_ := qg (qj (by (with_reducible repeat (first | apply qk | apply ql | apply qm)); exact HO_3.out) hb); have n1_ := qg (Kd.R_lower ho18 (qa (by repeat (first | (with_reducible first | exact HB.out | apply q1 | apply q2 | apply q3 | refine q4 ?_ GE330.out) | exact HB.out)))); have n2_ := qg (q8 (g := gb330) (o := .cells #[.int .i64 t325, .int .i64 t326, .int .i64 t327, .int .i64 t328] 67 (0, 0)) (by (with_reducible repeat (first | refine q5 ?_ _ | refine q6 ?_ | refine q7 ?_ _)); exact BK330.out) hb); have n3_ := qg (q9 (by repeat (first | (with_reducible first | exact HB.out | apply q1 | apply q2 | apply q3 | refine q4 ?_ GE330.out) | exact HB.out)) hb); clear HO_3; clear BK330; clear HB; have HO_3 := n0_; have HO333 := n1_; have BK330 := n2_; have HB := n3_; clear n0_ n1_ n2_ n3_; clear hb ho18))
      go_loopg [9] k1 (fun kq v9 w' => ∃ (x8_2 : List Bool) (x9_2 : Int), v9 = .int .i64 x9_2 ∧ Aside0 (laws_FnBoxes.l1 kq l0 t322 t329 x8_2 x9_2 t325 t326 t327 t328 = some r) ∧ Aside0 (kq ≤ k1) ∧ Aside0 (Kd.R k25 25 w' w.heap.size (fun _ => True) (.slice Ao7 t322.length co7) t322) ∧ Aside0 (Kd.R Kd.bool 4 w' w.heap.size (fun _ => True) v332 x8_2) ∧ Aside0 (w'.heap[gb330]? = some (.cells #[.int .i64 t325, .int .i64 t326, .int .i64 t327, .int .i64 t328] 67 (0, 0))) ∧ Aside0 (Below w.heap.size w w'))
      case atStart => exact ⟨(y331), (0), (by first | rfl | (simp; done) | (simp [*]; done)), H', ⟨Nat.le_refl _⟩, ⟨by (with_reducible repeat (first | apply qk | apply ql | apply qm)); exact HO_3.out⟩, ⟨by (with_reducible repeat (first | apply qk | apply ql | apply qm)); exact HO333.out⟩, ⟨by (with_reducible repeat (first | refine q5 ?_ _ | refine q6 ?_ | refine q7 ?_ _)); exact BK330.out⟩, ⟨by repeat (first | (with_reducible first | exact HB.out | apply q1 | apply q2 | apply q3 | refine q4 ?_ GE330.out) | exact HB.out)⟩⟩
      case round => as_aux_lemma =>
       clear H'
       (try clear c1); (try clear p2); (try clear c3); (try clear p3); (try clear q3); (try clear hx3); (try clear c4); (try clear c5); (try clear p6); (try clear c11); (try clear c11b0); (try clear c12); (try clear c13); (try clear c13b0); (try clear c14); (try clear c16); (try clear c16b0); (try clear c16b1); (try clear c16b2); (try clear hcz10_0); (try clear hcz10_1); (try clear hcz10_2); (try clear hcz10_3); (try clear hfz10_0); (try clear hfz10_1); (try clear hfz10_2); (try clear hfz10_3); (try clear hx382_0); (try clear hx382_1); (try clear p2); (try clear p382); (try clear q382)
       obtain ⟨x8_2, x9_2, rfl, HA, HK2, HO_3, HO_8, BK330, HB⟩ := hrel
       cases gk with
       | zero => exact absurd HA.out (by simp [laws_FnBoxes.l1])
       | succ k2 =>
        have H := HA.out
        clear HA
        simp only [laws_FnBoxes.l1] at H
        have HC19 := qg H
        clear H
        go_upto_region 14 with (fail)
        go_cut [50] (fun v50 wc => ∃ (kq : Nat) (x50_18 : Bool), v50 = .bool x50_18 ∧ Aside0 (laws_FnBoxes.j2 kq l0 t322 t329 x8_2 x9_2 x50_18 t325 t326 t327 t328 = some r) ∧ Aside0 (kq ≤ k2) ∧ Aside0 (Kd.R k25 25 wc w.heap.size (fun _ => True) (.slice Ao7 t322.length co7) t322) ∧ Aside0 (Kd.R Kd.bool 4 wc w.heap.size (fun _ => True) v332 x8_2) ∧ Aside0 (wc.heap[gb330]? = some (.cells #[.int .i64 t325, .int .i64 t326, .int .i64 t327, .int .i64 t328] 67 (0, 0))) ∧ Aside0 (Below w.heap.size w wc))
        case first => as_aux_lemma =>
         have H := HC19.out
         clear HC19
         by_cases c20 : t329 = true
         ·subst c20
          have H1 : (laws_FnBoxes.j2 k2 l0 t322 true x8_2 x9_2 (decide (x9_2 < (t322.length : Int))) t325 t326 t327 t328) = some r := by rw [if_pos rfl] at H; exact H
          clear H
          have H := H1
          clear H1
          have H' := qg H
          clear H
          go_wp2
          go_meet
          case rel => exact ⟨_, (decide (x9_2 < (t322.length : Int))), (by first | rfl | (simp; done) | (simp [*]; done)), H', ⟨by have := HK1.out; have := HK2.out; first | omega | exact Nat.le_refl _⟩, ⟨by (with_reducible repeat (first | apply qk | apply ql | apply qm)); exact HO_3.out⟩, ⟨by (with_reducible repeat (first | apply qk | apply ql | apply qm)); exact HO_8.out⟩, ⟨by (with_reducible repeat (first | refine q5 ?_ _ | refine q6 ?_ | refine q7 ?_ _)); exact BK330.out⟩, ⟨by repeat (first | (with_reducible first | exact HB.out | apply q1 | apply q2 | apply q3 | refine q4 ?_ GE330.out) | exact HB.out)⟩⟩
         ·replace c20 := Bool.eq_false_iff.mpr c20
          subst c20
          have H1 : (laws_FnBoxes.j2 k2 l0 t322 false x8_2 x9_2 false t325 t326 t327 t328) = some r := by rw [if_neg (show ¬ (false = true) by decide)] at H; exact H
          clear H
          have H := H1
          clear H1
          have H' := qg H
          clear H
          go_wp2
          go_meet
          case rel => exact ⟨_, (false), (by first | rfl | (simp; done) | (simp [*]; done)), H', ⟨by have := HK1.out; have := HK2.out; first | omega | exact Nat.le_refl _⟩, ⟨by (with_reducible repeat (first | apply qk | apply ql | apply qm)); exact HO_3.out⟩, ⟨by (with_reducible repeat (first | apply qk | apply ql | apply qm)); exact HO_8.out⟩, ⟨by (with_reducible repeat (first | refine q5 ?_ _ | refine q6 ?_ | refine q7 ?_ _)); exact BK330.out⟩, ⟨by repeat (first | (with_reducible first | exact HB.out | apply q1 | apply q2 | apply q3 | refine q4 ?_ GE330.out) | exact HB.out)⟩⟩
        case rest => as_aux_lemma =>
         clear HC19
         (try clear c1); (try clear c2); (try clear p2); (try clear c3); (try clear p3); (try clear q3); (try clear hx3); (try clear c4); (try clear c5); (try clear p6); (try clear c11); (try clear c11b0); (try clear c12); (try clear c13); (try clear c13b0); (try clear c14); (try clear c16); (try clear c16b0); (try clear c16b1); (try clear c16b2); (try clear c20); (try clear hcz10_0); (try clear hcz10_1); (try clear hcz10_2); (try clear hcz10_3); (try clear hfz10_0); (try clear hfz10_1); (try clear hfz10_2); (try clear hfz10_3); (try clear hx382_0); (try clear hx382_1); (try clear p2); (try clear p3); (try clear p382); (try clear p6); (try clear q3); (try clear q382)
         obtain ⟨kq, x50_18, rfl, HA, HJ18, HO_3, HO_8, BK330, HB⟩ := hcut
         cases kq with
         | zero => exact absurd HA.out (by simp [laws_FnBoxes.j2])
         | succ kj18 =>
          have H := HA.out
          clear HA
          simp only [laws_FnBoxes.j2] at H
          by_cases c21 : x50_18 = true
          ·subst c21
           have H1 : (if 0 ≤ x9_2 then (if x9_2 < (t322.length : Int) then ((impl_InBox.f t325 t326 t327 t328 ((rd_T25 t322 x9_2).f0) ((rd_T25 t322 x9_2).f1)).bind fun t365 => (if t365 = true then (if 0 < (x8_2.length : Int) then (if rdOf false x8_2 0 = true then (laws_FnBoxes.j5 kj18 l0 t322 t329 (x8_2.set (0 : Int).toNat true) x9_2 t325 t326 t327 t328) else (laws_FnBoxes.j5 kj18 l0 t322 t329 (x8_2.set (0 : Int).toNat (((rd_T25 t322 x9_2).f0) == t325)) x9_2 t325 t326 t327 t328)) else (none)) else (some false))) else (none)) else (none)) = some r := by rw [if_pos rfl] at H; exact H
           clear H
           have H := H1
           clear H1
           by_cases c22 : 0 ≤ x9_2
           ·rw [if_pos c22] at H
            have c22b0 : decide (0 ≤ x9_2) = true := decide_eq_true c22
            clear c22
            by_cases c23 : x9_2 < (t322.length : Int)
            ·rw [if_pos c23] at H
             have c23b0 : decide (x9_2 < (t322.length : Int)) = true := decide_eq_true c23
             clear c23
             replace H := Option.bind_eq_some_iff.mp H
             obtain ⟨t365, A240, H⟩ := H
             replace H : (if t365 = true then (if 0 < (x8_2.length : Int) then (if rdOf false x8_2 0 = true then (laws_FnBoxes.j5 kj18 l0 t322 t329 (x8_2.set (0 : Int).toNat true) x9_2 t325 t326 t327 t328) else (laws_FnBoxes.j5 kj18 l0 t322 t329 (x8_2.set (0 : Int).toNat (((rd_T25 t322 x9_2).f0) == t325)) x9_2 t325 t326 t327 t328)) else (none)) else (some false)) = some r := H
             have A24 := qg A240
             clear A240
             by_cases c25 : t365 = true
             ·subst c25
              have H1 : (if 0 < (x8_2.length : Int) then (if rdOf false x8_2 0 = true then (laws_FnBoxes.j5 kj18 l0 t322 t329 (x8_2.set (0 : Int).toNat true) x9_2 t325 t326 t327 t328) else (laws_FnBoxes.j5 kj18 l0 t322 t329 (x8_2.set (0 : Int).toNat (((rd_T25 t322 x9_2).f0) == t325)) x9_2 t325 t326 t327 t328)) else (none)) = some r := by rw [if_pos rfl] at H; exact H
              clear H
              have H := H1
              clear H1
              have HC26 := qg H
              clear H
              try go_wp2
              have n0_ := qg (qm HO_3.out)
              have n1_ := qg (qm HO_8.out)
              have n2_ := qg (q6 BK330.out)
              have n3_ := qg (q3 HB.out)
              clear HO_3; clear HO_8; clear BK330; clear HB
              have HO_3 := n0_
              have HO_8 := n1_
              have BK330 := n2_
              have HB := n3_
              clear n0_ n1_ n2_ n3_
              have p364 : 0 ≤ (x9_2 : Int) := of_decide_eq_true (by first | (with_reducible assumption) | assumption)
              have q364 : x9_2 < (t322.length : Int) := of_decide_eq_true (by first | (with_reducible assumption) | assumption)
              obtain ⟨ad364, e364, hx364_0, hx364_1⟩ := at_T25 (Kd.R_reads' HO_3.out).2.2 x9_2 p364 q364
              cases e364
              replace p364 := eq_true p364
              replace q364 := eq_true q364
              refine start_ (n := 7) (S := fun w' => w'.cell? ⟨gb330, 0, none⟩ = some (.int .i64 t325) ∧ w'.cell? ⟨gb330, 1, none⟩ = some (.int .i64 t326) ∧ w'.cell? ⟨gb330, 2, none⟩ = some (.int .i64 t327) ∧ w'.cell? ⟨gb330, 3, none⟩ = some (.int .i64 t328) ∧ w'.cell? (ad364.add ((x9_2).toNat * 2)) = some (.int .i64 ((rd_T25 t322 x9_2).f0)) ∧ w'.cell? ⟨(ad364.add ((x9_2).toNat * 2)).block, (ad364.add ((x9_2).toNat * 2)).off + 1, none⟩ = some (.int .i64 ((rd_T25 t322 x9_2).f1))) (ds := []) #[false, false, false, false, false, false, false] (by kernel_rfl) rfl rfl ⟨(qc BK330.out 0).trans rfl, (qc BK330.out 1).trans rfl, (qc BK330.out 2).trans rfl, (qc BK330.out 3).trans rfl, hx364_0, hx364_1⟩ (fun hHeld => ?_)
              generalize wc.drew = w27 at HO_3 HO_8 BK330 HB hx364_0 hx364_1 hHeld ⊢
              refine pure_ (i := 1) (N := some 54) (v := ?_) (a' := ?_) #[false, true, false, false, false, false, false] rfl rfl (by kernel_rfl) (fun _ _ _ h => h) (Or.inl ⟨by rfl, ?_⟩) ?_ ?_
              rotate_left; focus (intro w'; go_simp; with_reducible rfl)
              rotate_left; focus (simp only [Act.put, p1, p2, p3, i64_w, i32_w]; rfl)
              refine pure_ (i := 2) (N := some 55) (v := ?_) (a' := ?_) #[false, true, true, false, false, false, false] rfl rfl (by kernel_rfl) (fun _ _ _ h => h) (Or.inl ⟨by rfl, ?_⟩) ?_ ?_
              rotate_left; focus (intro w'; go_simp; with_reducible rfl)
              rotate_left; focus (simp only [Act.put, p1, p2, p3, i64_w, i32_w]; rfl)
              refine pure_ (i := 3) (N := some 56) (v := ?_) (a' := ?_) #[false, true, true, true, false, false, false] rfl rfl (by kernel_rfl) (fun _ _ _ h => h) (Or.inl ⟨by rfl, ?_⟩) ?_ ?_
              rotate_left; focus (intro w'; go_simp; with_reducible rfl)
              rotate_left; focus (simp only [Act.put, p1, p2, p3, i64_w, i32_w]; rfl)
              refine take_ (i := 0) (N := some 53) (v := ?_) (a' := ?_) #[true, true, true, true, false, false, false] rfl rfl (by kernel_rfl) (fun _ _ _ h => h) (Or.inl ⟨by rfl, ?_⟩) hHeld ?_ ?_
              rotate_left; focus (rintro w' ⟨s0, s1, s2, s3, s4, s5⟩; go_simp; with_reducible rfl)
              rotate_left; focus (simp only [Act.put, p1, p2, p3, i64_w, i32_w]; rfl)
              refine take_ (i := 4) (N := some 57) (v := ?_) (a' := ?_) #[true, true, true, true, true, false, false] rfl rfl (by kernel_rfl) (fun _ _ _ h => h) (Or.inl ⟨by rfl, ?_⟩) hHeld ?_ ?_
              rotate_left; focus (rintro w' ⟨s0, s1, s2, s3, s4, s5⟩; go_simp; with_reducible rfl)
              rotate_left; focus (simp only [Act.put, p1, p2, p3, i64_w, i32_w]; rfl)
              refine one_ (i := 5) (N := some 58) #[true, true, true, true, true, true, false] rfl rfl (by kernel_rfl) (by decide) (fun K hK => ?_)
              refine goes_ Try.func51 (by kernel_rfl) rfl #[.agg #[.int .i64 t325, .int .i64 t326, .int .i64 t327, .int .i64 t328], .agg #[.int .i64 ((rd_T25 t322 x9_2).f0), .int .i64 ((rd_T25 t322 x9_2).f1)]] (by rfl) rfl rfl (by (try simp only [List.map_toArray, List.map_cons, List.map_nil]); first | done | rfl | (simp only [List.length_drop, List.length_take]; rfl)) ?_
              with_reducible refine (impl_InBox.calls t325 t326 t327 t328 ((rd_T25 t322 x9_2).f0) ((rd_T25 t322 x9_2).f1) true _ A24.out).mono ?_
              rintro e w28 ⟨rfl, hb⟩
              have HS4_ := (hb.cell (World.block_lt_of_cell? _ _ (hHeld.2.2.2.2.1))).trans (hHeld.2.2.2.2.1)
              have HS5_ := (hb.cell (World.block_lt_of_cell? _ _ (hHeld.2.2.2.2.2))).trans (hHeld.2.2.2.2.2)
              refine ⟨_, rfl, ?_⟩
              have n0_ := qg (qj (by (with_reducible repeat (first | apply qk | apply ql | apply qm)); exact HO_3.out) hb)
              have n1_ := qg (qj (by (with_reducible repeat (first | apply qk | apply ql | apply qm)); exact HO_8.out) hb)
              have n2_ := qg (q8 (g := gb330) (o := .cells #[.int .i64 t325, .int .i64 t326, .int .i64 t327, .int .i64 t328] 67 (0, 0)) (by (with_reducible repeat (first | refine q5 ?_ _ | refine q6 ?_ | refine q7 ?_ _)); exact BK330.out) hb)
              have n3_ := qg (q9 (by repeat (first | (with_reducible first | exact HB.out | apply q1 | apply q2 | apply q3 | refine q4 ?_ GE330.out) | exact HB.out)) hb)
              clear HO_3; clear HO_8; clear BK330; clear HB
              have HO_3 := n0_
              have HO_8 := n1_
              have BK330 := n2_
              have HB := n3_
              clear n0_ n1_ n2_ n3_
              (try clear hb)
              (try clear hb2)
              (try clear hk)
              (try clear hi)
              refine hK.out _ _ ⟨(qc BK330.out 0).trans rfl, (qc BK330.out 1).trans rfl, (qc BK330.out 2).trans rfl, (qc BK330.out 3).trans rfl, HS4_, HS5_⟩ (fun hHeld => ?_)
              clear hK K
              refine norm_ (a' := ?_) ?_ ?_
              rotate_left; focus (show Act.put _ (some 58) _ = _; simp only [Act.put, p1, p2, p3, i64_w, i32_w]; rfl)
              refine pure_ (i := 6) (N := some 59) (v := ?_) (a' := ?_) #[true, true, true, true, true, true, true] rfl rfl (by kernel_rfl) (fun _ _ _ h => h) (Or.inl ⟨by rfl, ?_⟩) ?_ ?_
              rotate_left; focus (intro w'; go_simp; with_reducible rfl)
              rotate_left; focus (simp only [Act.put, p1, p2, p3, i64_w, i32_w]; rfl)
              refine done_ (by kernel_rfl) ?_
              go_upto_region 18 with (fail)
              go_cut [] (fun wc => ∃ (kq : Nat) (x8_25 : List Bool), Aside0 (laws_FnBoxes.j5 kq l0 t322 t329 x8_25 x9_2 t325 t326 t327 t328 = some r) ∧ Aside0 (kq ≤ kj18) ∧ Aside0 (Kd.R k25 25 wc w.heap.size (fun _ => True) (.slice (some ad364) t322.length co7) t322) ∧ Aside0 (Kd.R Kd.bool 4 wc w.heap.size (fun _ => True) v332 x8_25) ∧ Aside0 (wc.heap[gb330]? = some (.cells #[.int .i64 t325, .int .i64 t326, .int .i64 t327, .int .i64 t328] 67 (0, 0))) ∧ Aside0 (Below w.heap.size w wc))
              case first => as_aux_lemma =>
               have H := HC26.out
               clear HC26
               by_cases c29 : 0 < (x8_2.length : Int)
               ·rw [if_pos c29] at H
                have c29b0 : decide (0 < (x8_2.length : Int)) = true := decide_eq_true c29
                have c29b1 : decide (0 < x8_2.length) = true := decide_eq_true (by omega)
                clear c29
                (first | rw [c29b0] | (simp only [i64_w, i32_w]; rw [c29b0]) | skip)
                obtain ⟨bq30, hbq30⟩ : ∃ b_ : Bool, b_ = (rdOf false x8_2 0) := ⟨_, rfl⟩
                replace H : (if bq30 = true then (laws_FnBoxes.j5 kj18 l0 t322 t329 (x8_2.set (0 : Int).toNat true) x9_2 t325 t326 t327 t328) else (laws_FnBoxes.j5 kj18 l0 t322 t329 (x8_2.set (0 : Int).toNat (((rd_T25 t322 x9_2).f0) == t325)) x9_2 t325 t326 t327 t328)) = some r := by rw [← hbq30] at H; exact H
                have Nbq30 := qg hbq30
                clear hbq30
                by_cases c31 : bq30 = true
                ·subst c31
                 have H1 : (laws_FnBoxes.j5 kj18 l0 t322 t329 (x8_2.set (0 : Int).toNat true) x9_2 t325 t326 t327 t328) = some r := by rw [if_pos rfl] at H; exact H
                 clear H
                 have H := H1
                 clear H1
                 obtain ⟨y367, hy367⟩ : ∃ y_ : List Bool, y_ = (x8_2.set (0 : Int).toNat true) := ⟨_, rfl⟩
                 replace H : (laws_FnBoxes.j5 kj18 l0 t322 t329 y367 x9_2 t325 t326 t327 t328) = some r := by first | (rw [hy367]; with_reducible exact H) | (have H2_ := (Option.bind_some _ _).symm.trans H; rw [hy367]; with_reducible exact H2_) | (have H2_ := (Option.bind_some _ _).symm.trans H; with_reducible exact H2_) | with_reducible exact H | (rw [hy367]; exact H) | exact H
                 have Ny367 := qg hy367
                 clear hy367
                 have H' := qg H
                 clear H
                 try go_wp2
                 have n0_ := qg (qm HO_3.out)
                 have n1_ := qg (qm HO_8.out)
                 have n2_ := qg (q6 BK330.out)
                 have n3_ := qg (q3 HB.out)
                 clear HO_3; clear HO_8; clear BK330; clear HB
                 have HO_3 := n0_
                 have HO_8 := n1_
                 have BK330 := n2_
                 have HB := n3_
                 clear n0_ n1_ n2_ n3_
                 obtain ⟨Ao34, co34, eo34⟩ := Kd.R_slice HO_8.out
                 (first | subst eo34 | (injection eo34 with f1_ f2_ f3_; have f4_ := f1_.symm; have f5_ := f3_.symm; clear f1_ f2_ f3_; subst f4_; subst f5_))
                 have p366 : 0 ≤ (0 : Int) := (by omega)
                 have q366 : 0 < (x8_2.length : Int) := of_decide_eq_true (by first | (with_reducible assumption) | assumption)
                 obtain ⟨ad366, e366, hx366_0⟩ := Kd.at_bool (Kd.R_reads' HO_8.out).2.2 0 p366 q366
                 (try rw [← Nbq30.out] at hx366_0)
                 cases e366
                 have qi366 : (0 < x8_2.length) = True := eq_true (by omega)
                 (try rw [show ((0 : Int)).toNat = 0 from rfl] at hx366_0)
                 (try rw [Addr.add_zero'] at hx366_0)
                 replace p366 := eq_true p366
                 replace q366 := eq_true q366
                 have p32 : 0 ≤ (0 : Int) := (by omega)
                 have q32 : (0 : Int) < ((x8_2.length : Int) : Int) := of_decide_eq_true (by first | (with_reducible assumption) | assumption)
                 have qi32 : (0 < x8_2.length) = True := eq_true (by omega)
                 obtain ⟨go32, co32, eo32, gb32, gl32, cl32, HG32⟩ := Kd.R_form HO_8.out (by omega)
                 (first | cases eo32 | (injection eo32 with ea_ en_ ec_; (first | subst ea_ | (injection ea_ with ea_; subst ea_)); subst ec_; clear en_))
                 have GB32 := qg gb32
                 have GG32 := qg HG32
                 clear gb32 gl32 HG32
                 (first | simp only [add_plain] at hx366_0 | skip)
                 obtain ⟨hx32_0, hf32_0⟩ := Kd.R_celln false HO_8.out (0 : Int) p32 q32
                 (try rw [show ((0 : Int)).toNat = 0 from rfl] at hx32_0)
                 (try simp only [Nat.reduceMul, Nat.zero_mul, Nat.zero_add, Nat.reduceAdd] at hx32_0)
                 (try rw [show ((0 : Int)).toNat = 0 from rfl] at hf32_0)
                 (try simp only [Nat.reduceMul, Nat.zero_mul, Nat.zero_add, Nat.reduceAdd] at hf32_0)
                 replace p32 := eq_true p32
                 replace q32 := eq_true q32
                 have HP35 := Kd.R_putn HO_8.out (0 : Int) true
                 rw [← Ny367.out] at HP35
                 have HQ35 := qg HP35
                 clear HP35
                 refine start_ (n := 17) (S := fun w' => w'.cell? ⟨go32, 0, none⟩ = some (.bool true)) (ds := [16]) #[false, false, false, false, false, false, false, false, false, false, false, false, false, false, false, false, false] (by kernel_rfl) rfl rfl (hx366_0) (fun hHeld => ?_); refine with_tabW laws_FnBoxes.tab18 laws_FnBoxes.bits18 (fun HT_ HW_ => ?_)
                 generalize w28.drew = w33 at HO_3 HO_8 BK330 HB GG32 HQ35 hf32_0 hx32_0 hx366_0 hHeld ⊢
                 refine pure_ (i := 0) (N := some 60) (v := ?_) (a' := ?_) #[true, false, false, false, false, false, false, false, false, false, false, false, false, false, false, false, false] rfl rfl (any_of HT_.out (by kernel_rfl)) (fun _ _ _ h => h) (Or.inl ⟨by rfl, ?_⟩) ?_ ?_
                 rotate_left; focus (intro w'; go_simp; with_reducible rfl)
                 rotate_left; focus (simp only [Act.put, p1, p2, p3, i64_w, i32_w]; rfl)
                 refine pure_ (i := 1) (N := some 61) (v := ?_) (a' := ?_) #[true, true, false, false, false, false, false, false, false, false, false, false, false, false, false, false, false] rfl rfl (any_of HT_.out (by kernel_rfl)) (fun _ _ _ h => h) (Or.inl ⟨by rfl, ?_⟩) ?_ ?_
                 rotate_left; focus (intro w'; go_simp; with_reducible rfl)
                 rotate_left; focus (simp only [Act.put, p1, p2, p3, i64_w, i32_w]; rfl)
                 refine pure_ (i := 2) (N := some 62) (v := ?_) (a' := ?_) #[true, true, true, false, false, false, false, false, false, false, false, false, false, false, false, false, false] rfl rfl (any_of HT_.out (by kernel_rfl)) (fun _ _ _ h => h) (Or.inl ⟨by rfl, ?_⟩) ?_ ?_
                 rotate_left; focus (intro w'; go_simp; with_reducible rfl)
                 rotate_left; focus (simp only [Act.put, p1, p2, p3, i64_w, i32_w]; rfl)
                 refine take_ (i := 3) (N := some 63) (v := ?_) (a' := ?_) #[true, true, true, true, false, false, false, false, false, false, false, false, false, false, false, false, false] rfl rfl (take_ofW HT_.out HW_.out (by kernel_rfl)) (fun _ _ _ h => h) (Or.inl ⟨by rfl, ?_⟩) hHeld ?_ ?_
                 rotate_left; focus (intro w' s0; go_simp; with_reducible rfl)
                 rotate_left; focus (simp only [Act.put, p1, p2, p3, i64_w, i32_w]; rfl)
                 refine pure_ (i := 4) (N := some 64) (v := ?_) (a' := ?_) #[true, true, true, true, true, false, false, false, false, false, false, false, false, false, false, false, false] rfl rfl (any_of HT_.out (by kernel_rfl)) (fun _ _ _ h => h) (Or.inl ⟨by rfl, ?_⟩) ?_ ?_
                 rotate_left; focus (intro w'; go_simp; with_reducible rfl)
                 rotate_left; focus (simp only [Act.put, p1, p2, p3, i64_w, i32_w]; rfl)
                 refine pure_ (i := 5) (N := some 65) (v := undef) (a' := ?_) #[true, true, true, true, true, true, false, false, false, false, false, false, false, false, false, false, false] rfl rfl (any_of HT_.out (by kernel_rfl)) (fun _ _ _ h => h) (Or.inr ⟨by rfl, rfl⟩) ?_ ?_
                 rotate_left; focus (simp only [Act.put, p1, p2, p3, i64_w, i32_w]; rfl)
                 refine pure_ (i := 6) (N := some 66) (v := undef) (a' := ?_) #[true, true, true, true, true, true, true, false, false, false, false, false, false, false, false, false, false] rfl rfl (any_of HT_.out (by kernel_rfl)) (fun _ _ _ h => h) (Or.inr ⟨by rfl, rfl⟩) ?_ ?_
                 rotate_left; focus (simp only [Act.put, p1, p2, p3, i64_w, i32_w]; rfl)
                 refine pure_ (i := 7) (N := some 67) (v := undef) (a' := ?_) #[true, true, true, true, true, true, true, true, false, false, false, false, false, false, false, false, false] rfl rfl (any_of HT_.out (by kernel_rfl)) (fun _ _ _ h => h) (Or.inr ⟨by rfl, rfl⟩) ?_ ?_
                 rotate_left; focus (simp only [Act.put, p1, p2, p3, i64_w, i32_w]; rfl)
                 refine pure_ (i := 8) (N := some 68) (v := undef) (a' := ?_) #[true, true, true, true, true, true, true, true, true, false, false, false, false, false, false, false, false] rfl rfl (any_of HT_.out (by kernel_rfl)) (fun _ _ _ h => h) (Or.inr ⟨by rfl, rfl⟩) ?_ ?_
                 rotate_left; focus (simp only [Act.put, p1, p2, p3, i64_w, i32_w]; rfl)
                 refine pure_ (i := 9) (N := some 69) (v := undef) (a' := ?_) #[true, true, true, true, true, true, true, true, true, true, false, false, false, false, false, false, false] rfl rfl (any_of HT_.out (by kernel_rfl)) (fun _ _ _ h => h) (Or.inr ⟨by rfl, rfl⟩) ?_ ?_
                 rotate_left; focus (simp only [Act.put, p1, p2, p3, i64_w, i32_w]; rfl)
                 refine pure_ (i := 10) (N := some 70) (v := undef) (a' := ?_) #[true, true, true, true, true, true, true, true, true, true, true, false, false, false, false, false, false] rfl rfl (any_of HT_.out (by kernel_rfl)) (fun _ _ _ h => h) (Or.inr ⟨by rfl, rfl⟩) ?_ ?_
                 rotate_left; focus (simp only [Act.put, p1, p2, p3, i64_w, i32_w]; rfl)
                 refine pure_ (i := 11) (N := some 71) (v := undef) (a' := ?_) #[true, true, true, true, true, true, true, true, true, true, true, true, false, false, false, false, false] rfl rfl (any_of HT_.out (by kernel_rfl)) (fun _ _ _ h => h) (Or.inr ⟨by rfl, rfl⟩) ?_ ?_
                 rotate_left; focus (simp only [Act.put, p1, p2, p3, i64_w, i32_w]; rfl)
                 refine pure_ (i := 12) (N := some 72) (v := undef) (a' := ?_) #[true, true, true, true, true, true, true, true, true, true, true, true, true, false, false, false, false] rfl rfl (any_of HT_.out (by kernel_rfl)) (fun _ _ _ h => h) (Or.inr ⟨by rfl, rfl⟩) ?_ ?_
                 rotate_left; focus (simp only [Act.put, p1, p2, p3, i64_w, i32_w]; rfl)
                 refine pure_ (i := 13) (N := some 73) (v := undef) (a' := ?_) #[true, true, true, true, true, true, true, true, true, true, true, true, true, true, false, false, false] rfl rfl (any_of HT_.out (by kernel_rfl)) (fun _ _ _ h => h) (Or.inr ⟨by rfl, rfl⟩) ?_ ?_
                 rotate_left; focus (simp only [Act.put, p1, p2, p3, i64_w, i32_w]; rfl)
                 refine pure_ (i := 14) (N := some 74) (v := ?_) (a' := ?_) #[true, true, true, true, true, true, true, true, true, true, true, true, true, true, true, false, false] rfl rfl (any_of HT_.out (by kernel_rfl)) (fun _ _ _ h => h) (Or.inl ⟨by rfl, ?_⟩) ?_ ?_
                 rotate_left; focus (intro w'; go_simp; with_reducible rfl)
                 rotate_left; focus (simp only [Act.put, p1, p2, p3, i64_w, i32_w]; rfl)
                 refine pure_ (i := 15) (N := some 75) (v := ?_) (a' := ?_) #[true, true, true, true, true, true, true, true, true, true, true, true, true, true, true, true, false] rfl rfl (any_of HT_.out (by kernel_rfl)) (fun _ _ _ h => h) (Or.inl ⟨by rfl, ?_⟩) ?_ ?_
                 rotate_left; focus (intro w'; go_simp; with_reducible rfl)
                 rotate_left; focus (simp only [Act.put, p1, p2, p3, i64_w, i32_w]; rfl)
                 refine last_ (i := 16) (N := none) #[true, true, true, true, true, true, true, true, true, true, true, true, true, true, true, true, true] rfl rfl (one_of HT_.out (by kernel_rfl)) (by decide) (fun K hK => ?_)
                 refine skip_ (w1 := ?_) (by rfl) rfl ?_ ?_
                 rotate_left; focus (go_simp; rfl)
                 refine hK.out _ _ ?_
                 clear hK K
                 refine done_ (done_of HT_.out (by kernel_rfl)) ?_
                 try go_wp2
                 go_meet
                 case rel => exact ⟨_, (y367), H', ⟨by have := HK1.out; have := HK2.out; have := HJ18.out; first | omega | exact Nat.le_refl _⟩, ⟨by (with_reducible repeat (first | apply qk | apply ql | apply qm)); exact Kd.R_mono (Kd.R_far (p := ⟨go32, 0, none⟩) (Kd.R_types HO_3.out GG32.out (by decide)) (fun _ hk => hk.2) (.bool true)) (fun _ hk => trivial)⟩, ⟨by (with_reducible repeat (first | apply qk | apply ql | apply qm)); exact HQ35.out⟩, ⟨by (with_reducible repeat (first | refine q5 ?_ _ | refine q6 ?_ | refine q7 ?_ _)); refine qe ?_ (by have h_ := Kd.R_ne HO_8.out BK330.out (by decide); intro e_; exact h_ (by rw [e_]; rfl)) _; (with_reducible repeat (first | refine q5 ?_ _ | refine q6 ?_ | refine q7 ?_ _)); exact BK330.out⟩, ⟨by repeat (first | (with_reducible first | exact HB.out | apply q1 | apply q2 | apply q3 | refine q4 ?_ GB32.out | refine q4 ?_ GE330.out) | exact HB.out)⟩⟩
                ·replace c31 := Bool.eq_false_iff.mpr c31
                 subst c31
                 have H1 : (laws_FnBoxes.j5 kj18 l0 t322 t329 (x8_2.set (0 : Int).toNat (((rd_T25 t322 x9_2).f0) == t325)) x9_2 t325 t326 t327 t328) = some r := by rw [if_neg (show ¬ (false = true) by decide)] at H; exact H
                 clear H
                 have H := H1
                 clear H1
                 obtain ⟨y369, hy369⟩ : ∃ y_ : List Bool, y_ = (x8_2.set (0 : Int).toNat (((rd_T25 t322 x9_2).f0) == t325)) := ⟨_, rfl⟩
                 replace H : (laws_FnBoxes.j5 kj18 l0 t322 t329 y369 x9_2 t325 t326 t327 t328) = some r := by first | (rw [hy369]; with_reducible exact H) | (have H2_ := (Option.bind_some _ _).symm.trans H; rw [hy369]; with_reducible exact H2_) | (have H2_ := (Option.bind_some _ _).symm.trans H; with_reducible exact H2_) | with_reducible exact H | (rw [hy369]; exact H) | exact H
                 have Ny369 := qg hy369
                 clear hy369
                 have H' := qg H
                 clear H
                 try go_wp2
                 have n0_ := qg (qm HO_3.out)
                 have n1_ := qg (qm HO_8.out)
                 have n2_ := qg (q6 BK330.out)
                 have n3_ := qg (q3 HB.out)
                 clear HO_3; clear HO_8; clear BK330; clear HB
                 have HO_3 := n0_
                 have HO_8 := n1_
                 have BK330 := n2_
                 have HB := n3_
                 clear n0_ n1_ n2_ n3_
                 obtain ⟨Ao38, co38, eo38⟩ := Kd.R_slice HO_8.out
                 (first | subst eo38 | (injection eo38 with f1_ f2_ f3_; have f4_ := f1_.symm; have f5_ := f3_.symm; clear f1_ f2_ f3_; subst f4_; subst f5_))
                 have p366 : 0 ≤ (0 : Int) := (by omega)
                 have q366 : 0 < (x8_2.length : Int) := of_decide_eq_true (by first | (with_reducible assumption) | assumption)
                 obtain ⟨ad366, e366, hx366_0⟩ := Kd.at_bool (Kd.R_reads' HO_8.out).2.2 0 p366 q366
                 (try rw [← Nbq30.out] at hx366_0)
                 cases e366
                 have qi366 : (0 < x8_2.length) = True := eq_true (by omega)
                 (try rw [show ((0 : Int)).toNat = 0 from rfl] at hx366_0)
                 (try rw [Addr.add_zero'] at hx366_0)
                 replace p366 := eq_true p366
                 replace q366 := eq_true q366
                 have p368 : 0 ≤ (x9_2 : Int) := of_decide_eq_true (by first | (with_reducible assumption) | assumption)
                 have q368 : x9_2 < (t322.length : Int) := of_decide_eq_true (by first | (with_reducible assumption) | assumption)
                 obtain ⟨ad368, e368, hx368_0, hx368_1⟩ := at_T25 (Kd.R_reads' HO_3.out).2.2 x9_2 p368 q368
                 obtain rfl : ad364 = ad368 := (by injection e368)
                 replace p368 := eq_true p368
                 replace q368 := eq_true q368
                 have p36 : 0 ≤ (0 : Int) := (by omega)
                 have q36 : (0 : Int) < ((x8_2.length : Int) : Int) := of_decide_eq_true (by first | (with_reducible assumption) | assumption)
                 have qi36 : (0 < x8_2.length) = True := eq_true (by omega)
                 obtain ⟨go36, co36, eo36, gb36, gl36, cl36, HG36⟩ := Kd.R_form HO_8.out (by omega)
                 (first | cases eo36 | (injection eo36 with ea_ en_ ec_; (first | subst ea_ | (injection ea_ with ea_; subst ea_)); subst ec_; clear en_))
                 have GB36 := qg gb36
                 have GG36 := qg HG36
                 clear gb36 gl36 HG36
                 (first | simp only [add_plain] at hx366_0 | skip)
                 obtain ⟨hx36_0, hf36_0⟩ := Kd.R_celln false HO_8.out (0 : Int) p36 q36
                 (try rw [show ((0 : Int)).toNat = 0 from rfl] at hx36_0)
                 (try simp only [Nat.reduceMul, Nat.zero_mul, Nat.zero_add, Nat.reduceAdd] at hx36_0)
                 (try rw [show ((0 : Int)).toNat = 0 from rfl] at hf36_0)
                 (try simp only [Nat.reduceMul, Nat.zero_mul, Nat.zero_add, Nat.reduceAdd] at hf36_0)
                 replace p36 := eq_true p36
                 replace q36 := eq_true q36
                 have HP39 := Kd.R_putn HO_8.out (0 : Int) (((rd_T25 t322 x9_2).f0) == t325)
                 rw [← Ny369.out] at HP39
                 have HQ39 := qg HP39
                 clear HP39
                 refine start_ (n := 17) (S := fun w' => w'.cell? ⟨gb330, 0, none⟩ = some (.int .i64 t325) ∧ w'.cell? ⟨gb330, 1, none⟩ = some (.int .i64 t326) ∧ w'.cell? ⟨gb330, 2, none⟩ = some (.int .i64 t327) ∧ w'.cell? ⟨gb330, 3, none⟩ = some (.int .i64 t328) ∧ w'.cell? ⟨go36, 0, none⟩ = some (.bool false) ∧ w'.cell? (ad364.add ((x9_2).toNat * 2)) = some (.int .i64 ((rd_T25 t322 x9_2).f0)) ∧ w'.cell? ⟨(ad364.add ((x9_2).toNat * 2)).block, (ad364.add ((x9_2).toNat * 2)).off + 1, none⟩ = some (.int .i64 ((rd_T25 t322 x9_2).f1))) (ds := [16]) #[false, false, false, false, false, false, false, false, false, false, false, false, false, false, false, false, false] (by kernel_rfl) rfl rfl ⟨(qc BK330.out 0).trans rfl, (qc BK330.out 1).trans rfl, (qc BK330.out 2).trans rfl, (qc BK330.out 3).trans rfl, hx366_0, hx368_0, hx368_1⟩ (fun hHeld => ?_); refine with_tabW laws_FnBoxes.tab18 laws_FnBoxes.bits18 (fun HT_ HW_ => ?_)
                 generalize w28.drew = w37 at HO_3 HO_8 BK330 HB GG36 HQ39 hf36_0 hx366_0 hx368_0 hx368_1 hx36_0 hHeld ⊢
                 refine pure_ (i := 0) (N := some 60) (v := ?_) (a' := ?_) #[true, false, false, false, false, false, false, false, false, false, false, false, false, false, false, false, false] rfl rfl (any_of HT_.out (by kernel_rfl)) (fun _ _ _ h => h) (Or.inl ⟨by rfl, ?_⟩) ?_ ?_
                 rotate_left; focus (intro w'; go_simp; with_reducible rfl)
                 rotate_left; focus (simp only [Act.put, p1, p2, p3, i64_w, i32_w]; rfl)
                 refine pure_ (i := 1) (N := some 61) (v := ?_) (a' := ?_) #[true, true, false, false, false, false, false, false, false, false, false, false, false, false, false, false, false] rfl rfl (any_of HT_.out (by kernel_rfl)) (fun _ _ _ h => h) (Or.inl ⟨by rfl, ?_⟩) ?_ ?_
                 rotate_left; focus (intro w'; go_simp; with_reducible rfl)
                 rotate_left; focus (simp only [Act.put, p1, p2, p3, i64_w, i32_w]; rfl)
                 refine pure_ (i := 2) (N := some 62) (v := ?_) (a' := ?_) #[true, true, true, false, false, false, false, false, false, false, false, false, false, false, false, false, false] rfl rfl (any_of HT_.out (by kernel_rfl)) (fun _ _ _ h => h) (Or.inl ⟨by rfl, ?_⟩) ?_ ?_
                 rotate_left; focus (intro w'; go_simp; with_reducible rfl)
                 rotate_left; focus (simp only [Act.put, p1, p2, p3, i64_w, i32_w]; rfl)
                 refine take_ (i := 3) (N := some 63) (v := ?_) (a' := ?_) #[true, true, true, true, false, false, false, false, false, false, false, false, false, false, false, false, false] rfl rfl (take_ofW HT_.out HW_.out (by kernel_rfl)) (fun _ _ _ h => h) (Or.inl ⟨by rfl, ?_⟩) hHeld ?_ ?_
                 rotate_left; focus (rintro w' ⟨s0, s1, s2, s3, s4, s5, s6⟩; go_simp; with_reducible rfl)
                 rotate_left; focus (simp only [Act.put, p1, p2, p3, i64_w, i32_w]; rfl)
                 refine pure_ (i := 4) (N := some 64) (v := ?_) (a' := ?_) #[true, true, true, true, true, false, false, false, false, false, false, false, false, false, false, false, false] rfl rfl (any_of HT_.out (by kernel_rfl)) (fun _ _ _ h => h) (Or.inl ⟨by rfl, ?_⟩) ?_ ?_
                 rotate_left; focus (intro w'; go_simp; with_reducible rfl)
                 rotate_left; focus (simp only [Act.put, p1, p2, p3, i64_w, i32_w]; rfl)
                 refine pure_ (i := 5) (N := some 65) (v := ?_) (a' := ?_) #[true, true, true, true, true, true, false, false, false, false, false, false, false, false, false, false, false] rfl rfl (any_of HT_.out (by kernel_rfl)) (fun _ _ _ h => h) (Or.inl ⟨by rfl, ?_⟩) ?_ ?_
                 rotate_left; focus (intro w'; go_simp; with_reducible rfl)
                 rotate_left; focus (simp only [Act.put, p1, p2, p3, i64_w, i32_w]; rfl)
                 refine pure_ (i := 6) (N := some 66) (v := ?_) (a' := ?_) #[true, true, true, true, true, true, true, false, false, false, false, false, false, false, false, false, false] rfl rfl (any_of HT_.out (by kernel_rfl)) (fun _ _ _ h => h) (Or.inl ⟨by rfl, ?_⟩) ?_ ?_
                 rotate_left; focus (intro w'; go_simp; with_reducible rfl)
                 rotate_left; focus (simp only [Act.put, p1, p2, p3, i64_w, i32_w]; rfl)
                 refine pure_ (i := 7) (N := some 67) (v := ?_) (a' := ?_) #[true, true, true, true, true, true, true, true, false, false, false, false, false, false, false, false, false] rfl rfl (any_of HT_.out (by kernel_rfl)) (fun _ _ _ h => h) (Or.inl ⟨by rfl, ?_⟩) ?_ ?_
                 rotate_left; focus (intro w'; go_simp; with_reducible rfl)
                 rotate_left; focus (simp only [Act.put, p1, p2, p3, i64_w, i32_w]; rfl)
                 refine pure_ (i := 8) (N := some 68) (v := ?_) (a' := ?_) #[true, true, true, true, true, true, true, true, true, false, false, false, false, false, false, false, false] rfl rfl (any_of HT_.out (by kernel_rfl)) (fun _ _ _ h => h) (Or.inl ⟨by rfl, ?_⟩) ?_ ?_
                 rotate_left; focus (intro w'; go_simp; with_reducible rfl)
                 rotate_left; focus (simp only [Act.put, p1, p2, p3, i64_w, i32_w]; rfl)
                 refine pure_ (i := 10) (N := some 70) (v := ?_) (a' := ?_) #[true, true, true, true, true, true, true, true, true, false, true, false, false, false, false, false, false] rfl rfl (any_of HT_.out (by kernel_rfl)) (fun _ _ _ h => h) (Or.inl ⟨by rfl, ?_⟩) ?_ ?_
                 rotate_left; focus (intro w'; go_simp; with_reducible rfl)
                 rotate_left; focus (simp only [Act.put, p1, p2, p3, i64_w, i32_w]; rfl)
                 refine pure_ (i := 11) (N := some 71) (v := ?_) (a' := ?_) #[true, true, true, true, true, true, true, true, true, false, true, true, false, false, false, false, false] rfl rfl (any_of HT_.out (by kernel_rfl)) (fun _ _ _ h => h) (Or.inl ⟨by rfl, ?_⟩) ?_ ?_
                 rotate_left; focus (intro w'; go_simp; with_reducible rfl)
                 rotate_left; focus (simp only [Act.put, p1, p2, p3, i64_w, i32_w]; rfl)
                 refine take_ (i := 9) (N := some 69) (v := ?_) (a' := ?_) #[true, true, true, true, true, true, true, true, true, true, true, true, false, false, false, false, false] rfl rfl (take_ofW HT_.out HW_.out (by kernel_rfl)) (fun _ _ _ h => h) (Or.inl ⟨by rfl, ?_⟩) hHeld ?_ ?_
                 rotate_left; focus (rintro w' ⟨s0, s1, s2, s3, s4, s5, s6⟩; go_simp; with_reducible rfl)
                 rotate_left; focus (simp only [Act.put, p1, p2, p3, i64_w, i32_w]; rfl)
                 refine take_ (i := 12) (N := some 72) (v := ?_) (a' := ?_) #[true, true, true, true, true, true, true, true, true, true, true, true, true, false, false, false, false] rfl rfl (take_ofW HT_.out HW_.out (by kernel_rfl)) (fun _ _ _ h => h) (Or.inl ⟨by rfl, ?_⟩) hHeld ?_ ?_
                 rotate_left; focus (rintro w' ⟨s0, s1, s2, s3, s4, s5, s6⟩; go_simp; with_reducible rfl)
                 rotate_left; focus (simp only [Act.put, p1, p2, p3, i64_w, i32_w]; rfl)
                 refine pure_ (i := 13) (N := some 73) (v := ?_) (a' := ?_) #[true, true, true, true, true, true, true, true, true, true, true, true, true, true, false, false, false] rfl rfl (any_of HT_.out (by kernel_rfl)) (fun _ _ _ h => h) (Or.inl ⟨by rfl, ?_⟩) ?_ ?_
                 rotate_left; focus (intro w'; go_simp; with_reducible rfl)
                 rotate_left; focus (simp only [Act.put, p1, p2, p3, i64_w, i32_w]; rfl)
                 refine pure_ (i := 14) (N := some 74) (v := ?_) (a' := ?_) #[true, true, true, true, true, true, true, true, true, true, true, true, true, true, true, false, false] rfl rfl (any_of HT_.out (by kernel_rfl)) (fun _ _ _ h => h) (Or.inl ⟨by rfl, ?_⟩) ?_ ?_
                 rotate_left; focus (intro w'; go_simp; with_reducible rfl)
                 rotate_left; focus (simp only [Act.put, p1, p2, p3, i64_w, i32_w]; rfl)
                 refine pure_ (i := 15) (N := some 75) (v := ?_) (a' := ?_) #[true, true, true, true, true, true, true, true, true, true, true, true, true, true, true, true, false] rfl rfl (any_of HT_.out (by kernel_rfl)) (fun _ _ _ h => h) (Or.inl ⟨by rfl, ?_⟩) ?_ ?_
                 rotate_left; focus (intro w'; go_simp; with_reducible rfl)
                 rotate_left; focus (simp only [Act.put, p1, p2, p3, i64_w, i32_w]; rfl)
                 refine last_ (i := 16) (N := none) #[true, true, true, true, true, true, true, true, true, true, true, true, true, true, true, true, true] rfl rfl (one_of HT_.out (by kernel_rfl)) (by decide) (fun K hK => ?_)
                 refine skip_ (w1 := ?_) (by rfl) rfl ?_ ?_
                 rotate_left; focus (go_simp; rfl)
                 refine hK.out _ _ ?_
                 clear hK K
                 refine done_ (done_of HT_.out (by kernel_rfl)) ?_
                 try go_wp2
                 go_meet
                 case rel => exact ⟨_, (y369), H', ⟨by have := HK1.out; have := HK2.out; have := HJ18.out; first | omega | exact Nat.le_refl _⟩, ⟨by (with_reducible repeat (first | apply qk | apply ql | apply qm)); exact Kd.R_mono (Kd.R_far (p := ⟨go36, 0, none⟩) (Kd.R_types HO_3.out GG36.out (by decide)) (fun _ hk => hk.2) (.bool (((rd_T25 t322 x9_2).f0) == t325))) (fun _ hk => trivial)⟩, ⟨by (with_reducible repeat (first | apply qk | apply ql | apply qm)); exact HQ39.out⟩, ⟨by (with_reducible repeat (first | refine q5 ?_ _ | refine q6 ?_ | refine q7 ?_ _)); refine qe ?_ (by have h_ := Kd.R_ne HO_8.out BK330.out (by decide); intro e_; exact h_ (by rw [e_]; rfl)) _; (with_reducible repeat (first | refine q5 ?_ _ | refine q6 ?_ | refine q7 ?_ _)); exact BK330.out⟩, ⟨by repeat (first | (with_reducible first | exact HB.out | apply q1 | apply q2 | apply q3 | refine q4 ?_ GB36.out | refine q4 ?_ GE330.out) | exact HB.out)⟩⟩
               ·rw [if_neg c29] at H
                exact absurd H (by simp)
              case rest => as_aux_lemma =>
               clear HC26
               (try clear c1); (try clear c2); (try clear p2); (try clear c3); (try clear p3); (try clear q3); (try clear hx3); (try clear qi3); (try clear hf3); (try clear c4); (try clear c5); (try clear p6); (try clear c11); (try clear c11b0); (try clear c12); (try clear c13); (try clear c13b0); (try clear c14); (try clear c16); (try clear c16b0); (try clear c16b1); (try clear c16b2); (try clear c20); (try clear c21); (try clear c22); (try clear c22b0); (try clear c23); (try clear c23b0); (try clear c25); (try clear c29); (try clear c29b0); (try clear c29b1); (try clear q30); (try clear c31); (try clear p32); (try clear q32); (try clear hx32); (try clear qi32); (try clear hf32); (try clear p36); (try clear q36); (try clear hx36); (try clear qi36); (try clear hf36); (try clear p38); (try clear q38); (try clear hx38); (try clear hcz10_0); (try clear hcz10_1); (try clear hcz10_2); (try clear hcz10_3); (try clear hfz10_0); (try clear hfz10_1); (try clear hfz10_2); (try clear hfz10_3); (try clear hx32_0); (try clear hx364_0); (try clear hx364_1); (try clear hx366_0); (try clear hx368_0); (try clear hx368_1); (try clear hx36_0); (try clear hx382_0); (try clear hx382_1); (try clear p2); (try clear p3); (try clear p32); (try clear p36); (try clear p364); (try clear p366); (try clear p368); (try clear p382); (try clear p6); (try clear q3); (try clear q32); (try clear q36); (try clear q364); (try clear q366); (try clear q368); (try clear q382)
               obtain ⟨kq, x8_25, HA, HJ25, HO_3, HO_8, BK330, HB⟩ := hcut
               cases kq with
               | zero => exact absurd HA.out (by simp [laws_FnBoxes.j5])
               | succ kj25 =>
                have H := HA.out
                clear HA
                simp only [laws_FnBoxes.j5] at H
                have HC40 := qg H
                clear H
                go_upto_region 19 with (fail)
                go_cut [] (fun wc => ∃ (kq : Nat) (x8_39 : List Bool), Aside0 (laws_FnBoxes.j6 kq l0 t322 t329 x8_39 x9_2 t325 t326 t327 t328 = some r) ∧ Aside0 (kq ≤ kj25) ∧ Aside0 (Kd.R k25 25 wc w.heap.size (fun _ => True) (.slice (some ad364) t322.length co7) t322) ∧ Aside0 (Kd.R Kd.bool 4 wc w.heap.size (fun _ => True) v332 x8_39) ∧ Aside0 (wc.heap[gb330]? = some (.cells #[.int .i64 t325, .int .i64 t326, .int .i64 t327, .int .i64 t328] 67 (0, 0))) ∧ Aside0 (Below w.heap.size w wc))
                case first => as_aux_lemma =>
                 have H := HC40.out
                 clear HC40
                 by_cases c41 : 1 < (x8_25.length : Int)
                 ·rw [if_pos c41] at H
                  have c41b0 : decide (1 < (x8_25.length : Int)) = true := decide_eq_true c41
                  have c41b1 : decide (1 < x8_25.length) = true := decide_eq_true (by omega)
                  clear c41
                  (first | rw [c41b0] | (simp only [i64_w, i32_w]; rw [c41b0]) | skip)
                  obtain ⟨bq42, hbq42⟩ : ∃ b_ : Bool, b_ = (rdOf false x8_25 1) := ⟨_, rfl⟩
                  replace H : (if bq42 = true then (laws_FnBoxes.j6 kj25 l0 t322 t329 (x8_25.set (1 : Int).toNat true) x9_2 t325 t326 t327 t328) else (if 0 ≤ x9_2 then (if x9_2 < (t322.length : Int) then (laws_FnBoxes.j6 kj25 l0 t322 t329 (x8_25.set (1 : Int).toNat (((rd_T25 t322 x9_2).f0) == t327)) x9_2 t325 t326 t327 t328) else (none)) else (none))) = some r := by rw [← hbq42] at H; exact H
                  have Nbq42 := qg hbq42
                  clear hbq42
                  by_cases c43 : bq42 = true
                  ·subst c43
                   have H1 : (laws_FnBoxes.j6 kj25 l0 t322 t329 (x8_25.set (1 : Int).toNat true) x9_2 t325 t326 t327 t328) = some r := by rw [if_pos rfl] at H; exact H
                   clear H
                   have H := H1
                   clear H1
                   obtain ⟨y371, hy371⟩ : ∃ y_ : List Bool, y_ = (x8_25.set (1 : Int).toNat true) := ⟨_, rfl⟩
                   replace H : (laws_FnBoxes.j6 kj25 l0 t322 t329 y371 x9_2 t325 t326 t327 t328) = some r := by first | (rw [hy371]; with_reducible exact H) | (have H2_ := (Option.bind_some _ _).symm.trans H; rw [hy371]; with_reducible exact H2_) | (have H2_ := (Option.bind_some _ _).symm.trans H; with_reducible exact H2_) | with_reducible exact H | (rw [hy371]; exact H) | exact H
                   have Ny371 := qg hy371
                   clear hy371
                   have H' := qg H
                   clear H
                   try go_wp2
                   have n0_ := qg (qm HO_3.out)
                   have n1_ := qg (qm HO_8.out)
                   have n2_ := qg (q6 BK330.out)
                   have n3_ := qg (q3 HB.out)
                   clear HO_3; clear HO_8; clear BK330; clear HB
                   have HO_3 := n0_
                   have HO_8 := n1_
                   have BK330 := n2_
                   have HB := n3_
                   clear n0_ n1_ n2_ n3_
                   obtain ⟨Ao46, co46, eo46⟩ := Kd.R_slice HO_8.out
                   (first | subst eo46 | (injection eo46 with f1_ f2_ f3_; have f4_ := f1_.symm; have f5_ := f3_.symm; clear f1_ f2_ f3_; subst f4_; subst f5_))
                   have p370 : 0 ≤ (1 : Int) := (by omega)
                   have q370 : 1 < (x8_25.length : Int) := of_decide_eq_true (by first | (with_reducible assumption) | assumption)
                   obtain ⟨ad370, e370, hx370_0⟩ := Kd.at_bool (Kd.R_reads' HO_8.out).2.2 1 p370 q370
                   (try rw [← Nbq42.out] at hx370_0)
                   cases e370
                   (try simp only [show (1 : Int).toNat = 1 from rfl, Nat.reduceMul, Nat.reduceEqDiff, Go.Addr.add, ↓reduceIte] at hx370_0)
                   have qi370 : (1 < x8_25.length) = True := eq_true (by omega)
                   (try rw [show ((1 : Int)).toNat = 1 from rfl] at hx370_0)
                   replace p370 := eq_true p370
                   replace q370 := eq_true q370
                   have p44 : 0 ≤ (1 : Int) := (by omega)
                   have q44 : (1 : Int) < ((x8_25.length : Int) : Int) := of_decide_eq_true (by first | (with_reducible assumption) | assumption)
                   have qi44 : (1 < x8_25.length) = True := eq_true (by omega)
                   obtain ⟨go44, co44, eo44, gb44, gl44, cl44, HG44⟩ := Kd.R_form HO_8.out (by omega)
                   (first | cases eo44 | (injection eo44 with ea_ en_ ec_; (first | subst ea_ | (injection ea_ with ea_; subst ea_)); subst ec_; clear en_))
                   have GB44 := qg gb44
                   have GG44 := qg HG44
                   clear gb44 gl44 HG44
                   (first | simp only [add_plain] at hx370_0 | skip)
                   obtain ⟨hx44_0, hf44_0⟩ := Kd.R_celln false HO_8.out (1 : Int) p44 q44
                   (try rw [show ((1 : Int)).toNat = 1 from rfl] at hx44_0)
                   (try simp only [Nat.reduceMul, Nat.zero_mul, Nat.zero_add, Nat.reduceAdd] at hx44_0)
                   (try rw [show ((1 : Int)).toNat = 1 from rfl] at hf44_0)
                   (try simp only [Nat.reduceMul, Nat.zero_mul, Nat.zero_add, Nat.reduceAdd] at hf44_0)
                   replace p44 := eq_true p44
                   replace q44 := eq_true q44
                   have HP47 := Kd.R_putn HO_8.out (1 : Int) true
                   rw [← Ny371.out] at HP47
                   have HQ47 := qg HP47
                   clear HP47
                   refine start_ (n := 17) (S := fun w' => w'.cell? ⟨go44, 1, none⟩ = some (.bool true)) (ds := [16]) #[false, false, false, false, false, false, false, false, false, false, false, false, false, false, false, false, false] (by kernel_rfl) rfl rfl (hx370_0) (fun hHeld => ?_); refine with_tabW laws_FnBoxes.tab19 laws_FnBoxes.bits19 (fun HT_ HW_ => ?_)
                   generalize wc.drew = w45 at HO_3 HO_8 BK330 HB GG44 HQ47 hf44_0 hx370_0 hx44_0 hHeld ⊢
                   refine pure_ (i := 0) (N := some 76) (v := ?_) (a' := ?_) #[true, false, false, false, false, false, false, false, false, false, false, false, false, false, false, false, false] rfl rfl (any_of HT_.out (by kernel_rfl)) (fun _ _ _ h => h) (Or.inl ⟨by rfl, ?_⟩) ?_ ?_
                   rotate_left; focus (intro w'; go_simp; with_reducible rfl)
                   rotate_left; focus (simp only [Act.put, p1, p2, p3, i64_w, i32_w]; rfl)
                   refine pure_ (i := 1) (N := some 77) (v := ?_) (a' := ?_) #[true, true, false, false, false, false, false, false, false, false, false, false, false, false, false, false, false] rfl rfl (any_of HT_.out (by kernel_rfl)) (fun _ _ _ h => h) (Or.inl ⟨by rfl, ?_⟩) ?_ ?_
                   rotate_left; focus (intro w'; go_simp; with_reducible rfl)
                   rotate_left; focus (simp only [Act.put, p1, p2, p3, i64_w, i32_w]; rfl)
                   refine pure_ (i := 2) (N := some 78) (v := ?_) (a' := ?_) #[true, true, true, false, false, false, false, false, false, false, false, false, false, false, false, false, false] rfl rfl (any_of HT_.out (by kernel_rfl)) (fun _ _ _ h => h) (Or.inl ⟨by rfl, ?_⟩) ?_ ?_
                   rotate_left; focus (intro w'; go_simp; with_reducible rfl)
                   rotate_left; focus (simp only [Act.put, p1, p2, p3, i64_w, i32_w]; rfl)
                   refine take_ (i := 3) (N := some 79) (v := ?_) (a' := ?_) #[true, true, true, true, false, false, false, false, false, false, false, false, false, false, false, false, false] rfl rfl (take_ofW HT_.out HW_.out (by kernel_rfl)) (fun _ _ _ h => h) (Or.inl ⟨by rfl, ?_⟩) hHeld ?_ ?_
                   rotate_left; focus (intro w' s0; go_simp; with_reducible rfl)
                   rotate_left; focus (simp only [Act.put, p1, p2, p3, i64_w, i32_w]; rfl)
                   refine pure_ (i := 4) (N := some 80) (v := ?_) (a' := ?_) #[true, true, true, true, true, false, false, false, false, false, false, false, false, false, false, false, false] rfl rfl (any_of HT_.out (by kernel_rfl)) (fun _ _ _ h => h) (Or.inl ⟨by rfl, ?_⟩) ?_ ?_
                   rotate_left; focus (intro w'; go_simp; with_reducible rfl)
                   rotate_left; focus (simp only [Act.put, p1, p2, p3, i64_w, i32_w]; rfl)
                   refine pure_ (i := 5) (N := some 81) (v := undef) (a' := ?_) #[true, true, true, true, true, true, false, false, false, false, false, false, false, false, false, false, false] rfl rfl (any_of HT_.out (by kernel_rfl)) (fun _ _ _ h => h) (Or.inr ⟨by rfl, rfl⟩) ?_ ?_
                   rotate_left; focus (simp only [Act.put, p1, p2, p3, i64_w, i32_w]; rfl)
                   refine pure_ (i := 6) (N := some 82) (v := undef) (a' := ?_) #[true, true, true, true, true, true, true, false, false, false, false, false, false, false, false, false, false] rfl rfl (any_of HT_.out (by kernel_rfl)) (fun _ _ _ h => h) (Or.inr ⟨by rfl, rfl⟩) ?_ ?_
                   rotate_left; focus (simp only [Act.put, p1, p2, p3, i64_w, i32_w]; rfl)
                   refine pure_ (i := 7) (N := some 83) (v := undef) (a' := ?_) #[true, true, true, true, true, true, true, true, false, false, false, false, false, false, false, false, false] rfl rfl (any_of HT_.out (by kernel_rfl)) (fun _ _ _ h => h) (Or.inr ⟨by rfl, rfl⟩) ?_ ?_
                   rotate_left; focus (simp only [Act.put, p1, p2, p3, i64_w, i32_w]; rfl)
                   refine pure_ (i := 8) (N := some 84) (v := undef) (a' := ?_) #[true, true, true, true, true, true, true, true, true, false, false, false, false, false, false, false, false] rfl rfl (any_of HT_.out (by kernel_rfl)) (fun _ _ _ h => h) (Or.inr ⟨by rfl, rfl⟩) ?_ ?_
                   rotate_left; focus (simp only [Act.put, p1, p2, p3, i64_w, i32_w]; rfl)
                   refine pure_ (i := 9) (N := some 85) (v := undef) (a' := ?_) #[true, true, true, true, true, true, true, true, true, true, false, false, false, false, false, false, false] rfl rfl (any_of HT_.out (by kernel_rfl)) (fun _ _ _ h => h) (Or.inr ⟨by rfl, rfl⟩) ?_ ?_
                   rotate_left; focus (simp only [Act.put, p1, p2, p3, i64_w, i32_w]; rfl)
                   refine pure_ (i := 10) (N := some 86) (v := undef) (a' := ?_) #[true, true, true, true, true, true, true, true, true, true, true, false, false, false, false, false, false] rfl rfl (any_of HT_.out (by kernel_rfl)) (fun _ _ _ h => h) (Or.inr ⟨by rfl, rfl⟩) ?_ ?_
                   rotate_left; focus (simp only [Act.put, p1, p2, p3, i64_w, i32_w]; rfl)
                   refine pure_ (i := 11) (N := some 87) (v := undef) (a' := ?_) #[true, true, true, true, true, true, true, true, true, true, true, true, false, false, false, false, false] rfl rfl (any_of HT_.out (by kernel_rfl)) (fun _ _ _ h => h) (Or.inr ⟨by rfl, rfl⟩) ?_ ?_
                   rotate_left; focus (simp only [Act.put, p1, p2, p3, i64_w, i32_w]; rfl)
                   refine pure_ (i := 12) (N := some 88) (v := undef) (a' := ?_) #[true, true, true, true, true, true, true, true, true, true, true, true, true, false, false, false, false] rfl rfl (any_of HT_.out (by kernel_rfl)) (fun _ _ _ h => h) (Or.inr ⟨by rfl, rfl⟩) ?_ ?_
                   rotate_left; focus (simp only [Act.put, p1, p2, p3, i64_w, i32_w]; rfl)
                   refine pure_ (i := 13) (N := some 89) (v := undef) (a' := ?_) #[true, true, true, true, true, true, true, true, true, true, true, true, true, true, false, false, false] rfl rfl (any_of HT_.out (by kernel_rfl)) (fun _ _ _ h => h) (Or.inr ⟨by rfl, rfl⟩) ?_ ?_
                   rotate_left; focus (simp only [Act.put, p1, p2, p3, i64_w, i32_w]; rfl)
                   refine pure_ (i := 14) (N := some 90) (v := ?_) (a' := ?_) #[true, true, true, true, true, true, true, true, true, true, true, true, true, true, true, false, false] rfl rfl (any_of HT_.out (by kernel_rfl)) (fun _ _ _ h => h) (Or.inl ⟨by rfl, ?_⟩) ?_ ?_
                   rotate_left; focus (intro w'; go_simp; with_reducible rfl)
                   rotate_left; focus (simp only [Act.put, p1, p2, p3, i64_w, i32_w]; rfl)
                   refine pure_ (i := 15) (N := some 91) (v := ?_) (a' := ?_) #[true, true, true, true, true, true, true, true, true, true, true, true, true, true, true, true, false] rfl rfl (any_of HT_.out (by kernel_rfl)) (fun _ _ _ h => h) (Or.inl ⟨by rfl, ?_⟩) ?_ ?_
                   rotate_left; focus (intro w'; go_simp; with_reducible rfl)
                   rotate_left; focus (simp only [Act.put, p1, p2, p3, i64_w, i32_w]; rfl)
                   refine last_ (i := 16) (N := none) #[true, true, true, true, true, true, true, true, true, true, true, true, true, true, true, true, true] rfl rfl (one_of HT_.out (by kernel_rfl)) (by decide) (fun K hK => ?_)
                   refine skip_ (w1 := ?_) (by rfl) rfl ?_ ?_
                   rotate_left; focus (go_simp; rfl)
                   refine hK.out _ _ ?_
                   clear hK K
                   refine done_ (done_of HT_.out (by kernel_rfl)) ?_
                   try go_wp2
                   go_meet
                   case rel => exact ⟨_, (y371), H', ⟨by have := HK1.out; have := HK2.out; have := HJ18.out; have := HJ25.out; first | omega | exact Nat.le_refl _⟩, ⟨by (with_reducible repeat (first | apply qk | apply ql | apply qm)); exact Kd.R_mono (Kd.R_far (p := ⟨go44, 1, none⟩) (Kd.R_types HO_3.out GG44.out (by decide)) (fun _ hk => hk.2) (.bool true)) (fun _ hk => trivial)⟩, ⟨by (with_reducible repeat (first | apply qk | apply ql | apply qm)); exact HQ47.out⟩, ⟨by (with_reducible repeat (first | refine q5 ?_ _ | refine q6 ?_ | refine q7 ?_ _)); refine qe ?_ (by have h_ := Kd.R_ne HO_8.out BK330.out (by decide); intro e_; exact h_ (by rw [e_]; rfl)) _; (with_reducible repeat (first | refine q5 ?_ _ | refine q6 ?_ | refine q7 ?_ _)); exact BK330.out⟩, ⟨by repeat (first | (with_reducible first | exact HB.out | apply q1 | apply q2 | apply q3 | refine q4 ?_ GB44.out | refine q4 ?_ GE330.out) | exact HB.out)⟩⟩
                  ·replace c43 := Bool.eq_false_iff.mpr c43
                   subst c43
                   have H1 : (if 0 ≤ x9_2 then (if x9_2 < (t322.length : Int) then (laws_FnBoxes.j6 kj25 l0 t322 t329 (x8_25.set (1 : Int).toNat (((rd_T25 t322 x9_2).f0) == t327)) x9_2 t325 t326 t327 t328) else (none)) else (none)) = some r := by rw [if_neg (show ¬ (false = true) by decide)] at H; exact H
                   clear H
                   have H := H1
                   clear H1
                   by_cases c48 : 0 ≤ x9_2
                   ·rw [if_pos c48] at H
                    have c48b0 : decide (0 ≤ x9_2) = true := decide_eq_true c48
                    clear c48
                    by_cases c49 : x9_2 < (t322.length : Int)
                    ·rw [if_pos c49] at H
                     have c49b0 : decide (x9_2 < (t322.length : Int)) = true := decide_eq_true c49
                     clear c49
                     obtain ⟨y373, hy373⟩ : ∃ y_ : List Bool, y_ = (x8_25.set (1 : Int).toNat (((rd_T25 t322 x9_2).f0) == t327)) := ⟨_, rfl⟩
                     replace H : (laws_FnBoxes.j6 kj25 l0 t322 t329 y373 x9_2 t325 t326 t327 t328) = some r := by first | (rw [hy373]; with_reducible exact H) | (have H2_ := (Option.bind_some _ _).symm.trans H; rw [hy373]; with_reducible exact H2_) | (have H2_ := (Option.bind_some _ _).symm.trans H; with_reducible exact H2_) | with_reducible exact H | (rw [hy373]; exact H) | exact H
                     have Ny373 := qg hy373
                     clear hy373
                     have H' := qg H
                     clear H
                     try go_wp2
                     have n0_ := qg (qm HO_3.out)
                     have n1_ := qg (qm HO_8.out)
                     have n2_ := qg (q6 BK330.out)
                     have n3_ := qg (q3 HB.out)
                     clear HO_3; clear HO_8; clear BK330; clear HB
                     have HO_3 := n0_
                     have HO_8 := n1_
                     have BK330 := n2_
                     have HB := n3_
                     clear n0_ n1_ n2_ n3_
                     obtain ⟨Ao52, co52, eo52⟩ := Kd.R_slice HO_8.out
                     (first | subst eo52 | (injection eo52 with f1_ f2_ f3_; have f4_ := f1_.symm; have f5_ := f3_.symm; clear f1_ f2_ f3_; subst f4_; subst f5_))
                     have p370 : 0 ≤ (1 : Int) := (by omega)
                     have q370 : 1 < (x8_25.length : Int) := of_decide_eq_true (by first | (with_reducible assumption) | assumption)
                     obtain ⟨ad370, e370, hx370_0⟩ := Kd.at_bool (Kd.R_reads' HO_8.out).2.2 1 p370 q370
                     (try rw [← Nbq42.out] at hx370_0)
                     cases e370
                     (try simp only [show (1 : Int).toNat = 1 from rfl, Nat.reduceMul, Nat.reduceEqDiff, Go.Addr.add, ↓reduceIte] at hx370_0)
                     have qi370 : (1 < x8_25.length) = True := eq_true (by omega)
                     (try rw [show ((1 : Int)).toNat = 1 from rfl] at hx370_0)
                     replace p370 := eq_true p370
                     replace q370 := eq_true q370
                     have p372 : 0 ≤ (x9_2 : Int) := of_decide_eq_true (by first | (with_reducible assumption) | assumption)
                     have q372 : x9_2 < (t322.length : Int) := of_decide_eq_true (by first | (with_reducible assumption) | assumption)
                     obtain ⟨ad372, e372, hx372_0, hx372_1⟩ := at_T25 (Kd.R_reads' HO_3.out).2.2 x9_2 p372 q372
                     obtain rfl : ad364 = ad372 := (by injection e372)
                     replace p372 := eq_true p372
                     replace q372 := eq_true q372
                     have p50 : 0 ≤ (1 : Int) := (by omega)
                     have q50 : (1 : Int) < ((x8_25.length : Int) : Int) := of_decide_eq_true (by first | (with_reducible assumption) | assumption)
                     have qi50 : (1 < x8_25.length) = True := eq_true (by omega)
                     obtain ⟨go50, co50, eo50, gb50, gl50, cl50, HG50⟩ := Kd.R_form HO_8.out (by omega)
                     (first | cases eo50 | (injection eo50 with ea_ en_ ec_; (first | subst ea_ | (injection ea_ with ea_; subst ea_)); subst ec_; clear en_))
                     have GB50 := qg gb50
                     have GG50 := qg HG50
                     clear gb50 gl50 HG50
                     (first | simp only [add_plain] at hx370_0 | skip)
                     obtain ⟨hx50_0, hf50_0⟩ := Kd.R_celln false HO_8.out (1 : Int) p50 q50
                     (try rw [show ((1 : Int)).toNat = 1 from rfl] at hx50_0)
                     (try simp only [Nat.reduceMul, Nat.zero_mul, Nat.zero_add, Nat.reduceAdd] at hx50_0)
                     (try rw [show ((1 : Int)).toNat = 1 from rfl] at hf50_0)
                     (try simp only [Nat.reduceMul, Nat.zero_mul, Nat.zero_add, Nat.reduceAdd] at hf50_0)
                     replace p50 := eq_true p50
                     replace q50 := eq_true q50
                     have HP53 := Kd.R_putn HO_8.out (1 : Int) (((rd_T25 t322 x9_2).f0) == t327)
                     rw [← Ny373.out] at HP53
                     have HQ53 := qg HP53
                     clear HP53
                     refine start_ (n := 17) (S := fun w' => w'.cell? ⟨gb330, 0, none⟩ = some (.int .i64 t325) ∧ w'.cell? ⟨gb330, 1, none⟩ = some (.int .i64 t326) ∧ w'.cell? ⟨gb330, 2, none⟩ = some (.int .i64 t327) ∧ w'.cell? ⟨gb330, 3, none⟩ = some (.int .i64 t328) ∧ w'.cell? ⟨go50, 1, none⟩ = some (.bool false) ∧ w'.cell? (ad364.add ((x9_2).toNat * 2)) = some (.int .i64 ((rd_T25 t322 x9_2).f0)) ∧ w'.cell? ⟨(ad364.add ((x9_2).toNat * 2)).block, (ad364.add ((x9_2).toNat * 2)).off + 1, none⟩ = some (.int .i64 ((rd_T25 t322 x9_2).f1))) (ds := [16]) #[false, false, false, false, false, false, false, false, false, false, false, false, false, false, false, false, false] (by kernel_rfl) rfl rfl ⟨(qc BK330.out 0).trans rfl, (qc BK330.out 1).trans rfl, (qc BK330.out 2).trans rfl, (qc BK330.out 3).trans rfl, hx370_0, hx372_0, hx372_1⟩ (fun hHeld => ?_); refine with_tabW laws_FnBoxes.tab19 laws_FnBoxes.bits19 (fun HT_ HW_ => ?_)
                     generalize wc.drew = w51 at HO_3 HO_8 BK330 HB GG50 HQ53 hf50_0 hx370_0 hx372_0 hx372_1 hx50_0 hHeld ⊢
                     refine pure_ (i := 0) (N := some 76) (v := ?_) (a' := ?_) #[true, false, false, false, false, false, false, false, false, false, false, false, false, false, false, false, false] rfl rfl (any_of HT_.out (by kernel_rfl)) (fun _ _ _ h => h) (Or.inl ⟨by rfl, ?_⟩) ?_ ?_
                     rotate_left; focus (intro w'; go_simp; with_reducible rfl)
                     rotate_left; focus (simp only [Act.put, p1, p2, p3, i64_w, i32_w]; rfl)
                     refine pure_ (i := 1) (N := some 77) (v := ?_) (a' := ?_) #[true, true, false, false, false, false, false, false, false, false, false, false, false, false, false, false, false] rfl rfl (any_of HT_.out (by kernel_rfl)) (fun _ _ _ h => h) (Or.inl ⟨by rfl, ?_⟩) ?_ ?_
                     rotate_left; focus (intro w'; go_simp; with_reducible rfl)
                     rotate_left; focus (simp only [Act.put, p1, p2, p3, i64_w, i32_w]; rfl)
                     refine pure_ (i := 2) (N := some 78) (v := ?_) (a' := ?_) #[true, true, true, false, false, false, false, false, false, false, false, false, false, false, false, false, false] rfl rfl (any_of HT_.out (by kernel_rfl)) (fun _ _ _ h => h) (Or.inl ⟨by rfl, ?_⟩) ?_ ?_
                     rotate_left; focus (intro w'; go_simp; with_reducible rfl)
                     rotate_left; focus (simp only [Act.put, p1, p2, p3, i64_w, i32_w]; rfl)
                     refine take_ (i := 3) (N := some 79) (v := ?_) (a' := ?_) #[true, true, true, true, false, false, false, false, false, false, false, false, false, false, false, false, false] rfl rfl (take_ofW HT_.out HW_.out (by kernel_rfl)) (fun _ _ _ h => h) (Or.inl ⟨by rfl, ?_⟩) hHeld ?_ ?_
                     rotate_left; focus (rintro w' ⟨s0, s1, s2, s3, s4, s5, s6⟩; go_simp; with_reducible rfl)
                     rotate_left; focus (simp only [Act.put, p1, p2, p3, i64_w, i32_w]; rfl)
                     refine pure_ (i := 4) (N := some 80) (v := ?_) (a' := ?_) #[true, true, true, true, true, false, false, false, false, false, false, false, false, false, false, false, false] rfl rfl (any_of HT_.out (by kernel_rfl)) (fun _ _ _ h => h) (Or.inl ⟨by rfl, ?_⟩) ?_ ?_
                     rotate_left; focus (intro w'; go_simp; with_reducible rfl)
                     rotate_left; focus (simp only [Act.put, p1, p2, p3, i64_w, i32_w]; rfl)
                     refine pure_ (i := 5) (N := some 81) (v := ?_) (a' := ?_) #[true, true, true, true, true, true, false, false, false, false, false, false, false, false, false, false, false] rfl rfl (any_of HT_.out (by kernel_rfl)) (fun _ _ _ h => h) (Or.inl ⟨by rfl, ?_⟩) ?_ ?_
                     rotate_left; focus (intro w'; go_simp; with_reducible rfl)
                     rotate_left; focus (simp only [Act.put, p1, p2, p3, i64_w, i32_w]; rfl)
                     refine pure_ (i := 6) (N := some 82) (v := ?_) (a' := ?_) #[true, true, true, true, true, true, true, false, false, false, false, false, false, false, false, false, false] rfl rfl (any_of HT_.out (by kernel_rfl)) (fun _ _ _ h => h) (Or.inl ⟨by rfl, ?_⟩) ?_ ?_
                     rotate_left; focus (intro w'; go_simp; with_reducible rfl)
                     rotate_left; focus (simp only [Act.put, p1, p2, p3, i64_w, i32_w]; rfl)
                     refine pure_ (i := 7) (N := some 83) (v := ?_) (a' := ?_) #[true, true, true, true, true, true, true, true, false, false, false, false, false, false, false, false, false] rfl rfl (any_of HT_.out (by kernel_rfl)) (fun _ _ _ h => h) (Or.inl ⟨by rfl, ?_⟩) ?_ ?_
                     rotate_left; focus (intro w'; go_simp; with_reducible rfl)
                     rotate_left; focus (simp only [Act.put, p1, p2, p3, i64_w, i32_w]; rfl)
                     refine pure_ (i := 8) (N := some 84) (v := ?_) (a' := ?_) #[true, true, true, true, true, true, true, true, true, false, false, false, false, false, false, false, false] rfl rfl (any_of HT_.out (by kernel_rfl)) (fun _ _ _ h => h) (Or.inl ⟨by rfl, ?_⟩) ?_ ?_
                     rotate_left; focus (intro w'; go_simp; with_reducible rfl)
                     rotate_left; focus (simp only [Act.put, p1, p2, p3, i64_w, i32_w]; rfl)
                     refine pure_ (i := 10) (N := some 86) (v := ?_) (a' := ?_) #[true, true, true, true, true, true, true, true, true, false, true, false, false, false, false, false, false] rfl rfl (any_of HT_.out (by kernel_rfl)) (fun _ _ _ h => h) (Or.inl ⟨by rfl, ?_⟩) ?_ ?_
                     rotate_left; focus (intro w'; go_simp; with_reducible rfl)
                     rotate_left; focus (simp only [Act.put, p1, p2, p3, i64_w, i32_w]; rfl)
                     refine pure_ (i := 11) (N := some 87) (v := ?_) (a' := ?_) #[true, true, true, true, true, true, true, true, true, false, true, true, false, false, false, false, false] rfl rfl (any_of HT_.out (by kernel_rfl)) (fun _ _ _ h => h) (Or.inl ⟨by rfl, ?_⟩) ?_ ?_
                     rotate_left; focus (intro w'; go_simp; with_reducible rfl)
                     rotate_left; focus (simp only [Act.put, p1, p2, p3, i64_w, i32_w]; rfl)
                     refine take_ (i := 9) (N := some 85) (v := ?_) (a' := ?_) #[true, true, true, true, true, true, true, true, true, true, true, true, false, false, false, false, false] rfl rfl (take_ofW HT_.out HW_.out (by kernel_rfl)) (fun _ _ _ h => h) (Or.inl ⟨by rfl, ?_⟩) hHeld ?_ ?_
                     rotate_left; focus (rintro w' ⟨s0, s1, s2, s3, s4, s5, s6⟩; go_simp; with_reducible rfl)
                     rotate_left; focus (simp only [Act.put, p1, p2, p3, i64_w, i32_w]; rfl)
                     refine take_ (i := 12) (N := some 88) (v := ?_) (a' := ?_) #[true, true, true, true, true, true, true, true, true, true, true, true, true, false, false, false, false] rfl rfl (take_ofW HT_.out HW_.out (by kernel_rfl)) (fun _ _ _ h => h) (Or.inl ⟨by rfl, ?_⟩) hHeld ?_ ?_
                     rotate_left; focus (rintro w' ⟨s0, s1, s2, s3, s4, s5, s6⟩; go_simp; with_reducible rfl)
                     rotate_left; focus (simp only [Act.put, p1, p2, p3, i64_w, i32_w]; rfl)
                     refine pure_ (i := 13) (N := some 89) (v := ?_) (a' := ?_) #[true, true, true, true, true, true, true, true, true, true, true, true, true, true, false, false, false] rfl rfl (any_of HT_.out (by kernel_rfl)) (fun _ _ _ h => h) (Or.inl ⟨by rfl, ?_⟩) ?_ ?_
                     rotate_left; focus (intro w'; go_simp; with_reducible rfl)
                     rotate_left; focus (simp only [Act.put, p1, p2, p3, i64_w, i32_w]; rfl)
                     refine pure_ (i := 14) (N := some 90) (v := ?_) (a' := ?_) #[true, true, true, true, true, true, true, true, true, true, true, true, true, true, true, false, false] rfl rfl (any_of HT_.out (by kernel_rfl)) (fun _ _ _ h => h) (Or.inl ⟨by rfl, ?_⟩) ?_ ?_
                     rotate_left; focus (intro w'; go_simp; with_reducible rfl)
                     rotate_left; focus (simp only [Act.put, p1, p2, p3, i64_w, i32_w]; rfl)
                     refine pure_ (i := 15) (N := some 91) (v := ?_) (a' := ?_) #[true, true, true, true, true, true, true, true, true, true, true, true, true, true, true, true, false] rfl rfl (any_of HT_.out (by kernel_rfl)) (fun _ _ _ h => h) (Or.inl ⟨by rfl, ?_⟩) ?_ ?_
                     rotate_left; focus (intro w'; go_simp; with_reducible rfl)
                     rotate_left; focus (simp only [Act.put, p1, p2, p3, i64_w, i32_w]; rfl)
                     refine last_ (i := 16) (N := none) #[true, true, true, true, true, true, true, true, true, true, true, true, true, true, true, true, true] rfl rfl (one_of HT_.out (by kernel_rfl)) (by decide) (fun K hK => ?_)
                     refine skip_ (w1 := ?_) (by rfl) rfl ?_ ?_
                     rotate_left; focus (go_simp; rfl)
                     refine hK.out _ _ ?_
                     clear hK K
                     refine done_ (done_of HT_.out (by kernel_rfl)) ?_
                     try go_wp2
                     go_meet
                     case rel => exact ⟨_, (y373), H', ⟨by have := HK1.out; have := HK2.out; have := HJ18.out; have := HJ25.out; first | omega | exact Nat.le_refl _⟩, ⟨by (with_reducible repeat (first | apply qk | apply ql | apply qm)); exact Kd.R_mono (Kd.R_far (p := ⟨go50, 1, none⟩) (Kd.R_types HO_3.out GG50.out (by decide)) (fun _ hk => hk.2) (.bool (((rd_T25 t322 x9_2).f0) == t327))) (fun _ hk => trivial)⟩, ⟨by (with_reducible repeat (first | apply qk | apply ql | apply qm)); exact HQ53.out⟩, ⟨by (with_reducible repeat (first | refine q5 ?_ _ | refine q6 ?_ | refine q7 ?_ _)); refine qe ?_ (by have h_ := Kd.R_ne HO_8.out BK330.out (by decide); intro e_; exact h_ (by rw [e_]; rfl)) _; (with_reducible repeat (first | refine q5 ?_ _ | refine q6 ?_ | refine q7 ?_ _)); exact BK330.out⟩, ⟨by repeat (first | (with_reducible first | exact HB.out | apply q1 | apply q2 | apply q3 | refine q4 ?_ GB50.out | refine q4 ?_ GE330.out) | exact HB.out)⟩⟩
                    ·rw [if_neg c49] at H
                     exact absurd H (by simp)
                   ·rw [if_neg c48] at H
                    exact absurd H (by simp)
                 ·rw [if_neg c41] at H
                  exact absurd H (by simp)
                case rest => as_aux_lemma =>
                 clear HC40
                 (try clear c1); (try clear c2); (try clear p2); (try clear c3); (try clear p3); (try clear q3); (try clear hx3); (try clear qi3); (try clear hf3); (try clear c4); (try clear p4); (try clear q4); (try clear hx4); (try clear qi4); (try clear hf4); (try clear c5); (try clear p5); (try clear q5); (try clear hx5); (try clear qi5); (try clear hf5); (try clear p6); (try clear c11); (try clear c11b0); (try clear c12); (try clear c13); (try clear c13b0); (try clear c14); (try clear c16); (try clear c16b0); (try clear c16b1); (try clear c16b2); (try clear c20); (try clear c21); (try clear c22); (try clear c22b0); (try clear c23); (try clear c23b0); (try clear c25); (try clear c29); (try clear c29b0); (try clear c29b1); (try clear q30); (try clear c31); (try clear p32); (try clear q32); (try clear hx32); (try clear qi32); (try clear hf32); (try clear p36); (try clear q36); (try clear hx36); (try clear qi36); (try clear hf36); (try clear p37); (try clear q37); (try clear hx37); (try clear qi37); (try clear p38); (try clear q38); (try clear hx38); (try clear c41); (try clear c41b0); (try clear c41b1); (try clear q42); (try clear c43); (try clear p44); (try clear q44); (try clear hx44); (try clear qi44); (try clear hf44); (try clear c48); (try clear c48b0); (try clear c49); (try clear c49b0); (try clear p50); (try clear q50); (try clear hx50); (try clear qi50); (try clear hf50); (try clear hcz10_0); (try clear hcz10_1); (try clear hcz10_2); (try clear hcz10_3); (try clear hfz10_0); (try clear hfz10_1); (try clear hfz10_2); (try clear hfz10_3); (try clear hx32_0); (try clear hx364_0); (try clear hx364_1); (try clear hx366_0); (try clear hx368_0); (try clear hx368_1); (try clear hx36_0); (try clear hx370_0); (try clear hx372_0); (try clear hx372_1); (try clear hx382_0); (try clear hx382_1); (try clear hx44_0); (try clear hx50_0); (try clear p2); (try clear p3); (try clear p32); (try clear p36); (try clear p364); (try clear p366); (try clear p368); (try clear p370); (try clear p372); (try clear p38); (try clear p382); (try clear p44); (try clear p50); (try clear p6); (try clear q3); (try clear q30); (try clear q32); (try clear q36); (try clear q364); (try clear q366); (try clear q368); (try clear q370); (try clear q372); (try clear q38); (try clear q382); (try clear q44); (try clear q50)
                 obtain ⟨kq, x8_39, HA, HJ39, HO_3, HO_8, BK330, HB⟩ := hcut
                 cases kq with
                 | zero => exact absurd HA.out (by simp [laws_FnBoxes.j6])
                 | succ kj39 =>
                  have H := HA.out
                  clear HA
                  simp only [laws_FnBoxes.j6] at H
                  have HC54 := qg H
                  clear H
                  go_upto_region 20 with (fail)
                  go_cut [] (fun wc => ∃ (kq : Nat) (x8_53 : List Bool), Aside0 (laws_FnBoxes.j7 kq l0 t322 t329 x8_53 x9_2 t325 t326 t327 t328 = some r) ∧ Aside0 (kq ≤ kj39) ∧ Aside0 (Kd.R k25 25 wc w.heap.size (fun _ => True) (.slice (some ad364) t322.length co7) t322) ∧ Aside0 (Kd.R Kd.bool 4 wc w.heap.size (fun _ => True) v332 x8_53) ∧ Aside0 (wc.heap[gb330]? = some (.cells #[.int .i64 t325, .int .i64 t326, .int .i64 t327, .int .i64 t328] 67 (0, 0))) ∧ Aside0 (Below w.heap.size w wc))
                  case first => as_aux_lemma =>
                   have H := HC54.out
                   clear HC54
                   by_cases c55 : 2 < (x8_39.length : Int)
                   ·rw [if_pos c55] at H
                    have c55b0 : decide (2 < (x8_39.length : Int)) = true := decide_eq_true c55
                    have c55b1 : decide (2 < x8_39.length) = true := decide_eq_true (by omega)
                    clear c55
                    (first | rw [c55b0] | (simp only [i64_w, i32_w]; rw [c55b0]) | skip)
                    obtain ⟨bq56, hbq56⟩ : ∃ b_ : Bool, b_ = (rdOf false x8_39 2) := ⟨_, rfl⟩
                    replace H : (if bq56 = true then (laws_FnBoxes.j7 kj39 l0 t322 t329 (x8_39.set (2 : Int).toNat true) x9_2 t325 t326 t327 t328) else (if 0 ≤ x9_2 then (if x9_2 < (t322.length : Int) then (laws_FnBoxes.j7 kj39 l0 t322 t329 (x8_39.set (2 : Int).toNat (((rd_T25 t322 x9_2).f1) == t326)) x9_2 t325 t326 t327 t328) else (none)) else (none))) = some r := by rw [← hbq56] at H; exact H
                    have Nbq56 := qg hbq56
                    clear hbq56
                    by_cases c57 : bq56 = true
                    ·subst c57
                     have H1 : (laws_FnBoxes.j7 kj39 l0 t322 t329 (x8_39.set (2 : Int).toNat true) x9_2 t325 t326 t327 t328) = some r := by rw [if_pos rfl] at H; exact H
                     clear H
                     have H := H1
                     clear H1
                     obtain ⟨y375, hy375⟩ : ∃ y_ : List Bool, y_ = (x8_39.set (2 : Int).toNat true) := ⟨_, rfl⟩
                     replace H : (laws_FnBoxes.j7 kj39 l0 t322 t329 y375 x9_2 t325 t326 t327 t328) = some r := by first | (rw [hy375]; with_reducible exact H) | (have H2_ := (Option.bind_some _ _).symm.trans H; rw [hy375]; with_reducible exact H2_) | (have H2_ := (Option.bind_some _ _).symm.trans H; with_reducible exact H2_) | with_reducible exact H | (rw [hy375]; exact H) | exact H
                     have Ny375 := qg hy375
                     clear hy375
                     have H' := qg H
                     clear H
                     try go_wp2
                     have n0_ := qg (qm HO_3.out)
                     have n1_ := qg (qm HO_8.out)
                     have n2_ := qg (q6 BK330.out)
                     have n3_ := qg (q3 HB.out)
                     clear HO_3; clear HO_8; clear BK330; clear HB
                     have HO_3 := n0_
                     have HO_8 := n1_
                     have BK330 := n2_
                     have HB := n3_
                     clear n0_ n1_ n2_ n3_
                     obtain ⟨Ao60, co60, eo60⟩ := Kd.R_slice HO_8.out
                     (first | subst eo60 | (injection eo60 with f1_ f2_ f3_; have f4_ := f1_.symm; have f5_ := f3_.symm; clear f1_ f2_ f3_; subst f4_; subst f5_))
                     have p374 : 0 ≤ (2 : Int) := (by omega)
                     have q374 : 2 < (x8_39.length : Int) := of_decide_eq_true (by first | (with_reducible assumption) | assumption)
                     obtain ⟨ad374, e374, hx374_0⟩ := Kd.at_bool (Kd.R_reads' HO_8.out).2.2 2 p374 q374
                     (try rw [← Nbq56.out] at hx374_0)
                     cases e374
                     (try simp only [show (2 : Int).toNat = 2 from rfl, Nat.reduceMul, Nat.reduceEqDiff, Go.Addr.add, ↓reduceIte] at hx374_0)
                     have qi374 : (2 < x8_39.length) = True := eq_true (by omega)
                     (try rw [show ((2 : Int)).toNat = 2 from rfl] at hx374_0)
                     replace p374 := eq_true p374
                     replace q374 := eq_true q374
                     have p58 : 0 ≤ (2 : Int) := (by omega)
                     have q58 : (2 : Int) < ((x8_39.length : Int) : Int) := of_decide_eq_true (by first | (with_reducible assumption) | assumption)
                     have qi58 : (2 < x8_39.length) = True := eq_true (by omega)
                     obtain ⟨go58, co58, eo58, gb58, gl58, cl58, HG58⟩ := Kd.R_form HO_8.out (by omega)
                     (first | cases eo58 | (injection eo58 with ea_ en_ ec_; (first | subst ea_ | (injection ea_ with ea_; subst ea_)); subst ec_; clear en_))
                     have GB58 := qg gb58
                     have GG58 := qg HG58
                     clear gb58 gl58 HG58
                     (first | simp only [add_plain] at hx374_0 | skip)
                     obtain ⟨hx58_0, hf58_0⟩ := Kd.R_celln false HO_8.out (2 : Int) p58 q58
                     (try rw [show ((2 : Int)).toNat = 2 from rfl] at hx58_0)
                     (try simp only [Nat.reduceMul, Nat.zero_mul, Nat.zero_add, Nat.reduceAdd] at hx58_0)
                     (try rw [show ((2 : Int)).toNat = 2 from rfl] at hf58_0)
                     (try simp only [Nat.reduceMul, Nat.zero_mul, Nat.zero_add, Nat.reduceAdd] at hf58_0)
                     replace p58 := eq_true p58
                     replace q58 := eq_true q58
                     have HP61 := Kd.R_putn HO_8.out (2 : Int) true
                     rw [← Ny375.out] at HP61
                     have HQ61 := qg HP61
                     clear HP61
                     refine start_ (n := 17) (S := fun w' => w'.cell? ⟨go58, 2, none⟩ = some (.bool true)) (ds := [16]) #[false, false, false, false, false, false, false, false, false, false, false, false, false, false, false, false, false] (by kernel_rfl) rfl rfl (hx374_0) (fun hHeld => ?_); refine with_tabW laws_FnBoxes.tab20 laws_FnBoxes.bits20 (fun HT_ HW_ => ?_)
                     generalize wc.drew = w59 at HO_3 HO_8 BK330 HB GG58 HQ61 hf58_0 hx374_0 hx58_0 hHeld ⊢
                     refine pure_ (i := 0) (N := some 92) (v := ?_) (a' := ?_) #[true, false, false, false, false, false, false, false, false, false, false, false, false, false, false, false, false] rfl rfl (any_of HT_.out (by kernel_rfl)) (fun _ _ _ h => h) (Or.inl ⟨by rfl, ?_⟩) ?_ ?_
                     rotate_left; focus (intro w'; go_simp; with_reducible rfl)
                     rotate_left; focus (simp only [Act.put, p1, p2, p3, i64_w, i32_w]; rfl)
                     refine pure_ (i := 1) (N := some 93) (v := ?_) (a' := ?_) #[true, true, false, false, false, false, false, false, false, false, false, false, false, false, false, false, false] rfl rfl (any_of HT_.out (by kernel_rfl)) (fun _ _ _ h => h) (Or.inl ⟨by rfl, ?_⟩) ?_ ?_
                     rotate_left; focus (intro w'; go_simp; with_reducible rfl)
                     rotate_left; focus (simp only [Act.put, p1, p2, p3, i64_w, i32_w]; rfl)
                     refine pure_ (i := 2) (N := some 94) (v := ?_) (a' := ?_) #[true, true, true, false, false, false, false, false, false, false, false, false, false, false, false, false, false] rfl rfl (any_of HT_.out (by kernel_rfl)) (fun _ _ _ h => h) (Or.inl ⟨by rfl, ?_⟩) ?_ ?_
                     rotate_left; focus (intro w'; go_simp; with_reducible rfl)
                     rotate_left; focus (simp only [Act.put, p1, p2, p3, i64_w, i32_w]; rfl)
                     refine take_ (i := 3) (N := some 95) (v := ?_) (a' := ?_) #[true, true, true, true, false, false, false, false, false, false, false, false, false, false, false, false, false] rfl rfl (take_ofW HT_.out HW_.out (by kernel_rfl)) (fun _ _ _ h => h) (Or.inl ⟨by rfl, ?_⟩) hHeld ?_ ?_
                     rotate_left; focus (intro w' s0; go_simp; with_reducible rfl)
                     rotate_left; focus (simp only [Act.put, p1, p2, p3, i64_w, i32_w]; rfl)
                     refine pure_ (i := 4) (N := some 96) (v := ?_) (a' := ?_) #[true, true, true, true, true, false, false, false, false, false, false, false, false, false, false, false, false] rfl rfl (any_of HT_.out (by kernel_rfl)) (fun _ _ _ h => h) (Or.inl ⟨by rfl, ?_⟩) ?_ ?_
                     rotate_left; focus (intro w'; go_simp; with_reducible rfl)
                     rotate_left; focus (simp only [Act.put, p1, p2, p3, i64_w, i32_w]; rfl)
                     refine pure_ (i := 5) (N := some 97) (v := undef) (a' := ?_) #[true, true, true, true, true, true, false, false, false, false, false, false, false, false, false, false, false] rfl rfl (any_of HT_.out (by kernel_rfl)) (fun _ _ _ h => h) (Or.inr ⟨by rfl, rfl⟩) ?_ ?_
                     rotate_left; focus (simp only [Act.put, p1, p2, p3, i64_w, i32_w]; rfl)
                     refine pure_ (i := 6) (N := some 98) (v := undef) (a' := ?_) #[true, true, true, true, true, true, true, false, false, false, false, false, false, false, false, false, false] rfl rfl (any_of HT_.out (by kernel_rfl)) (fun _ _ _ h => h) (Or.inr ⟨by rfl, rfl⟩) ?_ ?_
                     rotate_left; focus (simp only [Act.put, p1, p2, p3, i64_w, i32_w]; rfl)
                     refine pure_ (i := 7) (N := some 99) (v := undef) (a' := ?_) #[true, true, true, true, true, true, true, true, false, false, false, false, false, false, false, false, false] rfl rfl (any_of HT_.out (by kernel_rfl)) (fun _ _ _ h => h) (Or.inr ⟨by rfl, rfl⟩) ?_ ?_
                     rotate_left; focus (simp only [Act.put, p1, p2, p3, i64_w, i32_w]; rfl)
                     refine pure_ (i := 8) (N := some 100) (v := undef) (a' := ?_) #[true, true, true, true, true, true, true, true, true, false, false, false, false, false, false, false, false] rfl rfl (any_of HT_.out (by kernel_rfl)) (fun _ _ _ h => h) (Or.inr ⟨by rfl, rfl⟩) ?_ ?_
                     rotate_left; focus (simp only [Act.put, p1, p2, p3, i64_w, i32_w]; rfl)
                     refine pure_ (i := 9) (N := some 101) (v := undef) (a' := ?_) #[true, true, true, true, true, true, true, true, true, true, false, false, false, false, false, false, false] rfl rfl (any_of HT_.out (by kernel_rfl)) (fun _ _ _ h => h) (Or.inr ⟨by rfl, rfl⟩) ?_ ?_
                     rotate_left; focus (simp only [Act.put, p1, p2, p3, i64_w, i32_w]; rfl)
                     refine pure_ (i := 10) (N := some 102) (v := undef) (a' := ?_) #[true, true, true, true, true, true, true, true, true, true, true, false, false, false, false, false, false] rfl rfl (any_of HT_.out (by kernel_rfl)) (fun _ _ _ h => h) (Or.inr ⟨by rfl, rfl⟩) ?_ ?_
                     rotate_left; focus (simp only [Act.put, p1, p2, p3, i64_w, i32_w]; rfl)
                     refine pure_ (i := 11) (N := some 103) (v := undef) (a' := ?_) #[true, true, true, true, true, true, true, true, true, true, true, true, false, false, false, false, false] rfl rfl (any_of HT_.out (by kernel_rfl)) (fun _ _ _ h => h) (Or.inr ⟨by rfl, rfl⟩) ?_ ?_
                     rotate_left; focus (simp only [Act.put, p1, p2, p3, i64_w, i32_w]; rfl)
                     refine pure_ (i := 12) (N := some 104) (v := undef) (a' := ?_) #[true, true, true, true, true, true, true, true, true, true, true, true, true, false, false, false, false] rfl rfl (any_of HT_.out (by kernel_rfl)) (fun _ _ _ h => h) (Or.inr ⟨by rfl, rfl⟩) ?_ ?_
                     rotate_left; focus (simp only [Act.put, p1, p2, p3, i64_w, i32_w]; rfl)
                     refine pure_ (i := 13) (N := some 105) (v := undef) (a' := ?_) #[true, true, true, true, true, true, true, true, true, true, true, true, true, true, false, false, false] rfl rfl (any_of HT_.out (by kernel_rfl)) (fun _ _ _ h => h) (Or.inr ⟨by rfl, rfl⟩) ?_ ?_
                     rotate_left; focus (simp only [Act.put, p1, p2, p3, i64_w, i32_w]; rfl)
                     refine pure_ (i := 14) (N := some 106) (v := ?_) (a' := ?_) #[true, true, true, true, true, true, true, true, true, true, true, true, true, true, true, false, false] rfl rfl (any_of HT_.out (by kernel_rfl)) (fun _ _ _ h => h) (Or.inl ⟨by rfl, ?_⟩) ?_ ?_
                     rotate_left; focus (intro w'; go_simp; with_reducible rfl)
                     rotate_left; focus (simp only [Act.put, p1, p2, p3, i64_w, i32_w]; rfl)
                     refine pure_ (i := 15) (N := some 107) (v := ?_) (a' := ?_) #[true, true, true, true, true, true, true, true, true, true, true, true, true, true, true, true, false] rfl rfl (any_of HT_.out (by kernel_rfl)) (fun _ _ _ h => h) (Or.inl ⟨by rfl, ?_⟩) ?_ ?_
                     rotate_left; focus (intro w'; go_simp; with_reducible rfl)
                     rotate_left; focus (simp only [Act.put, p1, p2, p3, i64_w, i32_w]; rfl)
                     refine last_ (i := 16) (N := none) #[true, true, true, true, true, true, true, true, true, true, true, true, true, true, true, true, true] rfl rfl (one_of HT_.out (by kernel_rfl)) (by decide) (fun K hK => ?_)
                     refine skip_ (w1 := ?_) (by rfl) rfl ?_ ?_
                     rotate_left; focus (go_simp; rfl)
                     refine hK.out _ _ ?_
                     clear hK K
                     refine done_ (done_of HT_.out (by kernel_rfl)) ?_
                     try go_wp2
                     go_meet
                     case rel => exact ⟨_, (y375), H', ⟨by have := HK1.out; have := HK2.out; have := HJ18.out; have := HJ25.out; have := HJ39.out; first | omega | exact Nat.le_refl _⟩, ⟨by (with_reducible repeat (first | apply qk | apply ql | apply qm)); exact Kd.R_mono (Kd.R_far (p := ⟨go58, 2, none⟩) (Kd.R_types HO_3.out GG58.out (by decide)) (fun _ hk => hk.2) (.bool true)) (fun _ hk => trivial)⟩, ⟨by (with_reducible repeat (first | apply qk | apply ql | apply qm)); exact HQ61.out⟩, ⟨by (with_reducible repeat (first | refine q5 ?_ _ | refine q6 ?_ | refine q7 ?_ _)); refine qe ?_ (by have h_ := Kd.R_ne HO_8.out BK330.out (by decide); intro e_; exact h_ (by rw [e_]; rfl)) _; (with_reducible repeat (first | refine q5 ?_ _ | refine q6 ?_ | refine q7 ?_ _)); exact BK330.out⟩, ⟨by repeat (first | (with_reducible first | exact HB.out | apply q1 | apply q2 | apply q3 | refine q4 ?_ GB58.out | refine q4 ?_ GE330.out) | exact HB.out)⟩⟩
                    ·replace c57 := Bool.eq_false_iff.mpr c57
                     subst c57
                     have H1 : (if 0 ≤ x9_2 then (if x9_2 < (t322.length : Int) then (laws_FnBoxes.j7 kj39 l0 t322 t329 (x8_39.set (2 : Int).toNat (((rd_T25 t322 x9_2).f1) == t326)) x9_2 t325 t326 t327 t328) else (none)) else (none)) = some r := by rw [if_neg (show ¬ (false = true) by decide)] at H; exact H
                     clear H
                     have H := H1
                     clear H1
                     by_cases c62 : 0 ≤ x9_2
                     ·rw [if_pos c62] at H
                      have c62b0 : decide (0 ≤ x9_2) = true := decide_eq_true c62
                      clear c62
                      by_cases c63 : x9_2 < (t322.length : Int)
                      ·rw [if_pos c63] at H
                       have c63b0 : decide (x9_2 < (t322.length : Int)) = true := decide_eq_true c63
                       clear c63
                       obtain ⟨y377, hy377⟩ : ∃ y_ : List Bool, y_ = (x8_39.set (2 : Int).toNat (((rd_T25 t322 x9_2).f1) == t326)) := ⟨_, rfl⟩
                       replace H : (laws_FnBoxes.j7 kj39 l0 t322 t329 y377 x9_2 t325 t326 t327 t328) = some r := by first | (rw [hy377]; with_reducible exact H) | (have H2_ := (Option.bind_some _ _).symm.trans H; rw [hy377]; with_reducible exact H2_) | (have H2_ := (Option.bind_some _ _).symm.trans H; with_reducible exact H2_) | with_reducible exact H | (rw [hy377]; exact H) | exact H
                       have Ny377 := qg hy377
                       clear hy377
                       have H' := qg H
                       clear H
                       try go_wp2
                       have n0_ := qg (qm HO_3.out)
                       have n1_ := qg (qm HO_8.out)
                       have n2_ := qg (q6 BK330.out)
                       have n3_ := qg (q3 HB.out)
                       clear HO_3; clear HO_8; clear BK330; clear HB
                       have HO_3 := n0_
                       have HO_8 := n1_
                       have BK330 := n2_
                       have HB := n3_
                       clear n0_ n1_ n2_ n3_
                       obtain ⟨Ao66, co66, eo66⟩ := Kd.R_slice HO_8.out
                       (first | subst eo66 | (injection eo66 with f1_ f2_ f3_; have f4_ := f1_.symm; have f5_ := f3_.symm; clear f1_ f2_ f3_; subst f4_; subst f5_))
                       have p374 : 0 ≤ (2 : Int) := (by omega)
                       have q374 : 2 < (x8_39.length : Int) := of_decide_eq_true (by first | (with_reducible assumption) | assumption)
                       obtain ⟨ad374, e374, hx374_0⟩ := Kd.at_bool (Kd.R_reads' HO_8.out).2.2 2 p374 q374
                       (try rw [← Nbq56.out] at hx374_0)
                       cases e374
                       (try simp only [show (2 : Int).toNat = 2 from rfl, Nat.reduceMul, Nat.reduceEqDiff, Go.Addr.add, ↓reduceIte] at hx374_0)
                       have qi374 : (2 < x8_39.length) = True := eq_true (by omega)
                       (try rw [show ((2 : Int)).toNat = 2 from rfl] at hx374_0)
                       replace p374 := eq_true p374
                       replace q374 := eq_true q374
                       have p376 : 0 ≤ (x9_2 : Int) := of_decide_eq_true (by first | (with_reducible assumption) | assumption)
                       have q376 : x9_2 < (t322.length : Int) := of_decide_eq_true (by first | (with_reducible assumption) | assumption)
                       obtain ⟨ad376, e376, hx376_0, hx376_1⟩ := at_T25 (Kd.R_reads' HO_3.out).2.2 x9_2 p376 q376
                       obtain rfl : ad364 = ad376 := (by injection e376)
                       replace p376 := eq_true p376
                       replace q376 := eq_true q376
                       have p64 : 0 ≤ (2 : Int) := (by omega)
                       have q64 : (2 : Int) < ((x8_39.length : Int) : Int) := of_decide_eq_true (by first | (with_reducible assumption) | assumption)
                       have qi64 : (2 < x8_39.length) = True := eq_true (by omega)
                       obtain ⟨go64, co64, eo64, gb64, gl64, cl64, HG64⟩ := Kd.R_form HO_8.out (by omega)
                       (first | cases eo64 | (injection eo64 with ea_ en_ ec_; (first | subst ea_ | (injection ea_ with ea_; subst ea_)); subst ec_; clear en_))
                       have GB64 := qg gb64
                       have GG64 := qg HG64
                       clear gb64 gl64 HG64
                       (first | simp only [add_plain] at hx374_0 | skip)
                       obtain ⟨hx64_0, hf64_0⟩ := Kd.R_celln false HO_8.out (2 : Int) p64 q64
                       (try rw [show ((2 : Int)).toNat = 2 from rfl] at hx64_0)
                       (try simp only [Nat.reduceMul, Nat.zero_mul, Nat.zero_add, Nat.reduceAdd] at hx64_0)
                       (try rw [show ((2 : Int)).toNat = 2 from rfl] at hf64_0)
                       (try simp only [Nat.reduceMul, Nat.zero_mul, Nat.zero_add, Nat.reduceAdd] at hf64_0)
                       replace p64 := eq_true p64
                       replace q64 := eq_true q64
                       have HP67 := Kd.R_putn HO_8.out (2 : Int) (((rd_T25 t322 x9_2).f1) == t326)
                       rw [← Ny377.out] at HP67
                       have HQ67 := qg HP67
                       clear HP67
                       refine start_ (n := 17) (S := fun w' => w'.cell? ⟨gb330, 0, none⟩ = some (.int .i64 t325) ∧ w'.cell? ⟨gb330, 1, none⟩ = some (.int .i64 t326) ∧ w'.cell? ⟨gb330, 2, none⟩ = some (.int .i64 t327) ∧ w'.cell? ⟨gb330, 3, none⟩ = some (.int .i64 t328) ∧ w'.cell? ⟨go64, 2, none⟩ = some (.bool false) ∧ w'.cell? (ad364.add ((x9_2).toNat * 2)) = some (.int .i64 ((rd_T25 t322 x9_2).f0)) ∧ w'.cell? ⟨(ad364.add ((x9_2).toNat * 2)).block, (ad364.add ((x9_2).toNat * 2)).off + 1, none⟩ = some (.int .i64 ((rd_T25 t322 x9_2).f1))) (ds := [16]) #[false, false, false, false, false, false, false, false, false, false, false, false, false, false, false, false, false] (by kernel_rfl) rfl rfl ⟨(qc BK330.out 0).trans rfl, (qc BK330.out 1).trans rfl, (qc BK330.out 2).trans rfl, (qc BK330.out 3).trans rfl, hx374_0, hx376_0, hx376_1⟩ (fun hHeld => ?_); refine with_tabW laws_FnBoxes.tab20 laws_FnBoxes.bits20 (fun HT_ HW_ => ?_)
                       generalize wc.drew = w65 at HO_3 HO_8 BK330 HB GG64 HQ67 hf64_0 hx374_0 hx376_0 hx376_1 hx64_0 hHeld ⊢
                       refine pure_ (i := 0) (N := some 92) (v := ?_) (a' := ?_) #[true, false, false, false, false, false, false, false, false, false, false, false, false, false, false, false, false] rfl rfl (any_of HT_.out (by kernel_rfl)) (fun _ _ _ h => h) (Or.inl ⟨by rfl, ?_⟩) ?_ ?_
                       rotate_left; focus (intro w'; go_simp; with_reducible rfl)
                       rotate_left; focus (simp only [Act.put, p1, p2, p3, i64_w, i32_w]; rfl)
                       refine pure_ (i := 1) (N := some 93) (v := ?_) (a' := ?_) #[true, true, false, false, false, false, false, false, false, false, false, false, false, false, false, false, false] rfl rfl (any_of HT_.out (by kernel_rfl)) (fun _ _ _ h => h) (Or.inl ⟨by rfl, ?_⟩) ?_ ?_
                       rotate_left; focus (intro w'; go_simp; with_reducible rfl)
                       rotate_left; focus (simp only [Act.put, p1, p2, p3, i64_w, i32_w]; rfl)
                       refine pure_ (i := 2) (N := some 94) (v := ?_) (a' := ?_) #[true, true, true, false, false, false, false, false, false, false, false, false, false, false, false, false, false] rfl rfl (any_of HT_.out (by kernel_rfl)) (fun _ _ _ h => h) (Or.inl ⟨by rfl, ?_⟩) ?_ ?_
                       rotate_left; focus (intro w'; go_simp; with_reducible rfl)
                       rotate_left; focus (simp only [Act.put, p1, p2, p3, i64_w, i32_w]; rfl)
                       refine take_ (i := 3) (N := some 95) (v := ?_) (a' := ?_) #[true, true, true, true, false, false, false, false, false, false, false, false, false, false, false, false, false] rfl rfl (take_ofW HT_.out HW_.out (by kernel_rfl)) (fun _ _ _ h => h) (Or.inl ⟨by rfl, ?_⟩) hHeld ?_ ?_
                       rotate_left; focus (rintro w' ⟨s0, s1, s2, s3, s4, s5, s6⟩; go_simp; with_reducible rfl)
                       rotate_left; focus (simp only [Act.put, p1, p2, p3, i64_w, i32_w]; rfl)
                       refine pure_ (i := 4) (N := some 96) (v := ?_) (a' := ?_) #[true, true, true, true, true, false, false, false, false, false, false, false, false, false, false, false, false] rfl rfl (any_of HT_.out (by kernel_rfl)) (fun _ _ _ h => h) (Or.inl ⟨by rfl, ?_⟩) ?_ ?_
                       rotate_left; focus (intro w'; go_simp; with_reducible rfl)
                       rotate_left; focus (simp only [Act.put, p1, p2, p3, i64_w, i32_w]; rfl)
                       refine pure_ (i := 5) (N := some 97) (v := ?_) (a' := ?_) #[true, true, true, true, true, true, false, false, false, false, false, false, false, false, false, false, false] rfl rfl (any_of HT_.out (by kernel_rfl)) (fun _ _ _ h => h) (Or.inl ⟨by rfl, ?_⟩) ?_ ?_
                       rotate_left; focus (intro w'; go_simp; with_reducible rfl)
                       rotate_left; focus (simp only [Act.put, p1, p2, p3, i64_w, i32_w]; rfl)
                       refine pure_ (i := 6) (N := some 98) (v := ?_) (a' := ?_) #[true, true, true, true, true, true, true, false, false, false, false, false, false, false, false, false, false] rfl rfl (any_of HT_.out (by kernel_rfl)) (fun _ _ _ h => h) (Or.inl ⟨by rfl, ?_⟩) ?_ ?_
                       rotate_left; focus (intro w'; go_simp; with_reducible rfl)
                       rotate_left; focus (simp only [Act.put, p1, p2, p3, i64_w, i32_w]; rfl)
                       refine pure_ (i := 7) (N := some 99) (v := ?_) (a' := ?_) #[true, true, true, true, true, true, true, true, false, false, false, false, false, false, false, false, false] rfl rfl (any_of HT_.out (by kernel_rfl)) (fun _ _ _ h => h) (Or.inl ⟨by rfl, ?_⟩) ?_ ?_
                       rotate_left; focus (intro w'; go_simp; with_reducible rfl)
                       rotate_left; focus (simp only [Act.put, p1, p2, p3, i64_w, i32_w]; rfl)
                       refine pure_ (i := 8) (N := some 100) (v := ?_) (a' := ?_) #[true, true, true, true, true, true, true, true, true, false, false, false, false, false, false, false, false] rfl rfl (any_of HT_.out (by kernel_rfl)) (fun _ _ _ h => h) (Or.inl ⟨by rfl, ?_⟩) ?_ ?_
                       rotate_left; focus (intro w'; go_simp; with_reducible rfl)
                       rotate_left; focus (simp only [Act.put, p1, p2, p3, i64_w, i32_w]; rfl)
                       refine pure_ (i := 10) (N := some 102) (v := ?_) (a' := ?_) #[true, true, true, true, true, true, true, true, true, false, true, false, false, false, false, false, false] rfl rfl (any_of HT_.out (by kernel_rfl)) (fun _ _ _ h => h) (Or.inl ⟨by rfl, ?_⟩) ?_ ?_
                       rotate_left; focus (intro w'; go_simp; with_reducible rfl)
                       rotate_left; focus (simp only [Act.put, p1, p2, p3, i64_w, i32_w]; rfl)
                       refine pure_ (i := 11) (N := some 103) (v := ?_) (a' := ?_) #[true, true, true, true, true, true, true, true, true, false, true, true, false, false, false, false, false] rfl rfl (any_of HT_.out (by kernel_rfl)) (fun _ _ _ h => h) (Or.inl ⟨by rfl, ?_⟩) ?_ ?_
                       rotate_left; focus (intro w'; go_simp; with_reducible rfl)
                       rotate_left; focus (simp only [Act.put, p1, p2, p3, i64_w, i32_w]; rfl)
                       refine take_ (i := 9) (N := some 101) (v := ?_) (a' := ?_) #[true, true, true, true, true, true, true, true, true, true, true, true, false, false, false, false, false] rfl rfl (take_ofW HT_.out HW_.out (by kernel_rfl)) (fun _ _ _ h => h) (Or.inl ⟨by rfl, ?_⟩) hHeld ?_ ?_
                       rotate_left; focus (rintro w' ⟨s0, s1, s2, s3, s4, s5, s6⟩; go_simp; with_reducible rfl)
                       rotate_left; focus (simp only [Act.put, p1, p2, p3, i64_w, i32_w]; rfl)
                       refine take_ (i := 12) (N := some 104) (v := ?_) (a' := ?_) #[true, true, true, true, true, true, true, true, true, true, true, true, true, false, false, false, false] rfl rfl (take_ofW HT_.out HW_.out (by kernel_rfl)) (fun _ _ _ h => h) (Or.inl ⟨by rfl, ?_⟩) hHeld ?_ ?_
                       rotate_left; focus (rintro w' ⟨s0, s1, s2, s3, s4, s5, s6⟩; go_simp; with_reducible rfl)
                       rotate_left; focus (simp only [Act.put, p1, p2, p3, i64_w, i32_w]; rfl)
                       refine pure_ (i := 13) (N := some 105) (v := ?_) (a' := ?_) #[true, true, true, true, true, true, true, true, true, true, true, true, true, true, false, false, false] rfl rfl (any_of HT_.out (by kernel_rfl)) (fun _ _ _ h => h) (Or.inl ⟨by rfl, ?_⟩) ?_ ?_
                       rotate_left; focus (intro w'; go_simp; with_reducible rfl)
                       rotate_left; focus (simp only [Act.put, p1, p2, p3, i64_w, i32_w]; rfl)
                       refine pure_ (i := 14) (N := some 106) (v := ?_) (a' := ?_) #[true, true, true, true, true, true, true, true, true, true, true, true, true, true, true, false, false] rfl rfl (any_of HT_.out (by kernel_rfl)) (fun _ _ _ h => h) (Or.inl ⟨by rfl, ?_⟩) ?_ ?_
                       rotate_left; focus (intro w'; go_simp; with_reducible rfl)
                       rotate_left; focus (simp only [Act.put, p1, p2, p3, i64_w, i32_w]; rfl)
                       refine pure_ (i := 15) (N := some 107) (v := ?_) (a' := ?_) #[true, true, true, true, true, true, true, true, true, true, true, true, true, true, true, true, false] rfl rfl (any_of HT_.out (by kernel_rfl)) (fun _ _ _ h => h) (Or.inl ⟨by rfl, ?_⟩) ?_ ?_
                       rotate_left; focus (intro w'; go_simp; with_reducible rfl)
                       rotate_left; focus (simp only [Act.put, p1, p2, p3, i64_w, i32_w]; rfl)
                       refine last_ (i := 16) (N := none) #[true, true, true, true, true, true, true, true, true, true, true, true, true, true, true, true, true] rfl rfl (one_of HT_.out (by kernel_rfl)) (by decide) (fun K hK => ?_)
                       refine skip_ (w1 := ?_) (by rfl) rfl ?_ ?_
                       rotate_left; focus (go_simp; rfl)
                       refine hK.out _ _ ?_
                       clear hK K
                       refine done_ (done_of HT_.out (by kernel_rfl)) ?_
                       try go_wp2
                       go_meet
                       case rel => exact ⟨_, (y377), H', ⟨by have := HK1.out; have := HK2.out; have := HJ18.out; have := HJ25.out; have := HJ39.out; first | omega | exact Nat.le_refl _⟩, ⟨by (with_reducible repeat (first | apply qk | apply ql | apply qm)); exact Kd.R_mono (Kd.R_far (p := ⟨go64, 2, none⟩) (Kd.R_types HO_3.out GG64.out (by decide)) (fun _ hk => hk.2) (.bool (((rd_T25 t322 x9_2).f1) == t326))) (fun _ hk => trivial)⟩, ⟨by (with_reducible repeat (first | apply qk | apply ql | apply qm)); exact HQ67.out⟩, ⟨by (with_reducible repeat (first | refine q5 ?_ _ | refine q6 ?_ | refine q7 ?_ _)); refine qe ?_ (by have h_ := Kd.R_ne HO_8.out BK330.out (by decide); intro e_; exact h_ (by rw [e_]; rfl)) _; (with_reducible repeat (first | refine q5 ?_ _ | refine q6 ?_ | refine q7 ?_ _)); exact BK330.out⟩, ⟨by repeat (first | (with_reducible first | exact HB.out | apply q1 | apply q2 | apply q3 | refine q4 ?_ GB64.out | refine q4 ?_ GE330.out) | exact HB.out)⟩⟩
                      ·rw [if_neg c63] at H
                       exact absurd H (by simp)
                     ·rw [if_neg c62] at H
                      exact absurd H (by simp)
                   ·rw [if_neg c55] at H
                    exact absurd H (by simp)
                  case rest => as_aux_lemma =>
                   clear HC54
                   (try clear c1); (try clear c2); (try clear p2); (try clear c3); (try clear p3); (try clear q3); (try clear hx3); (try clear qi3); (try clear hf3); (try clear c4); (try clear p4); (try clear q4); (try clear hx4); (try clear qi4); (try clear hf4); (try clear c5); (try clear p5); (try clear q5); (try clear hx5); (try clear qi5); (try clear hf5); (try clear c6); (try clear p6); (try clear q6); (try clear hx6); (try clear qi6); (try clear hf6); (try clear c11); (try clear c11b0); (try clear c12); (try clear c13); (try clear c13b0); (try clear c14); (try clear c16); (try clear c16b0); (try clear c16b1); (try clear c16b2); (try clear c20); (try clear c21); (try clear c22); (try clear c22b0); (try clear c23); (try clear c23b0); (try clear c25); (try clear c29); (try clear c29b0); (try clear c29b1); (try clear q30); (try clear c31); (try clear p32); (try clear q32); (try clear hx32); (try clear qi32); (try clear hf32); (try clear p36); (try clear q36); (try clear hx36); (try clear qi36); (try clear hf36); (try clear p37); (try clear q37); (try clear hx37); (try clear qi37); (try clear p38); (try clear q38); (try clear hx38); (try clear c41); (try clear c41b0); (try clear c41b1); (try clear q42); (try clear c43); (try clear p44); (try clear q44); (try clear hx44); (try clear qi44); (try clear hf44); (try clear c48); (try clear c48b0); (try clear c49); (try clear c49b0); (try clear p50); (try clear q50); (try clear hx50); (try clear qi50); (try clear hf50); (try clear c55); (try clear c55b0); (try clear c55b1); (try clear q56); (try clear c57); (try clear p58); (try clear q58); (try clear hx58); (try clear qi58); (try clear hf58); (try clear c62); (try clear c62b0); (try clear c63); (try clear c63b0); (try clear p64); (try clear q64); (try clear hx64); (try clear qi64); (try clear hf64); (try clear hcz10_0); (try clear hcz10_1); (try clear hcz10_2); (try clear hcz10_3); (try clear hfz10_0); (try clear hfz10_1); (try clear hfz10_2); (try clear hfz10_3); (try clear hx32_0); (try clear hx364_0); (try clear hx364_1); (try clear hx366_0); (try clear hx368_0); (try clear hx368_1); (try clear hx36_0); (try clear hx370_0); (try clear hx372_0); (try clear hx372_1); (try clear hx374_0); (try clear hx376_0); (try clear hx376_1); (try clear hx382_0); (try clear hx382_1); (try clear hx44_0); (try clear hx50_0); (try clear hx58_0); (try clear hx64_0); (try clear p2); (try clear p3); (try clear p32); (try clear p36); (try clear p364); (try clear p366); (try clear p368); (try clear p37); (try clear p370); (try clear p372); (try clear p374); (try clear p376); (try clear p38); (try clear p382); (try clear p4); (try clear p44); (try clear p5); (try clear p50); (try clear p58); (try clear p6); (try clear p64); (try clear q3); (try clear q30); (try clear q32); (try clear q36); (try clear q364); (try clear q366); (try clear q368); (try clear q37); (try clear q370); (try clear q372); (try clear q374); (try clear q376); (try clear q38); (try clear q382); (try clear q4); (try clear q42); (try clear q44); (try clear q5); (try clear q50); (try clear q58); (try clear q64)
                   obtain ⟨kq, x8_53, HA, HJ53, HO_3, HO_8, BK330, HB⟩ := hcut
                   cases kq with
                   | zero => exact absurd HA.out (by simp [laws_FnBoxes.j7])
                   | succ kj53 =>
                    have H := HA.out
                    clear HA
                    simp only [laws_FnBoxes.j7] at H
                    by_cases c68 : 3 < (x8_53.length : Int)
                    ·rw [if_pos c68] at H
                     have c68b0 : decide (3 < (x8_53.length : Int)) = true := decide_eq_true c68
                     have c68b1 : decide (3 < x8_53.length) = true := decide_eq_true (by omega)
                     clear c68
                     obtain ⟨bq69, hbq69⟩ : ∃ b_ : Bool, b_ = (rdOf false x8_53 3) := ⟨_, rfl⟩
                     replace H : (if bq69 = true then (laws_FnBoxes.l1 kj53 l0 t322 t329 (x8_53.set (3 : Int).toNat true) (wrap64 (x9_2 + 1)) t325 t326 t327 t328) else (if 0 ≤ x9_2 then (if x9_2 < (t322.length : Int) then (laws_FnBoxes.l1 kj53 l0 t322 t329 (x8_53.set (3 : Int).toNat (((rd_T25 t322 x9_2).f1) == t328)) (wrap64 (x9_2 + 1)) t325 t326 t327 t328) else (none)) else (none))) = some r := by rw [← hbq69] at H; exact H
                     have Nbq69 := qg hbq69
                     clear hbq69
                     by_cases c70 : bq69 = true
                     ·subst c70
                      have H1 : (laws_FnBoxes.l1 kj53 l0 t322 t329 (x8_53.set (3 : Int).toNat true) (wrap64 (x9_2 + 1)) t325 t326 t327 t328) = some r := by rw [if_pos rfl] at H; exact H
                      clear H
                      have H := H1
                      clear H1
                      obtain ⟨y379, hy379⟩ : ∃ y_ : List Bool, y_ = (x8_53.set (3 : Int).toNat true) := ⟨_, rfl⟩
                      replace H : (laws_FnBoxes.l1 kj53 l0 t322 t329 y379 (wrap64 (x9_2 + 1)) t325 t326 t327 t328) = some r := by first | (rw [hy379]; with_reducible exact H) | (have H2_ := (Option.bind_some _ _).symm.trans H; rw [hy379]; with_reducible exact H2_) | (have H2_ := (Option.bind_some _ _).symm.trans H; with_reducible exact H2_) | with_reducible exact H | (rw [hy379]; exact H) | exact H
                      have Ny379 := qg hy379
                      clear hy379
                      have H' := qg H
                      clear H
                      try go_wp2
                      have n0_ := qg (qm HO_3.out)
                      have n1_ := qg (qm HO_8.out)
                      have n2_ := qg (q6 BK330.out)
                      have n3_ := qg (q3 HB.out)
                      clear HO_3; clear HO_8; clear BK330; clear HB
                      have HO_3 := n0_
                      have HO_8 := n1_
                      have BK330 := n2_
                      have HB := n3_
                      clear n0_ n1_ n2_ n3_
                      obtain ⟨Ao73, co73, eo73⟩ := Kd.R_slice HO_8.out
                      (first | subst eo73 | (injection eo73 with f1_ f2_ f3_; have f4_ := f1_.symm; have f5_ := f3_.symm; clear f1_ f2_ f3_; subst f4_; subst f5_))
                      have p378 : 0 ≤ (3 : Int) := (by omega)
                      have q378 : 3 < (x8_53.length : Int) := of_decide_eq_true (by first | (with_reducible assumption) | assumption)
                      obtain ⟨ad378, e378, hx378_0⟩ := Kd.at_bool (Kd.R_reads' HO_8.out).2.2 3 p378 q378
                      (try rw [← Nbq69.out] at hx378_0)
                      cases e378
                      (try simp only [show (3 : Int).toNat = 3 from rfl, Nat.reduceMul, Nat.reduceEqDiff, Go.Addr.add, ↓reduceIte] at hx378_0)
                      have qi378 : (3 < x8_53.length) = True := eq_true (by omega)
                      (try rw [show ((3 : Int)).toNat = 3 from rfl] at hx378_0)
                      replace p378 := eq_true p378
                      replace q378 := eq_true q378
                      have p71 : 0 ≤ (3 : Int) := (by omega)
                      have q71 : (3 : Int) < ((x8_53.length : Int) : Int) := of_decide_eq_true (by first | (with_reducible assumption) | assumption)
                      have qi71 : (3 < x8_53.length) = True := eq_true (by omega)
                      obtain ⟨go71, co71, eo71, gb71, gl71, cl71, HG71⟩ := Kd.R_form HO_8.out (by omega)
                      (first | cases eo71 | (injection eo71 with ea_ en_ ec_; (first | subst ea_ | (injection ea_ with ea_; subst ea_)); subst ec_; clear en_))
                      have GB71 := qg gb71
                      have GG71 := qg HG71
                      clear gb71 gl71 HG71
                      (first | simp only [add_plain] at hx378_0 | skip)
                      obtain ⟨hx71_0, hf71_0⟩ := Kd.R_celln false HO_8.out (3 : Int) p71 q71
                      (try rw [show ((3 : Int)).toNat = 3 from rfl] at hx71_0)
                      (try simp only [Nat.reduceMul, Nat.zero_mul, Nat.zero_add, Nat.reduceAdd] at hx71_0)
                      (try rw [show ((3 : Int)).toNat = 3 from rfl] at hf71_0)
                      (try simp only [Nat.reduceMul, Nat.zero_mul, Nat.zero_add, Nat.reduceAdd] at hf71_0)
                      replace p71 := eq_true p71
                      replace q71 := eq_true q71
                      have HP74 := Kd.R_putn HO_8.out (3 : Int) true
                      rw [← Ny379.out] at HP74
                      have HQ74 := qg HP74
                      clear HP74
                      refine start_ (n := 17) (S := fun w' => w'.cell? ⟨go71, 3, none⟩ = some (.bool true)) (ds := [16]) #[false, false, false, false, false, false, false, false, false, false, false, false, false, false, false, false, false] (by kernel_rfl) rfl rfl (hx378_0) (fun hHeld => ?_); refine with_tabW laws_FnBoxes.tab21 laws_FnBoxes.bits21 (fun HT_ HW_ => ?_)
                      generalize wc.drew = w72 at HO_3 HO_8 BK330 HB GG71 HQ74 hf71_0 hx378_0 hx71_0 hHeld ⊢
                      refine pure_ (i := 0) (N := some 108) (v := ?_) (a' := ?_) #[true, false, false, false, false, false, false, false, false, false, false, false, false, false, false, false, false] rfl rfl (any_of HT_.out (by kernel_rfl)) (fun _ _ _ h => h) (Or.inl ⟨by rfl, ?_⟩) ?_ ?_
                      rotate_left; focus (intro w'; go_simp; with_reducible rfl)
                      rotate_left; focus (simp only [Act.put, p1, p2, p3, i64_w, i32_w]; rfl)
                      refine pure_ (i := 1) (N := some 109) (v := ?_) (a' := ?_) #[true, true, false, false, false, false, false, false, false, false, false, false, false, false, false, false, false] rfl rfl (any_of HT_.out (by kernel_rfl)) (fun _ _ _ h => h) (Or.inl ⟨by rfl, ?_⟩) ?_ ?_
                      rotate_left; focus (intro w'; go_simp; with_reducible rfl)
                      rotate_left; focus (simp only [Act.put, p1, p2, p3, i64_w, i32_w]; rfl)
                      refine pure_ (i := 2) (N := some 110) (v := ?_) (a' := ?_) #[true, true, true, false, false, false, false, false, false, false, false, false, false, false, false, false, false] rfl rfl (any_of HT_.out (by kernel_rfl)) (fun _ _ _ h => h) (Or.inl ⟨by rfl, ?_⟩) ?_ ?_
                      rotate_left; focus (intro w'; go_simp; with_reducible rfl)
                      rotate_left; focus (simp only [Act.put, p1, p2, p3, i64_w, i32_w]; rfl)
                      refine take_ (i := 3) (N := some 111) (v := ?_) (a' := ?_) #[true, true, true, true, false, false, false, false, false, false, false, false, false, false, false, false, false] rfl rfl (take_ofW HT_.out HW_.out (by kernel_rfl)) (fun _ _ _ h => h) (Or.inl ⟨by rfl, ?_⟩) hHeld ?_ ?_
                      rotate_left; focus (intro w' s0; go_simp; with_reducible rfl)
                      rotate_left; focus (simp only [Act.put, p1, p2, p3, i64_w, i32_w]; rfl)
                      refine pure_ (i := 4) (N := some 112) (v := ?_) (a' := ?_) #[true, true, true, true, true, false, false, false, false, false, false, false, false, false, false, false, false] rfl rfl (any_of HT_.out (by kernel_rfl)) (fun _ _ _ h => h) (Or.inl ⟨by rfl, ?_⟩) ?_ ?_
                      rotate_left; focus (intro w'; go_simp; with_reducible rfl)
                      rotate_left; focus (simp only [Act.put, p1, p2, p3, i64_w, i32_w]; rfl)
                      refine pure_ (i := 5) (N := some 113) (v := undef) (a' := ?_) #[true, true, true, true, true, true, false, false, false, false, false, false, false, false, false, false, false] rfl rfl (any_of HT_.out (by kernel_rfl)) (fun _ _ _ h => h) (Or.inr ⟨by rfl, rfl⟩) ?_ ?_
                      rotate_left; focus (simp only [Act.put, p1, p2, p3, i64_w, i32_w]; rfl)
                      refine pure_ (i := 6) (N := some 114) (v := undef) (a' := ?_) #[true, true, true, true, true, true, true, false, false, false, false, false, false, false, false, false, false] rfl rfl (any_of HT_.out (by kernel_rfl)) (fun _ _ _ h => h) (Or.inr ⟨by rfl, rfl⟩) ?_ ?_
                      rotate_left; focus (simp only [Act.put, p1, p2, p3, i64_w, i32_w]; rfl)
                      refine pure_ (i := 7) (N := some 115) (v := undef) (a' := ?_) #[true, true, true, true, true, true, true, true, false, false, false, false, false, false, false, false, false] rfl rfl (any_of HT_.out (by kernel_rfl)) (fun _ _ _ h => h) (Or.inr ⟨by rfl, rfl⟩) ?_ ?_
                      rotate_left; focus (simp only [Act.put, p1, p2, p3, i64_w, i32_w]; rfl)
                      refine pure_ (i := 8) (N := some 116) (v := undef) (a' := ?_) #[true, true, true, true, true, true, true, true, true, false, false, false, false, false, false, false, false] rfl rfl (any_of HT_.out (by kernel_rfl)) (fun _ _ _ h => h) (Or.inr ⟨by rfl, rfl⟩) ?_ ?_
                      rotate_left; focus (simp only [Act.put, p1, p2, p3, i64_w, i32_w]; rfl)
                      refine pure_ (i := 9) (N := some 117) (v := undef) (a' := ?_) #[true, true, true, true, true, true, true, true, true, true, false, false, false, false, false, false, false] rfl rfl (any_of HT_.out (by kernel_rfl)) (fun _ _ _ h => h) (Or.inr ⟨by rfl, rfl⟩) ?_ ?_
                      rotate_left; focus (simp only [Act.put, p1, p2, p3, i64_w, i32_w]; rfl)
                      refine pure_ (i := 10) (N := some 118) (v := undef) (a' := ?_) #[true, true, true, true, true, true, true, true, true, true, true, false, false, false, false, false, false] rfl rfl (any_of HT_.out (by kernel_rfl)) (fun _ _ _ h => h) (Or.inr ⟨by rfl, rfl⟩) ?_ ?_
                      rotate_left; focus (simp only [Act.put, p1, p2, p3, i64_w, i32_w]; rfl)
                      refine pure_ (i := 11) (N := some 119) (v := undef) (a' := ?_) #[true, true, true, true, true, true, true, true, true, true, true, true, false, false, false, false, false] rfl rfl (any_of HT_.out (by kernel_rfl)) (fun _ _ _ h => h) (Or.inr ⟨by rfl, rfl⟩) ?_ ?_
                      rotate_left; focus (simp only [Act.put, p1, p2, p3, i64_w, i32_w]; rfl)
                      refine pure_ (i := 12) (N := some 120) (v := undef) (a' := ?_) #[true, true, true, true, true, true, true, true, true, true, true, true, true, false, false, false, false] rfl rfl (any_of HT_.out (by kernel_rfl)) (fun _ _ _ h => h) (Or.inr ⟨by rfl, rfl⟩) ?_ ?_
                      rotate_left; focus (simp only [Act.put, p1, p2, p3, i64_w, i32_w]; rfl)
                      refine pure_ (i := 13) (N := some 121) (v := undef) (a' := ?_) #[true, true, true, true, true, true, true, true, true, true, true, true, true, true, false, false, false] rfl rfl (any_of HT_.out (by kernel_rfl)) (fun _ _ _ h => h) (Or.inr ⟨by rfl, rfl⟩) ?_ ?_
                      rotate_left; focus (simp only [Act.put, p1, p2, p3, i64_w, i32_w]; rfl)
                      refine pure_ (i := 14) (N := some 122) (v := ?_) (a' := ?_) #[true, true, true, true, true, true, true, true, true, true, true, true, true, true, true, false, false] rfl rfl (any_of HT_.out (by kernel_rfl)) (fun _ _ _ h => h) (Or.inl ⟨by rfl, ?_⟩) ?_ ?_
                      rotate_left; focus (intro w'; go_simp; with_reducible rfl)
                      rotate_left; focus (simp only [Act.put, p1, p2, p3, i64_w, i32_w]; rfl)
                      refine pure_ (i := 15) (N := some 123) (v := ?_) (a' := ?_) #[true, true, true, true, true, true, true, true, true, true, true, true, true, true, true, true, false] rfl rfl (any_of HT_.out (by kernel_rfl)) (fun _ _ _ h => h) (Or.inl ⟨by rfl, ?_⟩) ?_ ?_
                      rotate_left; focus (intro w'; go_simp; with_reducible rfl)
                      rotate_left; focus (simp only [Act.put, p1, p2, p3, i64_w, i32_w]; rfl)
                      refine last_ (i := 16) (N := none) #[true, true, true, true, true, true, true, true, true, true, true, true, true, true, true, true, true] rfl rfl (one_of HT_.out (by kernel_rfl)) (by decide) (fun K hK => ?_)
                      refine skip_ (w1 := ?_) (by rfl) rfl ?_ ?_
                      rotate_left; focus (go_simp; rfl)
                      refine hK.out _ _ ?_
                      clear hK K
                      refine done_ (done_of HT_.out (by kernel_rfl)) ?_
                      try go_wp2
                      go_roundg kj53
                      case measure => have := HK1.out; have := HK2.out; have := HJ18.out; have := HJ25.out; have := HJ39.out; have := HJ53.out; omega
                      case rel => exact ⟨(y379), (wrap64 (x9_2 + 1)), (by first | rfl | (simp; done) | (simp [*]; done)), H', ⟨by have := HK1.out; have := HK2.out; have := HJ18.out; have := HJ25.out; have := HJ39.out; have := HJ53.out; omega⟩, ⟨by (with_reducible repeat (first | apply qk | apply ql | apply qm)); exact Kd.R_mono (Kd.R_far (p := ⟨go71, 3, none⟩) (Kd.R_types HO_3.out GG71.out (by decide)) (fun _ hk => hk.2) (.bool true)) (fun _ hk => trivial)⟩, ⟨by (with_reducible repeat (first | apply qk | apply ql | apply qm)); exact HQ74.out⟩, ⟨by (with_reducible repeat (first | refine q5 ?_ _ | refine q6 ?_ | refine q7 ?_ _)); refine qe ?_ (by have h_ := Kd.R_ne HO_8.out BK330.out (by decide); intro e_; exact h_ (by rw [e_]; rfl)) _; (with_reducible repeat (first | refine q5 ?_ _ | refine q6 ?_ | refine q7 ?_ _)); exact BK330.out⟩, ⟨by repeat (first | (with_reducible first | exact HB.out | apply q1 | apply q2 | apply q3 | refine q4 ?_ GB71.out | refine q4 ?_ GE330.out) | exact HB.out)⟩⟩
                     ·replace c70 := Bool.eq_false_iff.mpr c70
                      subst c70
                      have H1 : (if 0 ≤ x9_2 then (if x9_2 < (t322.length : Int) then (laws_FnBoxes.l1 kj53 l0 t322 t329 (x8_53.set (3 : Int).toNat (((rd_T25 t322 x9_2).f1) == t328)) (wrap64 (x9_2 + 1)) t325 t326 t327 t328) else (none)) else (none)) = some r := by rw [if_neg (show ¬ (false = true) by decide)] at H; exact H
                      clear H
                      have H := H1
                      clear H1
                      by_cases c75 : 0 ≤ x9_2
                      ·rw [if_pos c75] at H
                       have c75b0 : decide (0 ≤ x9_2) = true := decide_eq_true c75
                       clear c75
                       by_cases c76 : x9_2 < (t322.length : Int)
                       ·rw [if_pos c76] at H
                        have c76b0 : decide (x9_2 < (t322.length : Int)) = true := decide_eq_true c76
                        clear c76
                        obtain ⟨y381, hy381⟩ : ∃ y_ : List Bool, y_ = (x8_53.set (3 : Int).toNat (((rd_T25 t322 x9_2).f1) == t328)) := ⟨_, rfl⟩
                        replace H : (laws_FnBoxes.l1 kj53 l0 t322 t329 y381 (wrap64 (x9_2 + 1)) t325 t326 t327 t328) = some r := by first | (rw [hy381]; with_reducible exact H) | (have H2_ := (Option.bind_some _ _).symm.trans H; rw [hy381]; with_reducible exact H2_) | (have H2_ := (Option.bind_some _ _).symm.trans H; with_reducible exact H2_) | with_reducible exact H | (rw [hy381]; exact H) | exact H
                        have Ny381 := qg hy381
                        clear hy381
                        have H' := qg H
                        clear H
                        try go_wp2
                        have n0_ := qg (qm HO_3.out)
                        have n1_ := qg (qm HO_8.out)
                        have n2_ := qg (q6 BK330.out)
                        have n3_ := qg (q3 HB.out)
                        clear HO_3; clear HO_8; clear BK330; clear HB
                        have HO_3 := n0_
                        have HO_8 := n1_
                        have BK330 := n2_
                        have HB := n3_
                        clear n0_ n1_ n2_ n3_
                        obtain ⟨Ao79, co79, eo79⟩ := Kd.R_slice HO_8.out
                        (first | subst eo79 | (injection eo79 with f1_ f2_ f3_; have f4_ := f1_.symm; have f5_ := f3_.symm; clear f1_ f2_ f3_; subst f4_; subst f5_))
                        have p378 : 0 ≤ (3 : Int) := (by omega)
                        have q378 : 3 < (x8_53.length : Int) := of_decide_eq_true (by first | (with_reducible assumption) | assumption)
                        obtain ⟨ad378, e378, hx378_0⟩ := Kd.at_bool (Kd.R_reads' HO_8.out).2.2 3 p378 q378
                        (try rw [← Nbq69.out] at hx378_0)
                        cases e378
                        (try simp only [show (3 : Int).toNat = 3 from rfl, Nat.reduceMul, Nat.reduceEqDiff, Go.Addr.add, ↓reduceIte] at hx378_0)
                        have qi378 : (3 < x8_53.length) = True := eq_true (by omega)
                        (try rw [show ((3 : Int)).toNat = 3 from rfl] at hx378_0)
                        replace p378 := eq_true p378
                        replace q378 := eq_true q378
                        have p380 : 0 ≤ (x9_2 : Int) := of_decide_eq_true (by first | (with_reducible assumption) | assumption)
                        have q380 : x9_2 < (t322.length : Int) := of_decide_eq_true (by first | (with_reducible assumption) | assumption)
                        obtain ⟨ad380, e380, hx380_0, hx380_1⟩ := at_T25 (Kd.R_reads' HO_3.out).2.2 x9_2 p380 q380
                        obtain rfl : ad364 = ad380 := (by injection e380)
                        replace p380 := eq_true p380
                        replace q380 := eq_true q380
                        have p77 : 0 ≤ (3 : Int) := (by omega)
                        have q77 : (3 : Int) < ((x8_53.length : Int) : Int) := of_decide_eq_true (by first | (with_reducible assumption) | assumption)
                        have qi77 : (3 < x8_53.length) = True := eq_true (by omega)
                        obtain ⟨go77, co77, eo77, gb77, gl77, cl77, HG77⟩ := Kd.R_form HO_8.out (by omega)
                        (first | cases eo77 | (injection eo77 with ea_ en_ ec_; (first | subst ea_ | (injection ea_ with ea_; subst ea_)); subst ec_; clear en_))
                        have GB77 := qg gb77
                        have GG77 := qg HG77
                        clear gb77 gl77 HG77
                        (first | simp only [add_plain] at hx378_0 | skip)
                        obtain ⟨hx77_0, hf77_0⟩ := Kd.R_celln false HO_8.out (3 : Int) p77 q77
                        (try rw [show ((3 : Int)).toNat = 3 from rfl] at hx77_0)
                        (try simp only [Nat.reduceMul, Nat.zero_mul, Nat.zero_add, Nat.reduceAdd] at hx77_0)
                        (try rw [show ((3 : Int)).toNat = 3 from rfl] at hf77_0)
                        (try simp only [Nat.reduceMul, Nat.zero_mul, Nat.zero_add, Nat.reduceAdd] at hf77_0)
                        replace p77 := eq_true p77
                        replace q77 := eq_true q77
                        have HP80 := Kd.R_putn HO_8.out (3 : Int) (((rd_T25 t322 x9_2).f1) == t328)
                        rw [← Ny381.out] at HP80
                        have HQ80 := qg HP80
                        clear HP80
                        refine start_ (n := 17) (S := fun w' => w'.cell? ⟨gb330, 0, none⟩ = some (.int .i64 t325) ∧ w'.cell? ⟨gb330, 1, none⟩ = some (.int .i64 t326) ∧ w'.cell? ⟨gb330, 2, none⟩ = some (.int .i64 t327) ∧ w'.cell? ⟨gb330, 3, none⟩ = some (.int .i64 t328) ∧ w'.cell? ⟨go77, 3, none⟩ = some (.bool false) ∧ w'.cell? (ad364.add ((x9_2).toNat * 2)) = some (.int .i64 ((rd_T25 t322 x9_2).f0)) ∧ w'.cell? ⟨(ad364.add ((x9_2).toNat * 2)).block, (ad364.add ((x9_2).toNat * 2)).off + 1, none⟩ = some (.int .i64 ((rd_T25 t322 x9_2).f1))) (ds := [16]) #[false, false, false, false, false, false, false, false, false, false, false, false, false, false, false, false, false] (by kernel_rfl) rfl rfl ⟨(qc BK330.out 0).trans rfl, (qc BK330.out 1).trans rfl, (qc BK330.out 2).trans rfl, (qc BK330.out 3).trans rfl, hx378_0, hx380_0, hx380_1⟩ (fun hHeld => ?_); refine with_tabW laws_FnBoxes.tab21 laws_FnBoxes.bits21 (fun HT_ HW_ => ?_)
                        generalize wc.drew = w78 at HO_3 HO_8 BK330 HB GG77 HQ80 hf77_0 hx378_0 hx380_0 hx380_1 hx77_0 hHeld ⊢
                        refine pure_ (i := 0) (N := some 108) (v := ?_) (a' := ?_) #[true, false, false, false, false, false, false, false, false, false, false, false, false, false, false, false, false] rfl rfl (any_of HT_.out (by kernel_rfl)) (fun _ _ _ h => h) (Or.inl ⟨by rfl, ?_⟩) ?_ ?_
                        rotate_left; focus (intro w'; go_simp; with_reducible rfl)
                        rotate_left; focus (simp only [Act.put, p1, p2, p3, i64_w, i32_w]; rfl)
                        refine pure_ (i := 1) (N := some 109) (v := ?_) (a' := ?_) #[true, true, false, false, false, false, false, false, false, false, false, false, false, false, false, false, false] rfl rfl (any_of HT_.out (by kernel_rfl)) (fun _ _ _ h => h) (Or.inl ⟨by rfl, ?_⟩) ?_ ?_
                        rotate_left; focus (intro w'; go_simp; with_reducible rfl)
                        rotate_left; focus (simp only [Act.put, p1, p2, p3, i64_w, i32_w]; rfl)
                        refine pure_ (i := 2) (N := some 110) (v := ?_) (a' := ?_) #[true, true, true, false, false, false, false, false, false, false, false, false, false, false, false, false, false] rfl rfl (any_of HT_.out (by kernel_rfl)) (fun _ _ _ h => h) (Or.inl ⟨by rfl, ?_⟩) ?_ ?_
                        rotate_left; focus (intro w'; go_simp; with_reducible rfl)
                        rotate_left; focus (simp only [Act.put, p1, p2, p3, i64_w, i32_w]; rfl)
                        refine take_ (i := 3) (N := some 111) (v := ?_) (a' := ?_) #[true, true, true, true, false, false, false, false, false, false, false, false, false, false, false, false, false] rfl rfl (take_ofW HT_.out HW_.out (by kernel_rfl)) (fun _ _ _ h => h) (Or.inl ⟨by rfl, ?_⟩) hHeld ?_ ?_
                        rotate_left; focus (rintro w' ⟨s0, s1, s2, s3, s4, s5, s6⟩; go_simp; with_reducible rfl)
                        rotate_left; focus (simp only [Act.put, p1, p2, p3, i64_w, i32_w]; rfl)
                        refine pure_ (i := 4) (N := some 112) (v := ?_) (a' := ?_) #[true, true, true, true, true, false, false, false, false, false, false, false, false, false, false, false, false] rfl rfl (any_of HT_.out (by kernel_rfl)) (fun _ _ _ h => h) (Or.inl ⟨by rfl, ?_⟩) ?_ ?_
                        rotate_left; focus (intro w'; go_simp; with_reducible rfl)
                        rotate_left; focus (simp only [Act.put, p1, p2, p3, i64_w, i32_w]; rfl)
                        refine pure_ (i := 5) (N := some 113) (v := ?_) (a' := ?_) #[true, true, true, true, true, true, false, false, false, false, false, false, false, false, false, false, false] rfl rfl (any_of HT_.out (by kernel_rfl)) (fun _ _ _ h => h) (Or.inl ⟨by rfl, ?_⟩) ?_ ?_
                        rotate_left; focus (intro w'; go_simp; with_reducible rfl)
                        rotate_left; focus (simp only [Act.put, p1, p2, p3, i64_w, i32_w]; rfl)
                        refine pure_ (i := 6) (N := some 114) (v := ?_) (a' := ?_) #[true, true, true, true, true, true, true, false, false, false, false, false, false, false, false, false, false] rfl rfl (any_of HT_.out (by kernel_rfl)) (fun _ _ _ h => h) (Or.inl ⟨by rfl, ?_⟩) ?_ ?_
                        rotate_left; focus (intro w'; go_simp; with_reducible rfl)
                        rotate_left; focus (simp only [Act.put, p1, p2, p3, i64_w, i32_w]; rfl)
                        refine pure_ (i := 7) (N := some 115) (v := ?_) (a' := ?_) #[true, true, true, true, true, true, true, true, false, false, false, false, false, false, false, false, false] rfl rfl (any_of HT_.out (by kernel_rfl)) (fun _ _ _ h => h) (Or.inl ⟨by rfl, ?_⟩) ?_ ?_
                        rotate_left; focus (intro w'; go_simp; with_reducible rfl)
                        rotate_left; focus (simp only [Act.put, p1, p2, p3, i64_w, i32_w]; rfl)
                        refine pure_ (i := 8) (N := some 116) (v := ?_) (a' := ?_) #[true, true, true, true, true, true, true, true, true, false, false, false, false, false, false, false, false] rfl rfl (any_of HT_.out (by kernel_rfl)) (fun _ _ _ h => h) (Or.inl ⟨by rfl, ?_⟩) ?_ ?_
                        rotate_left; focus (intro w'; go_simp; with_reducible rfl)
                        rotate_left; focus (simp only [Act.put, p1, p2, p3, i64_w, i32_w]; rfl)
                        refine pure_ (i := 10) (N := some 118) (v := ?_) (a' := ?_) #[true, true, true, true, true, true, true, true, true, false, true, false, false, false, false, false, false] rfl rfl (any_of HT_.out (by kernel_rfl)) (fun _ _ _ h => h) (Or.inl ⟨by rfl, ?_⟩) ?_ ?_
                        rotate_left; focus (intro w'; go_simp; with_reducible rfl)
                        rotate_left; focus (simp only [Act.put, p1, p2, p3, i64_w, i32_w]; rfl)
                        refine pure_ (i := 11) (N := some 119) (v := ?_) (a' := ?_) #[true, true, true, true, true, true, true, true, true, false, true, true, false, false, false, false, false] rfl rfl (any_of HT_.out (by kernel_rfl)) (fun _ _ _ h => h) (Or.inl ⟨by rfl, ?_⟩) ?_ ?_
                        rotate_left; focus (intro w'; go_simp; with_reducible rfl)
                        rotate_left; focus (simp only [Act.put, p1, p2, p3, i64_w, i32_w]; rfl)
                        refine take_ (i := 9) (N := some 117) (v := ?_) (a' := ?_) #[true, true, true, true, true, true, true, true, true, true, true, true, false, false, false, false, false] rfl rfl (take_ofW HT_.out HW_.out (by kernel_rfl)) (fun _ _ _ h => h) (Or.inl ⟨by rfl, ?_⟩) hHeld ?_ ?_
                        rotate_left; focus (rintro w' ⟨s0, s1, s2, s3, s4, s5, s6⟩; go_simp; with_reducible rfl)
                        rotate_left; focus (simp only [Act.put, p1, p2, p3, i64_w, i32_w]; rfl)
                        refine take_ (i := 12) (N := some 120) (v := ?_) (a' := ?_) #[true, true, true, true, true, true, true, true, true, true, true, true, true, false, false, false, false] rfl rfl (take_ofW HT_.out HW_.out (by kernel_rfl)) (fun _ _ _ h => h) (Or.inl ⟨by rfl, ?_⟩) hHeld ?_ ?_
                        rotate_left; focus (rintro w' ⟨s0, s1, s2, s3, s4, s5, s6⟩; go_simp; with_reducible rfl)
                        rotate_left; focus (simp only [Act.put, p1, p2, p3, i64_w, i32_w]; rfl)
                        refine pure_ (i := 13) (N := some 121) (v := ?_) (a' := ?_) #[true, true, true, true, true, true, true, true, true, true, true, true, true, true, false, false, false] rfl rfl (any_of HT_.out (by kernel_rfl)) (fun _ _ _ h => h) (Or.inl ⟨by rfl, ?_⟩) ?_ ?_
                        rotate_left; focus (intro w'; go_simp; with_reducible rfl)
                        rotate_left; focus (simp only [Act.put, p1, p2, p3, i64_w, i32_w]; rfl)
                        refine pure_ (i := 14) (N := some 122) (v := ?_) (a' := ?_) #[true, true, true, true, true, true, true, true, true, true, true, true, true, true, true, false, false] rfl rfl (any_of HT_.out (by kernel_rfl)) (fun _ _ _ h => h) (Or.inl ⟨by rfl, ?_⟩) ?_ ?_
                        rotate_left; focus (intro w'; go_simp; with_reducible rfl)
                        rotate_left; focus (simp only [Act.put, p1, p2, p3, i64_w, i32_w]; rfl)
                        refine pure_ (i := 15) (N := some 123) (v := ?_) (a' := ?_) #[true, true, true, true, true, true, true, true, true, true, true, true, true, true, true, true, false] rfl rfl (any_of HT_.out (by kernel_rfl)) (fun _ _ _ h => h) (Or.inl ⟨by rfl, ?_⟩) ?_ ?_
                        rotate_left; focus (intro w'; go_simp; with_reducible rfl)
                        rotate_left; focus (simp only [Act.put, p1, p2, p3, i64_w, i32_w]; rfl)
                        refine last_ (i := 16) (N := none) #[true, true, true, true, true, true, true, true, true, true, true, true, true, true, true, true, true] rfl rfl (one_of HT_.out (by kernel_rfl)) (by decide) (fun K hK => ?_)
                        refine skip_ (w1 := ?_) (by rfl) rfl ?_ ?_
                        rotate_left; focus (go_simp; rfl)
                        refine hK.out _ _ ?_
                        clear hK K
                        refine done_ (done_of HT_.out (by kernel_rfl)) ?_
                        try go_wp2
                        go_roundg kj53
                        case measure => have := HK1.out; have := HK2.out; have := HJ18.out; have := HJ25.out; have := HJ39.out; have := HJ53.out; omega
                        case rel => exact ⟨(y381), (wrap64 (x9_2 + 1)), (by first | rfl | (simp; done) | (simp [*]; done)), H', ⟨by have := HK1.out; have := HK2.out; have := HJ18.out; have := HJ25.out; have := HJ39.out; have := HJ53.out; omega⟩, ⟨by (with_reducible repeat (first | apply qk | apply ql | apply qm)); exact Kd.R_mono (Kd.R_far (p := ⟨go77, 3, none⟩) (Kd.R_types HO_3.out GG77.out (by decide)) (fun _ hk => hk.2) (.bool (((rd_T25 t322 x9_2).f1) == t328))) (fun _ hk => trivial)⟩, ⟨by (with_reducible repeat (first | apply qk | apply ql | apply qm)); exact HQ80.out⟩, ⟨by (with_reducible repeat (first | refine q5 ?_ _ | refine q6 ?_ | refine q7 ?_ _)); refine qe ?_ (by have h_ := Kd.R_ne HO_8.out BK330.out (by decide); intro e_; exact h_ (by rw [e_]; rfl)) _; (with_reducible repeat (first | refine q5 ?_ _ | refine q6 ?_ | refine q7 ?_ _)); exact BK330.out⟩, ⟨by repeat (first | (with_reducible first | exact HB.out | apply q1 | apply q2 | apply q3 | refine q4 ?_ GB77.out | refine q4 ?_ GE330.out) | exact HB.out)⟩⟩
                       ·rw [if_neg c76] at H
                        exact absurd H (by simp)
                      ·rw [if_neg c75] at H
                       exact absurd H (by simp)
                    ·rw [if_neg c68] at H
                     exact absurd H (by simp)
             ·replace c25 := Bool.eq_false_iff.mpr c25
              subst c25
              have H1 : (some false) = some r := by rw [if_neg (show ¬ (false = true) by decide)] at H; exact H
              clear H
              have H := H1
              clear H1
              obtain rfl := Option.some.inj H
              exact absurd HR.out (by decide)
            ·rw [if_neg c23] at H
             exact absurd H (by simp)
           ·rw [if_neg c22] at H
            exact absurd H (by simp)
          ·replace c21 := Bool.eq_false_iff.mpr c21
           subst c21
           have H1 : (if t329 = true then (if 0 < (x8_2.length : Int) then (if rdOf false x8_2 0 = true then (if 1 < (x8_2.length : Int) then (if rdOf false x8_2 1 = true then (if 2 < (x8_2.length : Int) then (if rdOf false x8_2 2 = true then (if 3 < (x8_2.length : Int) then (laws_FnBoxes.j3 kj18 l0 (!(rdOf false x8_2 3))) else (none)) else (laws_FnBoxes.j3 kj18 l0 (!false))) else (none)) else (laws_FnBoxes.j3 kj18 l0 (!false))) else (none)) else (laws_FnBoxes.j3 kj18 l0 (!false))) else (none)) else (laws_FnBoxes.j3 kj18 l0 false)) = some r := by rw [if_neg (show ¬ (false = true) by decide)] at H; exact H
           clear H
           have H := H1
           clear H1
           have HC83 := qg H
           clear H
           go_upto_region 22 with (fail)
           go_cut [145] (fun v145 wc => ∃ (kq : Nat) (x145_82 : Bool), v145 = .bool x145_82 ∧ Aside0 (laws_FnBoxes.j3 kq l0 x145_82 = some r) ∧ Aside0 (kq ≤ kj18) ∧ Aside0 (wc.heap[gb330]? = some (.cells #[.int .i64 t325, .int .i64 t326, .int .i64 t327, .int .i64 t328] 67 (0, 0))) ∧ Aside0 (Below w.heap.size w wc))
           case first => as_aux_lemma =>
            have H := HC83.out
            clear HC83
            by_cases c84 : t329 = true
            ·subst c84
             have H1 : (if 0 < (x8_2.length : Int) then (if rdOf false x8_2 0 = true then (if 1 < (x8_2.length : Int) then (if rdOf false x8_2 1 = true then (if 2 < (x8_2.length : Int) then (if rdOf false x8_2 2 = true then (if 3 < (x8_2.length : Int) then (laws_FnBoxes.j3 kj18 l0 (!(rdOf false x8_2 3))) else (none)) else (laws_FnBoxes.j3 kj18 l0 (!false))) else (none)) else (laws_FnBoxes.j3 kj18 l0 (!false))) else (none)) else (laws_FnBoxes.j3 kj18 l0 (!false))) else (none)) = some r := by rw [if_pos rfl] at H; exact H
             clear H
             have H := H1
             clear H1
             by_cases c85 : 0 < (x8_2.length : Int)
             ·rw [if_pos c85] at H
              have c85b0 : decide (0 < (x8_2.length : Int)) = true := decide_eq_true c85
              have c85b1 : decide (0 < x8_2.length) = true := decide_eq_true (by omega)
              clear c85
              (first | rw [c85b0] | (simp only [i64_w, i32_w]; rw [c85b0]) | skip)
              obtain ⟨bq86, hbq86⟩ : ∃ b_ : Bool, b_ = (rdOf false x8_2 0) := ⟨_, rfl⟩
              replace H : (if bq86 = true then (if 1 < (x8_2.length : Int) then (if rdOf false x8_2 1 = true then (if 2 < (x8_2.length : Int) then (if rdOf false x8_2 2 = true then (if 3 < (x8_2.length : Int) then (laws_FnBoxes.j3 kj18 l0 (!(rdOf false x8_2 3))) else (none)) else (laws_FnBoxes.j3 kj18 l0 (!false))) else (none)) else (laws_FnBoxes.j3 kj18 l0 (!false))) else (none)) else (laws_FnBoxes.j3 kj18 l0 (!false))) = some r := by rw [← hbq86] at H; exact H
              have Nbq86 := qg hbq86
              clear hbq86
              by_cases c87 : bq86 = true
              ·subst c87
               have H1 : (if 1 < (x8_2.length : Int) then (if rdOf false x8_2 1 = true then (if 2 < (x8_2.length : Int) then (if rdOf false x8_2 2 = true then (if 3 < (x8_2.length : Int) then (laws_FnBoxes.j3 kj18 l0 (!(rdOf false x8_2 3))) else (none)) else (laws_FnBoxes.j3 kj18 l0 (!false))) else (none)) else (laws_FnBoxes.j3 kj18 l0 (!false))) else (none)) = some r := by rw [if_pos rfl] at H; exact H
               clear H
               have H := H1
               clear H1
               by_cases c88 : 1 < (x8_2.length : Int)
               ·rw [if_pos c88] at H
                have c88b0 : decide (1 < (x8_2.length : Int)) = true := decide_eq_true c88
                have c88b1 : decide (1 < x8_2.length) = true := decide_eq_true (by omega)
                clear c88
                obtain ⟨bq89, hbq89⟩ : ∃ b_ : Bool, b_ = (rdOf false x8_2 1) := ⟨_, rfl⟩
                replace H : (if bq89 = true then (if 2 < (x8_2.length : Int) then (if rdOf false x8_2 2 = true then (if 3 < (x8_2.length : Int) then (laws_FnBoxes.j3 kj18 l0 (!(rdOf false x8_2 3))) else (none)) else (laws_FnBoxes.j3 kj18 l0 (!false))) else (none)) else (laws_FnBoxes.j3 kj18 l0 (!false))) = some r := by rw [← hbq89] at H; exact H
                have Nbq89 := qg hbq89
                clear hbq89
                by_cases c90 : bq89 = true
                ·subst c90
                 have H1 : (if 2 < (x8_2.length : Int) then (if rdOf false x8_2 2 = true then (if 3 < (x8_2.length : Int) then (laws_FnBoxes.j3 kj18 l0 (!(rdOf false x8_2 3))) else (none)) else (laws_FnBoxes.j3 kj18 l0 (!false))) else (none)) = some r := by rw [if_pos rfl] at H; exact H
                 clear H
                 have H := H1
                 clear H1
                 by_cases c91 : 2 < (x8_2.length : Int)
                 ·rw [if_pos c91] at H
                  have c91b0 : decide (2 < (x8_2.length : Int)) = true := decide_eq_true c91
                  have c91b1 : decide (2 < x8_2.length) = true := decide_eq_true (by omega)
                  clear c91
                  obtain ⟨bq92, hbq92⟩ : ∃ b_ : Bool, b_ = (rdOf false x8_2 2) := ⟨_, rfl⟩
                  replace H : (if bq92 = true then (if 3 < (x8_2.length : Int) then (laws_FnBoxes.j3 kj18 l0 (!(rdOf false x8_2 3))) else (none)) else (laws_FnBoxes.j3 kj18 l0 (!false))) = some r := by rw [← hbq92] at H; exact H
                  have Nbq92 := qg hbq92
                  clear hbq92
                  by_cases c93 : bq92 = true
                  ·subst c93
                   have H1 : (if 3 < (x8_2.length : Int) then (laws_FnBoxes.j3 kj18 l0 (!(rdOf false x8_2 3))) else (none)) = some r := by rw [if_pos rfl] at H; exact H
                   clear H
                   have H := H1
                   clear H1
                   by_cases c94 : 3 < (x8_2.length : Int)
                   ·rw [if_pos c94] at H
                    have c94b0 : decide (3 < (x8_2.length : Int)) = true := decide_eq_true c94
                    have c94b1 : decide (3 < x8_2.length) = true := decide_eq_true (by omega)
                    clear c94
                    have H' := qg H
                    clear H
                    obtain ⟨Ao95, co95, eo95⟩ := Kd.R_slice HO_8.out
                    subst eo95
                    have p334 : 0 ≤ (0 : Int) := (by omega)
                    have q334 : 0 < (x8_2.length : Int) := of_decide_eq_true (by first | (with_reducible assumption) | assumption)
                    obtain ⟨ad334, e334, hx334_0⟩ := Kd.at_bool (Kd.R_reads' HO_8.out).2.2 0 p334 q334
                    (try rw [← Nbq86.out] at hx334_0)
                    (try rw [← Nbq89.out] at hx334_0)
                    (try rw [← Nbq92.out] at hx334_0)
                    cases e334
                    have qi334 : (0 < x8_2.length) = True := eq_true (by omega)
                    (try rw [show ((0 : Int)).toNat = 0 from rfl] at hx334_0)
                    (try rw [Addr.add_zero'] at hx334_0)
                    replace p334 := eq_true p334
                    replace q334 := eq_true q334
                    have p335 : 0 ≤ (1 : Int) := (by omega)
                    have q335 : 1 < (x8_2.length : Int) := of_decide_eq_true (by first | (with_reducible assumption) | assumption)
                    obtain ⟨ad335, e335, hx335_0⟩ := Kd.at_bool (Kd.R_reads' HO_8.out).2.2 1 p335 q335
                    (try rw [← Nbq86.out] at hx335_0)
                    (try rw [← Nbq89.out] at hx335_0)
                    (try rw [← Nbq92.out] at hx335_0)
                    obtain rfl : ad334 = ad335 := (by injection e335)
                    (try simp only [show (1 : Int).toNat = 1 from rfl, Nat.reduceMul, Nat.reduceEqDiff, Go.Addr.add, ↓reduceIte] at hx335_0)
                    have qi335 : (1 < x8_2.length) = True := eq_true (by omega)
                    (try rw [show ((1 : Int)).toNat = 1 from rfl] at hx335_0)
                    replace p335 := eq_true p335
                    replace q335 := eq_true q335
                    have p336 : 0 ≤ (2 : Int) := (by omega)
                    have q336 : 2 < (x8_2.length : Int) := of_decide_eq_true (by first | (with_reducible assumption) | assumption)
                    obtain ⟨ad336, e336, hx336_0⟩ := Kd.at_bool (Kd.R_reads' HO_8.out).2.2 2 p336 q336
                    (try rw [← Nbq86.out] at hx336_0)
                    (try rw [← Nbq89.out] at hx336_0)
                    (try rw [← Nbq92.out] at hx336_0)
                    obtain rfl : ad334 = ad336 := (by injection e336)
                    (try simp only [show (2 : Int).toNat = 2 from rfl, Nat.reduceMul, Nat.reduceEqDiff, Go.Addr.add, ↓reduceIte] at hx336_0)
                    have qi336 : (2 < x8_2.length) = True := eq_true (by omega)
                    (try rw [show ((2 : Int)).toNat = 2 from rfl] at hx336_0)
                    replace p336 := eq_true p336
                    replace q336 := eq_true q336
                    have p337 : 0 ≤ (3 : Int) := (by omega)
                    have q337 : 3 < (x8_2.length : Int) := of_decide_eq_true (by first | (with_reducible assumption) | assumption)
                    obtain ⟨ad337, e337, hx337_0⟩ := Kd.at_bool (Kd.R_reads' HO_8.out).2.2 3 p337 q337
                    (try rw [← Nbq86.out] at hx337_0)
                    (try rw [← Nbq89.out] at hx337_0)
                    (try rw [← Nbq92.out] at hx337_0)
                    obtain rfl : ad334 = ad337 := (by injection e337)
                    (try simp only [show (3 : Int).toNat = 3 from rfl, Nat.reduceMul, Nat.reduceEqDiff, Go.Addr.add, ↓reduceIte] at hx337_0)
                    have qi337 : (3 < x8_2.length) = True := eq_true (by omega)
                    (try rw [show ((3 : Int)).toNat = 3 from rfl] at hx337_0)
                    replace p337 := eq_true p337
                    replace q337 := eq_true q337
                    go_wp2
                    go_meet
                    case rel => exact ⟨_, (!(rdOf false x8_2 3)), (by first | rfl | (simp; done) | (simp [*]; done)), H', ⟨by have := HK1.out; have := HK2.out; have := HJ18.out; first | omega | exact Nat.le_refl _⟩, ⟨by (with_reducible repeat (first | refine q5 ?_ _ | refine q6 ?_ | refine q7 ?_ _)); exact BK330.out⟩, ⟨by repeat (first | (with_reducible first | exact HB.out | apply q1 | apply q2 | apply q3 | refine q4 ?_ GE330.out) | exact HB.out)⟩⟩
                   ·rw [if_neg c94] at H
                    exact absurd H (by simp)
                  ·replace c93 := Bool.eq_false_iff.mpr c93
                   subst c93
                   have H1 : (laws_FnBoxes.j3 kj18 l0 (!false)) = some r := by rw [if_neg (show ¬ (false = true) by decide)] at H; exact H
                   clear H
                   have H := H1
                   clear H1
                   have H' := qg H
                   clear H
                   obtain ⟨Ao96, co96, eo96⟩ := Kd.R_slice HO_8.out
                   subst eo96
                   have p334 : 0 ≤ (0 : Int) := (by omega)
                   have q334 : 0 < (x8_2.length : Int) := of_decide_eq_true (by first | (with_reducible assumption) | assumption)
                   obtain ⟨ad334, e334, hx334_0⟩ := Kd.at_bool (Kd.R_reads' HO_8.out).2.2 0 p334 q334
                   (try rw [← Nbq86.out] at hx334_0)
                   (try rw [← Nbq89.out] at hx334_0)
                   (try rw [← Nbq92.out] at hx334_0)
                   cases e334
                   have qi334 : (0 < x8_2.length) = True := eq_true (by omega)
                   (try rw [show ((0 : Int)).toNat = 0 from rfl] at hx334_0)
                   (try rw [Addr.add_zero'] at hx334_0)
                   replace p334 := eq_true p334
                   replace q334 := eq_true q334
                   have p335 : 0 ≤ (1 : Int) := (by omega)
                   have q335 : 1 < (x8_2.length : Int) := of_decide_eq_true (by first | (with_reducible assumption) | assumption)
                   obtain ⟨ad335, e335, hx335_0⟩ := Kd.at_bool (Kd.R_reads' HO_8.out).2.2 1 p335 q335
                   (try rw [← Nbq86.out] at hx335_0)
                   (try rw [← Nbq89.out] at hx335_0)
                   (try rw [← Nbq92.out] at hx335_0)
                   obtain rfl : ad334 = ad335 := (by injection e335)
                   (try simp only [show (1 : Int).toNat = 1 from rfl, Nat.reduceMul, Nat.reduceEqDiff, Go.Addr.add, ↓reduceIte] at hx335_0)
                   have qi335 : (1 < x8_2.length) = True := eq_true (by omega)
                   (try rw [show ((1 : Int)).toNat = 1 from rfl] at hx335_0)
                   replace p335 := eq_true p335
                   replace q335 := eq_true q335
                   have p336 : 0 ≤ (2 : Int) := (by omega)
                   have q336 : 2 < (x8_2.length : Int) := of_decide_eq_true (by first | (with_reducible assumption) | assumption)
                   obtain ⟨ad336, e336, hx336_0⟩ := Kd.at_bool (Kd.R_reads' HO_8.out).2.2 2 p336 q336
                   (try rw [← Nbq86.out] at hx336_0)
                   (try rw [← Nbq89.out] at hx336_0)
                   (try rw [← Nbq92.out] at hx336_0)
                   obtain rfl : ad334 = ad336 := (by injection e336)
                   (try simp only [show (2 : Int).toNat = 2 from rfl, Nat.reduceMul, Nat.reduceEqDiff, Go.Addr.add, ↓reduceIte] at hx336_0)
                   have qi336 : (2 < x8_2.length) = True := eq_true (by omega)
                   (try rw [show ((2 : Int)).toNat = 2 from rfl] at hx336_0)
                   replace p336 := eq_true p336
                   replace q336 := eq_true q336
                   go_wp2
                   go_meet
                   case rel => exact ⟨_, (!false), (by first | rfl | (simp; done) | (simp [*]; done)), H', ⟨by have := HK1.out; have := HK2.out; have := HJ18.out; first | omega | exact Nat.le_refl _⟩, ⟨by (with_reducible repeat (first | refine q5 ?_ _ | refine q6 ?_ | refine q7 ?_ _)); exact BK330.out⟩, ⟨by repeat (first | (with_reducible first | exact HB.out | apply q1 | apply q2 | apply q3 | refine q4 ?_ GE330.out) | exact HB.out)⟩⟩
                 ·rw [if_neg c91] at H
                  exact absurd H (by simp)
                ·replace c90 := Bool.eq_false_iff.mpr c90
                 subst c90
                 have H1 : (laws_FnBoxes.j3 kj18 l0 (!false)) = some r := by rw [if_neg (show ¬ (false = true) by decide)] at H; exact H
                 clear H
                 have H := H1
                 clear H1
                 have H' := qg H
                 clear H
                 obtain ⟨Ao97, co97, eo97⟩ := Kd.R_slice HO_8.out
                 subst eo97
                 have p334 : 0 ≤ (0 : Int) := (by omega)
                 have q334 : 0 < (x8_2.length : Int) := of_decide_eq_true (by first | (with_reducible assumption) | assumption)
                 obtain ⟨ad334, e334, hx334_0⟩ := Kd.at_bool (Kd.R_reads' HO_8.out).2.2 0 p334 q334
                 (try rw [← Nbq86.out] at hx334_0)
                 (try rw [← Nbq89.out] at hx334_0)
                 cases e334
                 have qi334 : (0 < x8_2.length) = True := eq_true (by omega)
                 (try rw [show ((0 : Int)).toNat = 0 from rfl] at hx334_0)
                 (try rw [Addr.add_zero'] at hx334_0)
                 replace p334 := eq_true p334
                 replace q334 := eq_true q334
                 have p335 : 0 ≤ (1 : Int) := (by omega)
                 have q335 : 1 < (x8_2.length : Int) := of_decide_eq_true (by first | (with_reducible assumption) | assumption)
                 obtain ⟨ad335, e335, hx335_0⟩ := Kd.at_bool (Kd.R_reads' HO_8.out).2.2 1 p335 q335
                 (try rw [← Nbq86.out] at hx335_0)
                 (try rw [← Nbq89.out] at hx335_0)
                 obtain rfl : ad334 = ad335 := (by injection e335)
                 (try simp only [show (1 : Int).toNat = 1 from rfl, Nat.reduceMul, Nat.reduceEqDiff, Go.Addr.add, ↓reduceIte] at hx335_0)
                 have qi335 : (1 < x8_2.length) = True := eq_true (by omega)
                 (try rw [show ((1 : Int)).toNat = 1 from rfl] at hx335_0)
                 replace p335 := eq_true p335
                 replace q335 := eq_true q335
                 go_wp2
                 go_meet
                 case rel => exact ⟨_, (!false), (by first | rfl | (simp; done) | (simp [*]; done)), H', ⟨by have := HK1.out; have := HK2.out; have := HJ18.out; first | omega | exact Nat.le_refl _⟩, ⟨by (with_reducible repeat (first | refine q5 ?_ _ | refine q6 ?_ | refine q7 ?_ _)); exact BK330.out⟩, ⟨by repeat (first | (with_reducible first | exact HB.out | apply q1 | apply q2 | apply q3 | refine q4 ?_ GE330.out) | exact HB.out)⟩⟩
               ·rw [if_neg c88] at H
                exact absurd H (by simp)
              ·replace c87 := Bool.eq_false_iff.mpr c87
               subst c87
               have H1 : (laws_FnBoxes.j3 kj18 l0 (!false)) = some r := by rw [if_neg (show ¬ (false = true) by decide)] at H; exact H
               clear H
               have H := H1
               clear H1
               have H' := qg H
               clear H
               obtain ⟨Ao98, co98, eo98⟩ := Kd.R_slice HO_8.out
               subst eo98
               have p334 : 0 ≤ (0 : Int) := (by omega)
               have q334 : 0 < (x8_2.length : Int) := of_decide_eq_true (by first | (with_reducible assumption) | assumption)
               obtain ⟨ad334, e334, hx334_0⟩ := Kd.at_bool (Kd.R_reads' HO_8.out).2.2 0 p334 q334
               (try rw [← Nbq86.out] at hx334_0)
               cases e334
               have qi334 : (0 < x8_2.length) = True := eq_true (by omega)
               (try rw [show ((0 : Int)).toNat = 0 from rfl] at hx334_0)
               (try rw [Addr.add_zero'] at hx334_0)
               replace p334 := eq_true p334
               replace q334 := eq_true q334
               go_wp2
               go_meet
               case rel => exact ⟨_, (!false), (by first | rfl | (simp; done) | (simp [*]; done)), H', ⟨by have := HK1.out; have := HK2.out; have := HJ18.out; first | omega | exact Nat.le_refl _⟩, ⟨by (with_reducible repeat (first | refine q5 ?_ _ | refine q6 ?_ | refine q7 ?_ _)); exact BK330.out⟩, ⟨by repeat (first | (with_reducible first | exact HB.out | apply q1 | apply q2 | apply q3 | refine q4 ?_ GE330.out) | exact HB.out)⟩⟩
             ·rw [if_neg c85] at H
              exact absurd H (by simp)
            ·replace c84 := Bool.eq_false_iff.mpr c84
             subst c84
             have H1 : (laws_FnBoxes.j3 kj18 l0 false) = some r := by rw [if_neg (show ¬ (false = true) by decide)] at H; exact H
             clear H
             have H := H1
             clear H1
             have H' := qg H
             clear H
             go_wp2
             go_meet
             case rel => exact ⟨_, (false), (by first | rfl | (simp; done) | (simp [*]; done)), H', ⟨by have := HK1.out; have := HK2.out; have := HJ18.out; first | omega | exact Nat.le_refl _⟩, ⟨by (with_reducible repeat (first | refine q5 ?_ _ | refine q6 ?_ | refine q7 ?_ _)); exact BK330.out⟩, ⟨by repeat (first | (with_reducible first | exact HB.out | apply q1 | apply q2 | apply q3 | refine q4 ?_ GE330.out) | exact HB.out)⟩⟩
           case rest => as_aux_lemma =>
            clear HC83
            (try clear c2); (try clear p2); (try clear p3); (try clear q3); (try clear hx3); (try clear qi3); (try clear c5); (try clear c6); (try clear p6); (try clear q6); (try clear c7); (try clear p7); (try clear q7); (try clear hx7); (try clear qi7); (try clear hf7); (try clear c8); (try clear q8); (try clear c9); (try clear q9); (try clear c21); (try clear c22); (try clear c23); (try clear c25); (try clear p33); (try clear q33); (try clear hx33); (try clear qi33); (try clear p36); (try clear q36); (try clear hx36); (try clear p37); (try clear q37); (try clear hx37); (try clear qi37); (try clear p38); (try clear q38); (try clear hx38); (try clear c51); (try clear p64); (try clear c68); (try clear q69); (try clear c70); (try clear c75); (try clear c75b0); (try clear c76); (try clear c76b0); (try clear p77); (try clear q77); (try clear hx77); (try clear qi77); (try clear hf77); (try clear c84); (try clear c85); (try clear c85b0); (try clear c85b1); (try clear q86); (try clear c87); (try clear c88); (try clear c88b0); (try clear c88b1); (try clear q89); (try clear c90); (try clear c91); (try clear c91b0); (try clear c91b1); (try clear q92); (try clear c93); (try clear c94); (try clear c94b0); (try clear c94b1); (try clear hx334_0); (try clear hx335_0); (try clear hx336_0); (try clear hx337_0); (try clear hx364_0); (try clear hx364_1); (try clear hx378_0); (try clear hx380_0); (try clear hx380_1); (try clear hx77_0); (try clear p334); (try clear p335); (try clear p336); (try clear p337); (try clear p364); (try clear p378); (try clear p380); (try clear p77); (try clear q334); (try clear q335); (try clear q336); (try clear q337); (try clear q364); (try clear q378); (try clear q380); (try clear q77)
            obtain ⟨kq, x145_82, rfl, HA, HJ82, BK330, HB⟩ := hcut
            cases kq with
            | zero => exact absurd HA.out (by simp [laws_FnBoxes.j3])
            | succ kj82 =>
             have H := HA.out
             clear HA
             simp only [laws_FnBoxes.j3] at H
             by_cases c99 : x145_82 = true
             ·subst c99
              have H1 : (some false) = some r := by rw [if_pos rfl] at H; exact H
              clear H
              have H := H1
              clear H1
              obtain rfl := Option.some.inj H
              exact absurd HR.out (by decide)
             ·replace c99 := Bool.eq_false_iff.mpr c99
              subst c99
              have H1 : ((spec_DrawInBox.f kj82 l0).bind fun bt338 => ((spec_DrawTurnBox.f kj82 l0).bind fun bt346 => ((impl_IsBox.f bt338.1 bt338.2.1 bt338.2.2.1 bt338.2.2.2.1).bind fun t352 => ((spec_IsBox.f bt338.1 bt338.2.1 bt338.2.2.1 bt338.2.2.2.1).bind fun t353 => (if (t352 != t353) = true then (some false) else ((impl_IsBox.f bt338.1 bt338.2.1 bt338.2.2.1 bt338.2.2.2.1).bind fun t354 => (if t354 = true then ((impl_IsPlace.f bt338.2.2.2.2.1 bt338.2.2.2.2.2).bind fun t355 => (if t355 = true then ((impl_TurnBox.f kj82 bt338.1 bt338.2.1 bt338.2.2.1 bt338.2.2.2.1 bt346.2.2.2.2).bind fun bt356 => ((impl_TurnPlace.f kj82 bt338.2.2.2.2.1 bt338.2.2.2.2.2 bt346.2.2.2.2).bind fun bt360 => ((impl_InBox.f bt356.1 bt356.2.1 bt356.2.2.1 bt356.2.2.2 bt360.1 bt360.2).bind fun t362 => ((impl_InBox.f bt338.1 bt338.2.1 bt338.2.2.1 bt338.2.2.2.1 bt338.2.2.2.2.1 bt338.2.2.2.2.2).bind fun t363 => (laws_FnBoxes.j4 kj82 (t362 == t363)))))) else (laws_FnBoxes.j4 kj82 true))) else (laws_FnBoxes.j4 kj82 true)))))))) = some r := by rw [if_neg (show ¬ (false = true) by decide)] at H; exact H
              clear H
              have H := H1
              clear H1
              replace H := Option.bind_eq_some_iff.mp H
              obtain ⟨⟨t338, t339, t340, t341, t342, t343⟩, A1000, H⟩ := H
              replace H : ((spec_DrawTurnBox.f kj82 l0).bind fun bt346 => ((impl_IsBox.f t338 t339 t340 t341).bind fun t352 => ((spec_IsBox.f t338 t339 t340 t341).bind fun t353 => (if (t352 != t353) = true then (some false) else ((impl_IsBox.f t338 t339 t340 t341).bind fun t354 => (if t354 = true then ((impl_IsPlace.f t342 t343).bind fun t355 => (if t355 = true then ((impl_TurnBox.f kj82 t338 t339 t340 t341 bt346.2.2.2.2).bind fun bt356 => ((impl_TurnPlace.f kj82 t342 t343 bt346.2.2.2.2).bind fun bt360 => ((impl_InBox.f bt356.1 bt356.2.1 bt356.2.2.1 bt356.2.2.2 bt360.1 bt360.2).bind fun t362 => ((impl_InBox.f t338 t339 t340 t341 t342 t343).bind fun t363 => (laws_FnBoxes.j4 kj82 (t362 == t363)))))) else (laws_FnBoxes.j4 kj82 true))) else (laws_FnBoxes.j4 kj82 true))))))) = some r := H
              have A100 := qg A1000
              clear A1000
              replace H := Option.bind_eq_some_iff.mp H
              obtain ⟨⟨t346, t347, t348, t349, t350⟩, A1010, H⟩ := H
              replace H : ((impl_IsBox.f t338 t339 t340 t341).bind fun t352 => ((spec_IsBox.f t338 t339 t340 t341).bind fun t353 => (if (t352 != t353) = true then (some false) else ((impl_IsBox.f t338 t339 t340 t341).bind fun t354 => (if t354 = true then ((impl_IsPlace.f t342 t343).bind fun t355 => (if t355 = true then ((impl_TurnBox.f kj82 t338 t339 t340 t341 t350).bind fun bt356 => ((impl_TurnPlace.f kj82 t342 t343 t350).bind fun bt360 => ((impl_InBox.f bt356.1 bt356.2.1 bt356.2.2.1 bt356.2.2.2 bt360.1 bt360.2).bind fun t362 => ((impl_InBox.f t338 t339 t340 t341 t342 t343).bind fun t363 => (laws_FnBoxes.j4 kj82 (t362 == t363)))))) else (laws_FnBoxes.j4 kj82 true))) else (laws_FnBoxes.j4 kj82 true)))))) = some r := H
              have A101 := qg A1010
              clear A1010
              replace H := Option.bind_eq_some_iff.mp H
              obtain ⟨t352, A1020, H⟩ := H
              replace H : ((spec_IsBox.f t338 t339 t340 t341).bind fun t353 => (if (t352 != t353) = true then (some false) else ((impl_IsBox.f t338 t339 t340 t341).bind fun t354 => (if t354 = true then ((impl_IsPlace.f t342 t343).bind fun t355 => (if t355 = true then ((impl_TurnBox.f kj82 t338 t339 t340 t341 t350).bind fun bt356 => ((impl_TurnPlace.f kj82 t342 t343 t350).bind fun bt360 => ((impl_InBox.f bt356.1 bt356.2.1 bt356.2.2.1 bt356.2.2.2 bt360.1 bt360.2).bind fun t362 => ((impl_InBox.f t338 t339 t340 t341 t342 t343).bind fun t363 => (laws_FnBoxes.j4 kj82 (t362 == t363)))))) else (laws_FnBoxes.j4 kj82 true))) else (laws_FnBoxes.j4 kj82 true))))) = some r := H
              have A102 := qg A1020
              clear A1020
              replace H := Option.bind_eq_some_iff.mp H
              obtain ⟨t353, A1030, H⟩ := H
              replace H : (if (t352 != t353) = true then (some false) else ((impl_IsBox.f t338 t339 t340 t341).bind fun t354 => (if t354 = true then ((impl_IsPlace.f t342 t343).bind fun t355 => (if t355 = true then ((impl_TurnBox.f kj82 t338 t339 t340 t341 t350).bind fun bt356 => ((impl_TurnPlace.f kj82 t342 t343 t350).bind fun bt360 => ((impl_InBox.f bt356.1 bt356.2.1 bt356.2.2.1 bt356.2.2.2 bt360.1 bt360.2).bind fun t362 => ((impl_InBox.f t338 t339 t340 t341 t342 t343).bind fun t363 => (laws_FnBoxes.j4 kj82 (t362 == t363)))))) else (laws_FnBoxes.j4 kj82 true))) else (laws_FnBoxes.j4 kj82 true)))) = some r := H
              have A103 := qg A1030
              clear A1030
              by_cases c104 : (t352 != t353) = true
              ·rw [if_pos c104] at H
               have c104b0 : (t352 != t353) = true := c104
               (try (have c104b1 : decide (t352 = t353) = false := by simpa using c104))
               (try (have c104b2 : (t352 == t353) = false := by simpa using c104))
               (try (have c104b3 : ¬ (t352 = t353) := by simpa using c104))
               clear c104
               obtain rfl := Option.some.inj H
               exact absurd HR.out (by decide)
              ·rw [if_neg c104] at H
               have c104b0 : (t352 != t353) = false := by simpa using c104
               (try (have c104b1 : decide (t352 = t353) = true := by simpa using c104))
               (try (have c104b2 : (t352 == t353) = true := by simpa using c104))
               clear c104
               have HC123 := qg H
               clear H
               try go_wp2_with (first | ((with_reducible refine qt (f := 52) rfl ?_); refine goesL_ (some 148) rfl rfl Try.func52 (by kernel_rfl) rfl #[.slice A0 l0.length c0] rfl (by (try simp only [List.map_toArray, List.map_cons, List.map_nil]); first | done | rfl | (simp only [List.length_drop, List.length_take]; rfl)) ?_; (with_reducible refine (spec_DrawInBox.calls kj82 _ _ l0 t338 t339 t340 t341 t342 t343 _ ?side1 ?side2 A100.out).mono ?_); (case side1 => repeat (first | exact (qn HR0.out HB.out) | (with_reducible refine qo ?_ _) | (with_reducible refine qr ?_ _) | (with_reducible refine qs ?_))); (case side2 => exact HC0.out); rintro e w124 ⟨rfl, hb⟩; refine ⟨_, rfl, ?_⟩; have n0_ := qg (q8 (g := gb330) (o := .cells #[.int .i64 t325, .int .i64 t326, .int .i64 t327, .int .i64 t328] 67 (0, 0)) (by (with_reducible repeat (first | refine q5 ?_ _ | refine q6 ?_ | refine q7 ?_ _)); exact BK330.out) hb); have n1_ := qg (q9 (by repeat (first | (with_reducible first | exact HB.out | apply q1 | apply q2 | apply q3 | refine q4 ?_ GE330.out) | exact HB.out)) hb); clear BK330; clear HB; have BK330 := n0_; have HB := n1_; clear n0_ n1_; (try clear hb); (try clear hb2); (try clear hk); (try clear hi)) | ((with_reducible refine qu (N := 10) rfl ?_); (try (refine gate_guard (by rfl) ?_; dsimp only)); refine qh ?hg (N := 10) ?hd (cs := #[.int .i64 0, .int .i64 0, .int .i64 0, .int .i64 0]) (t := 67) ?hr ?_; (case hd => rfl); (case hg => rfl); (case hr => first | (go_simp; done) | (go_simp; rfl)); intro gb344 hg w125 hbox hb; have n0_ := qg (q8 (g := gb330) (o := .cells #[.int .i64 t325, .int .i64 t326, .int .i64 t327, .int .i64 t328] 67 (0, 0)) (by (with_reducible repeat (first | refine q5 ?_ _ | refine q6 ?_ | refine q7 ?_ _)); exact BK330.out) hb); have n1_ := qg (q9 (by repeat (first | (with_reducible first | exact HB.out | apply q1 | apply q2 | apply q3 | refine q4 ?_ GE330.out) | exact HB.out)) hb); have n2_ := qg (hbox); have n3_ := qg ((by rw [hg]; exact (qa (by repeat (first | (with_reducible first | exact HB.out | apply q1 | apply q2 | apply q3 | refine q4 ?_ GE330.out) | exact HB.out))) : w.heap.size ≤ gb344)); have n4_ := qg ((by rw [hg]; exact (qa (by repeat (first | (with_reducible first | exact HB.out | apply q1 | apply q2 | apply q3 | refine q4 ?_ GE330.out) | exact HB.out))) : w.heap.size ≤ gb344)); have n5_ := qg ((by rw [hg]; exact qv (qd (g := gb330) (o := .cells #[.int .i64 t325, .int .i64 t326, .int .i64 t327, .int .i64 t328] 67 (0, 0)) (by (with_reducible repeat (first | refine q5 ?_ _ | refine q6 ?_ | refine q7 ?_ _)); exact BK330.out)) : gb330 ≠ gb344)); have n6_ := qg ((by rw [hg]; exact qw (qd (g := gb330) (o := .cells #[.int .i64 t325, .int .i64 t326, .int .i64 t327, .int .i64 t328] 67 (0, 0)) (by (with_reducible repeat (first | refine q5 ?_ _ | refine q6 ?_ | refine q7 ?_ _)); exact BK330.out)) : gb344 ≠ gb330)); clear BK330; clear HB; have BK330 := n0_; have HB := n1_; have BK344 := n2_; have GW344 := n3_; have GE344 := n4_; have NB330_344 := n5_; have NB344_330 := n6_; clear n0_ n1_ n2_ n3_ n4_ n5_ n6_; clear hb hbox hg) | ((with_reducible refine qu (N := 11) rfl ?_); (try (refine gate_guard (by rfl) ?_; dsimp only)); refine qh ?hg (N := 11) ?hd (cs := #[.int .i64 0, .int .i64 0]) (t := 25) ?hr ?_; (case hd => rfl); (case hg => rfl); (case hr => first | (go_simp; done) | (go_simp; rfl)); intro gb345 hg w126 hbox hb; have n0_ := qg (q8 (g := gb330) (o := .cells #[.int .i64 t325, .int .i64 t326, .int .i64 t327, .int .i64 t328] 67 (0, 0)) (by (with_reducible repeat (first | refine q5 ?_ _ | refine q6 ?_ | refine q7 ?_ _)); exact BK330.out) hb); have n1_ := qg (q8 (g := gb344) (o := .cells #[.int .i64 0, .int .i64 0, .int .i64 0, .int .i64 0] 67 (0, 0)) (by (with_reducible repeat (first | refine q5 ?_ _ | refine q6 ?_ | refine q7 ?_ _)); exact BK344.out) hb); have n2_ := qg (q9 (by repeat (first | (with_reducible first | exact HB.out | apply q1 | apply q2 | apply q3 | refine q4 ?_ GE330.out | refine q4 ?_ GE344.out) | exact HB.out)) hb); have n3_ := qg (hbox); have n4_ := qg ((by rw [hg]; exact (qa (by repeat (first | (with_reducible first | exact HB.out | apply q1 | apply q2 | apply q3 | refine q4 ?_ GE330.out | refine q4 ?_ GE344.out) | exact HB.out))) : w.heap.size ≤ gb345)); have n5_ := qg ((by rw [hg]; exact (qa (by repeat (first | (with_reducible first | exact HB.out | apply q1 | apply q2 | apply q3 | refine q4 ?_ GE330.out | refine q4 ?_ GE344.out) | exact HB.out))) : w.heap.size ≤ gb345)); have n6_ := qg ((by rw [hg]; exact qv (qd (g := gb330) (o := .cells #[.int .i64 t325, .int .i64 t326, .int .i64 t327, .int .i64 t328] 67 (0, 0)) (by (with_reducible repeat (first | refine q5 ?_ _ | refine q6 ?_ | refine q7 ?_ _)); exact BK330.out)) : gb330 ≠ gb345)); have n7_ := qg ((by rw [hg]; exact qw (qd (g := gb330) (o := .cells #[.int .i64 t325, .int .i64 t326, .int .i64 t327, .int .i64 t328] 67 (0, 0)) (by (with_reducible repeat (first | refine q5 ?_ _ | refine q6 ?_ | refine q7 ?_ _)); exact BK330.out)) : gb345 ≠ gb330)); have n8_ := qg ((by rw [hg]; exact qv (qd (g := gb344) (o := .cells #[.int .i64 0, .int .i64 0, .int .i64 0, .int .i64 0] 67 (0, 0)) (by (with_reducible repeat (first | refine q5 ?_ _ | refine q6 ?_ | refine q7 ?_ _)); exact BK344.out)) : gb344 ≠ gb345)); have n9_ := qg ((by rw [hg]; exact qw (qd (g := gb344) (o := .cells #[.int .i64 0, .int .i64 0, .int .i64 0, .int .i64 0] 67 (0, 0)) (by (with_reducible repeat (first | refine q5 ?_ _ | refine q6 ?_ | refine q7 ?_ _)); exact BK344.out)) : gb345 ≠ gb344)); clear BK330; clear BK344; clear HB; have BK330 := n0_; have BK344 := n1_; have HB := n2_; have BK345 := n3_; have GW345 := n4_; have GE345 := n5_; have NB330_345 := n6_; have NB345_330 := n7_; have NB344_345 := n8_; have NB345_344 := n9_; clear n0_ n1_ n2_ n3_ n4_ n5_ n6_ n7_ n8_ n9_; clear hb hbox hg; have hnb127 := NB344_330.out; have hnc127 := NB330_344.out; have hnb128 := NB344_345.out; have hnc128 := NB345_344.out; have hcz129_0 : w126.cell? ⟨gb344, 0, none⟩ = some (.int .i64 0) := (qc BK344.out 0).trans rfl; have hcz129_1 : w126.cell? ⟨gb344, 1, none⟩ = some (.int .i64 0) := (qc BK344.out 1).trans rfl; have hcz129_2 : w126.cell? ⟨gb344, 2, none⟩ = some (.int .i64 0) := (qc BK344.out 2).trans rfl; have hcz129_3 : w126.cell? ⟨gb344, 3, none⟩ = some (.int .i64 0) := (qc BK344.out 3).trans rfl; have hfz129_0 := qb BK344.out 0; have hfz129_1 := qb BK344.out 1; have hfz129_2 := qb BK344.out 2; have hfz129_3 := qb BK344.out 3; have hnb130 := NB345_330.out; have hnc130 := NB330_345.out; have hcz131_0 : w126.cell? ⟨gb345, 0, none⟩ = some (.int .i64 0) := (qc BK345.out 0).trans rfl; have hcz131_1 : w126.cell? ⟨gb345, 1, none⟩ = some (.int .i64 0) := (qc BK345.out 1).trans rfl; have hfz131_0 := qb BK345.out 0; have hfz131_1 := qb BK345.out 1) | ((with_reducible refine qt (f := 53) rfl ?_); refine goesL_ (some 153) rfl rfl Try.func53 (by kernel_rfl) rfl #[.slice A0 l0.length c0] rfl (by (try simp only [List.map_toArray, List.map_cons, List.map_nil]); first | done | rfl | (simp only [List.length_drop, List.length_take]; rfl)) ?_; (with_reducible refine (spec_DrawTurnBox.calls kj82 _ _ l0 t346 t347 t348 t349 t350 _ ?side1 ?side2 A101.out).mono ?_); (case side1 => exact qn HR0.out (by repeat (first | (with_reducible first | exact HB.out | apply q1 | apply q2 | apply q3 | refine q4 ?_ GE330.out | refine q4 ?_ GE344.out | refine q4 ?_ GE345.out) | exact HB.out))); (case side2 => exact HC0.out); rintro e w132 ⟨rfl, hb⟩; refine ⟨_, rfl, ?_⟩; have n0_ := qg (q8 (g := gb330) (o := .cells #[.int .i64 t325, .int .i64 t326, .int .i64 t327, .int .i64 t328] 67 (0, 0)) (by (with_reducible repeat (first | refine q5 ?_ _ | refine q6 ?_ | refine q7 ?_ _)); refine qe ?_ NB330_345.out _; (with_reducible repeat (first | refine q5 ?_ _ | refine q6 ?_ | refine q7 ?_ _)); refine qe ?_ NB330_345.out _; (with_reducible repeat (first | refine q5 ?_ _ | refine q6 ?_ | refine q7 ?_ _)); refine qe ?_ NB330_344.out _; (with_reducible repeat (first | refine q5 ?_ _ | refine q6 ?_ | refine q7 ?_ _)); refine qe ?_ NB330_344.out _; (with_reducible repeat (first | refine q5 ?_ _ | refine q6 ?_ | refine q7 ?_ _)); refine qe ?_ NB330_344.out _; (with_reducible repeat (first | refine q5 ?_ _ | refine q6 ?_ | refine q7 ?_ _)); refine qe ?_ NB330_344.out _; (with_reducible repeat (first | refine q5 ?_ _ | refine q6 ?_ | refine q7 ?_ _)); exact BK330.out) hb); have n1_ := qg (q8 (g := gb344) (o := .cells #[.int .i64 t338, .int .i64 t339, .int .i64 t340, .int .i64 t341] 67 (0, 0)) (by (with_reducible repeat (first | refine q5 ?_ _ | refine q6 ?_ | refine q7 ?_ _)); refine qe ?_ NB344_345.out _; (with_reducible repeat (first | refine q5 ?_ _ | refine q6 ?_ | refine q7 ?_ _)); refine qe ?_ NB344_345.out _; (with_reducible repeat (first | refine q5 ?_ _ | refine q6 ?_ | refine q7 ?_ _)); refine qf (cs := #[.int .i64 t338, .int .i64 t339, .int .i64 t340, .int .i64 0]) ?_ 3 _ rfl; (with_reducible repeat (first | refine q5 ?_ _ | refine q6 ?_ | refine q7 ?_ _)); refine qf (cs := #[.int .i64 t338, .int .i64 t339, .int .i64 0, .int .i64 0]) ?_ 2 _ rfl; (with_reducible repeat (first | refine q5 ?_ _ | refine q6 ?_ | refine q7 ?_ _)); refine qf (cs := #[.int .i64 t338, .int .i64 0, .int .i64 0, .int .i64 0]) ?_ 1 _ rfl; (with_reducible repeat (first | refine q5 ?_ _ | refine q6 ?_ | refine q7 ?_ _)); refine qf (cs := #[.int .i64 0, .int .i64 0, .int .i64 0, .int .i64 0]) ?_ 0 _ rfl; (with_reducible repeat (first | refine q5 ?_ _ | refine q6 ?_ | refine q7 ?_ _)); exact BK344.out) hb); have n2_ := qg (q8 (g := gb345) (o := .cells #[.int .i64 t342, .int .i64 t343] 25 (0, 0)) (by (with_reducible repeat (first | refine q5 ?_ _ | refine q6 ?_ | refine q7 ?_ _)); refine qf (cs := #[.int .i64 t342, .int .i64 0]) ?_ 1 _ rfl; (with_reducible repeat (first | refine q5 ?_ _ | refine q6 ?_ | refine q7 ?_ _)); refine qf (cs := #[.int .i64 0, .int .i64 0]) ?_ 0 _ rfl; (with_reducible repeat (first | refine q5 ?_ _ | refine q6 ?_ | refine q7 ?_ _)); refine qe ?_ NB345_344.out _; (with_reducible repeat (first | refine q5 ?_ _ | refine q6 ?_ | refine q7 ?_ _)); refine qe ?_ NB345_344.out _; (with_reducible repeat (first | refine q5 ?_ _ | refine q6 ?_ | refine q7 ?_ _)); refine qe ?_ NB345_344.out _; (with_reducible repeat (first | refine q5 ?_ _ | refine q6 ?_ | refine q7 ?_ _)); refine qe ?_ NB345_344.out _; (with_reducible repeat (first | refine q5 ?_ _ | refine q6 ?_ | refine q7 ?_ _)); exact BK345.out) hb); have n3_ := qg (q9 (by repeat (first | (with_reducible first | exact HB.out | apply q1 | apply q2 | apply q3 | refine q4 ?_ GE330.out | refine q4 ?_ GE344.out | refine q4 ?_ GE345.out) | exact HB.out)) hb); clear BK330; clear BK344; clear BK345; clear HB; have BK330 := n0_; have BK344 := n1_; have BK345 := n2_; have HB := n3_; clear n0_ n1_ n2_ n3_; (try clear hb); (try clear hb2); (try clear hk); (try clear hi)) | ((with_reducible refine qu (N := 12) rfl ?_); (try (refine gate_guard (by rfl) ?_; dsimp only)); refine qh ?hg (N := 12) ?hd (cs := #[.int .i64 0, .int .i64 0, .int .i64 0, .int .i64 0]) (t := 67) ?hr ?_; (case hd => rfl); (case hg => rfl); (case hr => first | (go_simp; done) | (go_simp; rfl)); intro gb351 hg w133 hbox hb; have n0_ := qg (q8 (g := gb330) (o := .cells #[.int .i64 t325, .int .i64 t326, .int .i64 t327, .int .i64 t328] 67 (0, 0)) (by (with_reducible repeat (first | refine q5 ?_ _ | refine q6 ?_ | refine q7 ?_ _)); exact BK330.out) hb); have n1_ := qg (q8 (g := gb344) (o := .cells #[.int .i64 t338, .int .i64 t339, .int .i64 t340, .int .i64 t341] 67 (0, 0)) (by (with_reducible repeat (first | refine q5 ?_ _ | refine q6 ?_ | refine q7 ?_ _)); exact BK344.out) hb); have n2_ := qg (q8 (g := gb345) (o := .cells #[.int .i64 t342, .int .i64 t343] 25 (0, 0)) (by (with_reducible repeat (first | refine q5 ?_ _ | refine q6 ?_ | refine q7 ?_ _)); exact BK345.out) hb); have n3_ := qg (q9 (by repeat (first | (with_reducible first | exact HB.out | apply q1 | apply q2 | apply q3 | refine q4 ?_ GE330.out | refine q4 ?_ GE344.out | refine q4 ?_ GE345.out) | exact HB.out)) hb); have n4_ := qg (hbox); have n5_ := qg ((by rw [hg]; exact (qa (by repeat (first | (with_reducible first | exact HB.out | apply q1 | apply q2 | apply q3 | refine q4 ?_ GE330.out | refine q4 ?_ GE344.out | refine q4 ?_ GE345.out) | exact HB.out))) : w.heap.size ≤ gb351)); have n6_ := qg ((by rw [hg]; exact (qa (by repeat (first | (with_reducible first | exact HB.out | apply q1 | apply q2 | apply q3 | refine q4 ?_ GE330.out | refine q4 ?_ GE344.out | refine q4 ?_ GE345.out) | exact HB.out))) : w.heap.size ≤ gb351)); have n7_ := qg ((by rw [hg]; exact qv (qd (g := gb330) (o := .cells #[.int .i64 t325, .int .i64 t326, .int .i64 t327, .int .i64 t328] 67 (0, 0)) (by (with_reducible repeat (first | refine q5 ?_ _ | refine q6 ?_ | refine q7 ?_ _)); exact BK330.out)) : gb330 ≠ gb351)); have n8_ := qg ((by rw [hg]; exact qw (qd (g := gb330) (o := .cells #[.int .i64 t325, .int .i64 t326, .int .i64 t327, .int .i64 t328] 67 (0, 0)) (by (with_reducible repeat (first | refine q5 ?_ _ | refine q6 ?_ | refine q7 ?_ _)); exact BK330.out)) : gb351 ≠ gb330)); have n9_ := qg ((by rw [hg]; exact qv (qd (g := gb344) (o := .cells #[.int .i64 t338, .int .i64 t339, .int .i64 t340, .int .i64 t341] 67 (0, 0)) (by (with_reducible repeat (first | refine q5 ?_ _ | refine q6 ?_ | refine q7 ?_ _)); exact BK344.out)) : gb344 ≠ gb351)); have n10_ := qg ((by rw [hg]; exact qw (qd (g := gb344) (o := .cells #[.int .i64 t338, .int .i64 t339, .int .i64 t340, .int .i64 t341] 67 (0, 0)) (by (with_reducible repeat (first | refine q5 ?_ _ | refine q6 ?_ | refine q7 ?_ _)); exact BK344.out)) : gb351 ≠ gb344)); have n11_ := qg ((by rw [hg]; exact qv (qd (g := gb345) (o := .cells #[.int .i64 t342, .int .i64 t343] 25 (0, 0)) (by (with_reducible repeat (first | refine q5 ?_ _ | refine q6 ?_ | refine q7 ?_ _)); exact BK345.out)) : gb345 ≠ gb351)); have n12_ := qg ((by rw [hg]; exact qw (qd (g := gb345) (o := .cells #[.int .i64 t342, .int .i64 t343] 25 (0, 0)) (by (with_reducible repeat (first | refine q5 ?_ _ | refine q6 ?_ | refine q7 ?_ _)); exact BK345.out)) : gb351 ≠ gb345)); clear BK330; clear BK344; clear BK345; clear HB; have BK330 := n0_; have BK344 := n1_; have BK345 := n2_; have HB := n3_; have BK351 := n4_; have GW351 := n5_; have GE351 := n6_; have NB330_351 := n7_; have NB351_330 := n8_; have NB344_351 := n9_; have NB351_344 := n10_; have NB345_351 := n11_; have NB351_345 := n12_; clear n0_ n1_ n2_ n3_ n4_ n5_ n6_ n7_ n8_ n9_ n10_ n11_ n12_; clear hb hbox hg; have hnb134 := NB351_330.out; have hnc134 := NB330_351.out; have hnb135 := NB351_344.out; have hnc135 := NB344_351.out; have hnb136 := NB351_345.out; have hnc136 := NB345_351.out; have hcz137_0 : w133.cell? ⟨gb351, 0, none⟩ = some (.int .i64 0) := (qc BK351.out 0).trans rfl; have hcz137_1 : w133.cell? ⟨gb351, 1, none⟩ = some (.int .i64 0) := (qc BK351.out 1).trans rfl; have hcz137_2 : w133.cell? ⟨gb351, 2, none⟩ = some (.int .i64 0) := (qc BK351.out 2).trans rfl; have hcz137_3 : w133.cell? ⟨gb351, 3, none⟩ = some (.int .i64 0) := (qc BK351.out 3).trans rfl; have hfz137_0 := qb BK351.out 0; have hfz137_1 := qb BK351.out 1; have hfz137_2 := qb BK351.out 2; have hfz137_3 := qb BK351.out 3))
               have n0_ : Aside0 (((((w133.setCell ⟨gb351, 0, none⟩ (.int .i64 t346)).setCell ⟨gb351, 1, none⟩ (.int .i64 t347)).setCell ⟨gb351, 2, none⟩ (.int .i64 t348)).setCell ⟨gb351, 3, none⟩ (.int .i64 t349)).heap[gb330]? = some (.cells #[.int .i64 t325, .int .i64 t326, .int .i64 t327, .int .i64 t328] 67 (0, 0))) := ⟨by (with_reducible repeat (first | refine q5 ?_ _ | refine q6 ?_ | refine q7 ?_ _)); refine qe ?_ NB330_351.out _; (with_reducible repeat (first | refine q5 ?_ _ | refine q6 ?_ | refine q7 ?_ _)); refine qe ?_ NB330_351.out _; (with_reducible repeat (first | refine q5 ?_ _ | refine q6 ?_ | refine q7 ?_ _)); refine qe ?_ NB330_351.out _; (with_reducible repeat (first | refine q5 ?_ _ | refine q6 ?_ | refine q7 ?_ _)); refine qe ?_ NB330_351.out _; (with_reducible repeat (first | refine q5 ?_ _ | refine q6 ?_ | refine q7 ?_ _)); exact BK330.out⟩
               have n1_ : Aside0 (((((w133.setCell ⟨gb351, 0, none⟩ (.int .i64 t346)).setCell ⟨gb351, 1, none⟩ (.int .i64 t347)).setCell ⟨gb351, 2, none⟩ (.int .i64 t348)).setCell ⟨gb351, 3, none⟩ (.int .i64 t349)).heap[gb344]? = some (.cells #[.int .i64 t338, .int .i64 t339, .int .i64 t340, .int .i64 t341] 67 (0, 0))) := ⟨by (with_reducible repeat (first | refine q5 ?_ _ | refine q6 ?_ | refine q7 ?_ _)); refine qe ?_ NB344_351.out _; (with_reducible repeat (first | refine q5 ?_ _ | refine q6 ?_ | refine q7 ?_ _)); refine qe ?_ NB344_351.out _; (with_reducible repeat (first | refine q5 ?_ _ | refine q6 ?_ | refine q7 ?_ _)); refine qe ?_ NB344_351.out _; (with_reducible repeat (first | refine q5 ?_ _ | refine q6 ?_ | refine q7 ?_ _)); refine qe ?_ NB344_351.out _; (with_reducible repeat (first | refine q5 ?_ _ | refine q6 ?_ | refine q7 ?_ _)); exact BK344.out⟩
               have n2_ : Aside0 (((((w133.setCell ⟨gb351, 0, none⟩ (.int .i64 t346)).setCell ⟨gb351, 1, none⟩ (.int .i64 t347)).setCell ⟨gb351, 2, none⟩ (.int .i64 t348)).setCell ⟨gb351, 3, none⟩ (.int .i64 t349)).heap[gb345]? = some (.cells #[.int .i64 t342, .int .i64 t343] 25 (0, 0))) := ⟨by (with_reducible repeat (first | refine q5 ?_ _ | refine q6 ?_ | refine q7 ?_ _)); refine qe ?_ NB345_351.out _; (with_reducible repeat (first | refine q5 ?_ _ | refine q6 ?_ | refine q7 ?_ _)); refine qe ?_ NB345_351.out _; (with_reducible repeat (first | refine q5 ?_ _ | refine q6 ?_ | refine q7 ?_ _)); refine qe ?_ NB345_351.out _; (with_reducible repeat (first | refine q5 ?_ _ | refine q6 ?_ | refine q7 ?_ _)); refine qe ?_ NB345_351.out _; (with_reducible repeat (first | refine q5 ?_ _ | refine q6 ?_ | refine q7 ?_ _)); exact BK345.out⟩
               have n3_ : Aside0 (((((w133.setCell ⟨gb351, 0, none⟩ (.int .i64 t346)).setCell ⟨gb351, 1, none⟩ (.int .i64 t347)).setCell ⟨gb351, 2, none⟩ (.int .i64 t348)).setCell ⟨gb351, 3, none⟩ (.int .i64 t349)).heap[gb351]? = some (.cells #[.int .i64 t346, .int .i64 t347, .int .i64 t348, .int .i64 t349] 67 (0, 0))) := ⟨by (with_reducible repeat (first | refine q5 ?_ _ | refine q6 ?_ | refine q7 ?_ _)); refine qf (cs := #[.int .i64 t346, .int .i64 t347, .int .i64 t348, .int .i64 0]) ?_ 3 _ rfl; (with_reducible repeat (first | refine q5 ?_ _ | refine q6 ?_ | refine q7 ?_ _)); refine qf (cs := #[.int .i64 t346, .int .i64 t347, .int .i64 0, .int .i64 0]) ?_ 2 _ rfl; (with_reducible repeat (first | refine q5 ?_ _ | refine q6 ?_ | refine q7 ?_ _)); refine qf (cs := #[.int .i64 t346, .int .i64 0, .int .i64 0, .int .i64 0]) ?_ 1 _ rfl; (with_reducible repeat (first | refine q5 ?_ _ | refine q6 ?_ | refine q7 ?_ _)); refine qf (cs := #[.int .i64 0, .int .i64 0, .int .i64 0, .int .i64 0]) ?_ 0 _ rfl; (with_reducible repeat (first | refine q5 ?_ _ | refine q6 ?_ | refine q7 ?_ _)); exact BK351.out⟩
               have n4_ : Aside0 (Below w.heap.size w ((((w133.setCell ⟨gb351, 0, none⟩ (.int .i64 t346)).setCell ⟨gb351, 1, none⟩ (.int .i64 t347)).setCell ⟨gb351, 2, none⟩ (.int .i64 t348)).setCell ⟨gb351, 3, none⟩ (.int .i64 t349))) := ⟨by repeat (first | (with_reducible first | exact HB.out | apply q1 | apply q2 | apply q3 | refine q4 ?_ GE330.out | refine q4 ?_ GE344.out | refine q4 ?_ GE345.out | refine q4 ?_ GE351.out) | exact HB.out)⟩
               (try clear BK330)
               (try clear BK344)
               (try clear BK345)
               (try clear BK351)
               (try clear HB)
               generalize ((((w133.setCell ⟨gb351, 0, none⟩ (.int .i64 t346)).setCell ⟨gb351, 1, none⟩ (.int .i64 t347)).setCell ⟨gb351, 2, none⟩ (.int .i64 t348)).setCell ⟨gb351, 3, none⟩ (.int .i64 t349)) = w138 at n0_ n1_ n2_ n3_ n4_ ⊢
               have BK330 := n0_
               have BK344 := n1_
               have BK345 := n2_
               have BK351 := n3_
               have HB := n4_
               clear n0_ n1_ n2_ n3_ n4_
               have n0_ := qg (q6 BK330.out)
               have n1_ := qg (q6 BK344.out)
               have n2_ := qg (q6 BK345.out)
               have n3_ := qg (q6 BK351.out)
               have n4_ := qg (q3 HB.out)
               clear BK330; clear BK344; clear BK345; clear BK351; clear HB
               have BK330 := n0_
               have BK344 := n1_
               have BK345 := n2_
               have BK351 := n3_
               have HB := n4_
               clear n0_ n1_ n2_ n3_ n4_
               refine start_ (n := 5) (S := fun w' => w'.cell? ⟨gb344, 0, none⟩ = some (.int .i64 t338) ∧ w'.cell? ⟨gb344, 1, none⟩ = some (.int .i64 t339) ∧ w'.cell? ⟨gb344, 2, none⟩ = some (.int .i64 t340) ∧ w'.cell? ⟨gb344, 3, none⟩ = some (.int .i64 t341)) (ds := []) #[false, false, false, false, false] (by kernel_rfl) rfl rfl ⟨(qc BK344.out 0).trans rfl, (qc BK344.out 1).trans rfl, (qc BK344.out 2).trans rfl, (qc BK344.out 3).trans rfl⟩ (fun hHeld => ?_)
               generalize w138.drew = w139 at BK330 BK344 BK345 BK351 HB hHeld ⊢
               refine take_ (i := 0) (N := some 156) (v := ?_) (a' := ?_) #[true, false, false, false, false] rfl rfl (by kernel_rfl) (fun _ _ _ h => h) (Or.inl ⟨by rfl, ?_⟩) hHeld ?_ ?_
               rotate_left; focus (rintro w' ⟨s0, s1, s2, s3⟩; go_simp; with_reducible rfl)
               rotate_left; focus (simp only [Act.put, p1, p2, p3, i64_w, i32_w]; rfl)
               refine take_ (i := 2) (N := some 158) (v := ?_) (a' := ?_) #[true, false, true, false, false] rfl rfl (by kernel_rfl) (fun _ _ _ h => h) (Or.inl ⟨by rfl, ?_⟩) hHeld ?_ ?_
               rotate_left; focus (rintro w' ⟨s0, s1, s2, s3⟩; go_simp; with_reducible rfl)
               rotate_left; focus (simp only [Act.put, p1, p2, p3, i64_w, i32_w]; rfl)
               refine one_ (i := 1) (N := some 157) #[true, true, true, false, false] rfl rfl (by kernel_rfl) (by decide) (fun K hK => ?_)
               refine goes_ Try.func54 (by kernel_rfl) rfl #[.agg #[.int .i64 t338, .int .i64 t339, .int .i64 t340, .int .i64 t341]] (by rfl) rfl rfl (by (try simp only [List.map_toArray, List.map_cons, List.map_nil]); first | done | rfl | (simp only [List.length_drop, List.length_take]; rfl)) ?_
               with_reducible refine (impl_IsBox.calls t338 t339 t340 t341 t352 _ A102.out).mono ?_
               rintro e w140 ⟨rfl, hb⟩
               refine ⟨_, rfl, ?_⟩
               have n0_ := qg (q8 (g := gb330) (o := .cells #[.int .i64 t325, .int .i64 t326, .int .i64 t327, .int .i64 t328] 67 (0, 0)) (by (with_reducible repeat (first | refine q5 ?_ _ | refine q6 ?_ | refine q7 ?_ _)); exact BK330.out) hb)
               have n1_ := qg (q8 (g := gb344) (o := .cells #[.int .i64 t338, .int .i64 t339, .int .i64 t340, .int .i64 t341] 67 (0, 0)) (by (with_reducible repeat (first | refine q5 ?_ _ | refine q6 ?_ | refine q7 ?_ _)); exact BK344.out) hb)
               have n2_ := qg (q8 (g := gb345) (o := .cells #[.int .i64 t342, .int .i64 t343] 25 (0, 0)) (by (with_reducible repeat (first | refine q5 ?_ _ | refine q6 ?_ | refine q7 ?_ _)); exact BK345.out) hb)
               have n3_ := qg (q8 (g := gb351) (o := .cells #[.int .i64 t346, .int .i64 t347, .int .i64 t348, .int .i64 t349] 67 (0, 0)) (by (with_reducible repeat (first | refine q5 ?_ _ | refine q6 ?_ | refine q7 ?_ _)); exact BK351.out) hb)
               have n4_ := qg (q9 (by repeat (first | (with_reducible first | exact HB.out | apply q1 | apply q2 | apply q3 | refine q4 ?_ GE330.out | refine q4 ?_ GE344.out | refine q4 ?_ GE345.out | refine q4 ?_ GE351.out) | exact HB.out)) hb)
               clear BK330; clear BK344; clear BK345; clear BK351; clear HB
               have BK330 := n0_
               have BK344 := n1_
               have BK345 := n2_
               have BK351 := n3_
               have HB := n4_
               clear n0_ n1_ n2_ n3_ n4_
               (try clear hb)
               (try clear hb2)
               (try clear hk)
               (try clear hi)
               refine hK.out _ _ ⟨(qc BK344.out 0).trans rfl, (qc BK344.out 1).trans rfl, (qc BK344.out 2).trans rfl, (qc BK344.out 3).trans rfl⟩ (fun hHeld => ?_)
               clear hK K
               refine norm_ (a' := ?_) ?_ ?_
               rotate_left; focus (show Act.put _ (some 157) _ = _; simp only [Act.put, p1, p2, p3, i64_w, i32_w]; rfl)
               refine one_ (i := 3) (N := some 159) #[true, true, true, true, false] rfl rfl (by kernel_rfl) (by decide) (fun K hK => ?_)
               refine goes_ Try.func55 (by kernel_rfl) rfl #[.agg #[.int .i64 t338, .int .i64 t339, .int .i64 t340, .int .i64 t341]] (by rfl) rfl rfl (by (try simp only [List.map_toArray, List.map_cons, List.map_nil]); first | done | rfl | (simp only [List.length_drop, List.length_take]; rfl)) ?_
               with_reducible refine (spec_IsBox.calls t338 t339 t340 t341 t353 _ A103.out).mono ?_
               rintro e w141 ⟨rfl, hb⟩
               refine ⟨_, rfl, ?_⟩
               have n0_ := qg (q8 (g := gb330) (o := .cells #[.int .i64 t325, .int .i64 t326, .int .i64 t327, .int .i64 t328] 67 (0, 0)) (by (with_reducible repeat (first | refine q5 ?_ _ | refine q6 ?_ | refine q7 ?_ _)); exact BK330.out) hb)
               have n1_ := qg (q8 (g := gb344) (o := .cells #[.int .i64 t338, .int .i64 t339, .int .i64 t340, .int .i64 t341] 67 (0, 0)) (by (with_reducible repeat (first | refine q5 ?_ _ | refine q6 ?_ | refine q7 ?_ _)); exact BK344.out) hb)
               have n2_ := qg (q8 (g := gb345) (o := .cells #[.int .i64 t342, .int .i64 t343] 25 (0, 0)) (by (with_reducible repeat (first | refine q5 ?_ _ | refine q6 ?_ | refine q7 ?_ _)); exact BK345.out) hb)
               have n3_ := qg (q8 (g := gb351) (o := .cells #[.int .i64 t346, .int .i64 t347, .int .i64 t348, .int .i64 t349] 67 (0, 0)) (by (with_reducible repeat (first | refine q5 ?_ _ | refine q6 ?_ | refine q7 ?_ _)); exact BK351.out) hb)
               have n4_ := qg (q9 (by repeat (first | (with_reducible first | exact HB.out | apply q1 | apply q2 | apply q3 | refine q4 ?_ GE330.out | refine q4 ?_ GE344.out | refine q4 ?_ GE345.out | refine q4 ?_ GE351.out) | exact HB.out)) hb)
               clear BK330; clear BK344; clear BK345; clear BK351; clear HB
               have BK330 := n0_
               have BK344 := n1_
               have BK345 := n2_
               have BK351 := n3_
               have HB := n4_
               clear n0_ n1_ n2_ n3_ n4_
               (try clear hb)
               (try clear hb2)
               (try clear hk)
               (try clear hi)
               refine hK.out _ _ ⟨(qc BK344.out 0).trans rfl, (qc BK344.out 1).trans rfl, (qc BK344.out 2).trans rfl, (qc BK344.out 3).trans rfl⟩ (fun hHeld => ?_)
               clear hK K
               refine norm_ (a' := ?_) ?_ ?_
               rotate_left; focus (show Act.put _ (some 159) _ = _; simp only [Act.put, p1, p2, p3, i64_w, i32_w]; rfl)
               refine pure_ (i := 4) (N := some 160) (v := ?_) (a' := ?_) #[true, true, true, true, true] rfl rfl (by kernel_rfl) (fun _ _ _ h => h) (Or.inl ⟨by rfl, ?_⟩) ?_ ?_
               rotate_left; focus (intro w'; go_simp; with_reducible rfl)
               rotate_left; focus (simp only [Act.put, p1, p2, p3, i64_w, i32_w]; rfl)
               refine done_ (by kernel_rfl) ?_
               go_upto_region 28 with (fail)
               go_cut [2] (fun v2 wc => ∃ (kq : Nat) (x2_122 : Bool), v2 = .bool x2_122 ∧ Aside0 (laws_FnBoxes.j4 kq x2_122 = some r) ∧ Aside0 (kq ≤ kj82) ∧ Aside0 (wc.heap[gb330]? = some (.cells #[.int .i64 t325, .int .i64 t326, .int .i64 t327, .int .i64 t328] 67 (0, 0))) ∧ Aside0 (wc.heap[gb344]? = some (.cells #[.int .i64 t338, .int .i64 t339, .int .i64 t340, .int .i64 t341] 67 (0, 0))) ∧ Aside0 (wc.heap[gb345]? = some (.cells #[.int .i64 t342, .int .i64 t343] 25 (0, 0))) ∧ Aside0 (wc.heap[gb351]? = some (.cells #[.int .i64 t346, .int .i64 t347, .int .i64 t348, .int .i64 t349] 67 (0, 0))) ∧ Aside0 (Below w.heap.size w wc))
               case first => as_aux_lemma =>
                have H := HC123.out
                clear HC123
                replace H := Option.bind_eq_some_iff.mp H
                obtain ⟨t354, A1420, H⟩ := H
                replace H : (if t354 = true then ((impl_IsPlace.f t342 t343).bind fun t355 => (if t355 = true then ((impl_TurnBox.f kj82 t338 t339 t340 t341 t350).bind fun bt356 => ((impl_TurnPlace.f kj82 t342 t343 t350).bind fun bt360 => ((impl_InBox.f bt356.1 bt356.2.1 bt356.2.2.1 bt356.2.2.2 bt360.1 bt360.2).bind fun t362 => ((impl_InBox.f t338 t339 t340 t341 t342 t343).bind fun t363 => (laws_FnBoxes.j4 kj82 (t362 == t363)))))) else (laws_FnBoxes.j4 kj82 true))) else (laws_FnBoxes.j4 kj82 true)) = some r := H
                have A142 := qg A1420
                clear A1420
                by_cases c143 : t354 = true
                ·subst c143
                 have H1 : ((impl_IsPlace.f t342 t343).bind fun t355 => (if t355 = true then ((impl_TurnBox.f kj82 t338 t339 t340 t341 t350).bind fun bt356 => ((impl_TurnPlace.f kj82 t342 t343 t350).bind fun bt360 => ((impl_InBox.f bt356.1 bt356.2.1 bt356.2.2.1 bt356.2.2.2 bt360.1 bt360.2).bind fun t362 => ((impl_InBox.f t338 t339 t340 t341 t342 t343).bind fun t363 => (laws_FnBoxes.j4 kj82 (t362 == t363)))))) else (laws_FnBoxes.j4 kj82 true))) = some r := by rw [if_pos rfl] at H; exact H
                 clear H
                 have H := H1
                 clear H1
                 replace H := Option.bind_eq_some_iff.mp H
                 obtain ⟨t355, A1440, H⟩ := H
                 replace H : (if t355 = true then ((impl_TurnBox.f kj82 t338 t339 t340 t341 t350).bind fun bt356 => ((impl_TurnPlace.f kj82 t342 t343 t350).bind fun bt360 => ((impl_InBox.f bt356.1 bt356.2.1 bt356.2.2.1 bt356.2.2.2 bt360.1 bt360.2).bind fun t362 => ((impl_InBox.f t338 t339 t340 t341 t342 t343).bind fun t363 => (laws_FnBoxes.j4 kj82 (t362 == t363)))))) else (laws_FnBoxes.j4 kj82 true)) = some r := H
                 have A144 := qg A1440
                 clear A1440
                 by_cases c145 : t355 = true
                 ·subst c145
                  have H1 : ((impl_TurnBox.f kj82 t338 t339 t340 t341 t350).bind fun bt356 => ((impl_TurnPlace.f kj82 t342 t343 t350).bind fun bt360 => ((impl_InBox.f bt356.1 bt356.2.1 bt356.2.2.1 bt356.2.2.2 bt360.1 bt360.2).bind fun t362 => ((impl_InBox.f t338 t339 t340 t341 t342 t343).bind fun t363 => (laws_FnBoxes.j4 kj82 (t362 == t363)))))) = some r := by rw [if_pos rfl] at H; exact H
                  clear H
                  have H := H1
                  clear H1
                  replace H := Option.bind_eq_some_iff.mp H
                  obtain ⟨⟨t356, t357, t358, t359⟩, A1460, H⟩ := H
                  replace H : ((impl_TurnPlace.f kj82 t342 t343 t350).bind fun bt360 => ((impl_InBox.f t356 t357 t358 t359 bt360.1 bt360.2).bind fun t362 => ((impl_InBox.f t338 t339 t340 t341 t342 t343).bind fun t363 => (laws_FnBoxes.j4 kj82 (t362 == t363))))) = some r := H
                  have A146 := qg A1460
                  clear A1460
                  replace H := Option.bind_eq_some_iff.mp H
                  obtain ⟨⟨t360, t361⟩, A1470, H⟩ := H
                  replace H : ((impl_InBox.f t356 t357 t358 t359 t360 t361).bind fun t362 => ((impl_InBox.f t338 t339 t340 t341 t342 t343).bind fun t363 => (laws_FnBoxes.j4 kj82 (t362 == t363)))) = some r := H
                  have A147 := qg A1470
                  clear A1470
                  replace H := Option.bind_eq_some_iff.mp H
                  obtain ⟨t362, A1480, H⟩ := H
                  replace H : ((impl_InBox.f t338 t339 t340 t341 t342 t343).bind fun t363 => (laws_FnBoxes.j4 kj82 (t362 == t363))) = some r := H
                  have A148 := qg A1480
                  clear A1480
                  replace H := Option.bind_eq_some_iff.mp H
                  obtain ⟨t363, A1490, H⟩ := H
                  replace H : (laws_FnBoxes.j4 kj82 (t362 == t363)) = some r := H
                  have A149 := qg A1490
                  clear A1490
                  have H' := qg H
                  clear H
                  try go_wp2
                  have n0_ := qg (q6 BK330.out)
                  have n1_ := qg (q6 BK344.out)
                  have n2_ := qg (q6 BK345.out)
                  have n3_ := qg (q6 BK351.out)
                  have n4_ := qg (q3 HB.out)
                  clear BK330; clear BK344; clear BK345; clear BK351; clear HB
                  have BK330 := n0_
                  have BK344 := n1_
                  have BK345 := n2_
                  have BK351 := n3_
                  have HB := n4_
                  clear n0_ n1_ n2_ n3_ n4_
                  refine start_ (n := 22) (S := fun w' => w'.cell? ⟨gb344, 0, none⟩ = some (.int .i64 t338) ∧ w'.cell? ⟨gb344, 1, none⟩ = some (.int .i64 t339) ∧ w'.cell? ⟨gb344, 2, none⟩ = some (.int .i64 t340) ∧ w'.cell? ⟨gb344, 3, none⟩ = some (.int .i64 t341) ∧ w'.cell? ⟨gb345, 0, none⟩ = some (.int .i64 t342) ∧ w'.cell? ⟨gb345, 1, none⟩ = some (.int .i64 t343)) (ds := []) #[false, false, false, false, false, false, false, false, false, false, false, false, false, false, false, false, false, false, false, false, false, false] (by kernel_rfl) rfl rfl ⟨(qc BK344.out 0).trans rfl, (qc BK344.out 1).trans rfl, (qc BK344.out 2).trans rfl, (qc BK344.out 3).trans rfl, (qc BK345.out 0).trans rfl, (qc BK345.out 1).trans rfl⟩ (fun hHeld => ?_); refine with_tabW laws_FnBoxes.tab28 laws_FnBoxes.bits28 (fun HT_ HW_ => ?_)
                  generalize w141.drew = w150 at BK330 BK344 BK345 BK351 HB hHeld ⊢
                  refine take_ (i := 0) (N := some 161) (v := ?_) (a' := ?_) #[true, false, false, false, false, false, false, false, false, false, false, false, false, false, false, false, false, false, false, false, false, false] rfl rfl (take_ofW HT_.out HW_.out (by kernel_rfl)) (fun _ _ _ h => h) (Or.inl ⟨by rfl, ?_⟩) hHeld ?_ ?_
                  rotate_left; focus (rintro w' ⟨s0, s1, s2, s3, s4, s5⟩; go_simp; with_reducible rfl)
                  rotate_left; focus (simp only [Act.put, p1, p2, p3, i64_w, i32_w]; rfl)
                  refine one_ (i := 1) (N := some 162) #[true, true, false, false, false, false, false, false, false, false, false, false, false, false, false, false, false, false, false, false, false, false] rfl rfl (one_of HT_.out (by kernel_rfl)) (by decide) (fun K hK => ?_)
                  refine goes_ Try.func54 (by kernel_rfl) rfl #[.agg #[.int .i64 t338, .int .i64 t339, .int .i64 t340, .int .i64 t341]] (by rfl) rfl rfl (by (try simp only [List.map_toArray, List.map_cons, List.map_nil]); first | done | rfl | (simp only [List.length_drop, List.length_take]; rfl)) ?_
                  with_reducible refine (impl_IsBox.calls t338 t339 t340 t341 true _ A142.out).mono ?_
                  rintro e w151 ⟨rfl, hb⟩
                  refine ⟨_, rfl, ?_⟩
                  have n0_ := qg (q8 (g := gb330) (o := .cells #[.int .i64 t325, .int .i64 t326, .int .i64 t327, .int .i64 t328] 67 (0, 0)) (by (with_reducible repeat (first | refine q5 ?_ _ | refine q6 ?_ | refine q7 ?_ _)); exact BK330.out) hb)
                  have n1_ := qg (q8 (g := gb344) (o := .cells #[.int .i64 t338, .int .i64 t339, .int .i64 t340, .int .i64 t341] 67 (0, 0)) (by (with_reducible repeat (first | refine q5 ?_ _ | refine q6 ?_ | refine q7 ?_ _)); exact BK344.out) hb)
                  have n2_ := qg (q8 (g := gb345) (o := .cells #[.int .i64 t342, .int .i64 t343] 25 (0, 0)) (by (with_reducible repeat (first | refine q5 ?_ _ | refine q6 ?_ | refine q7 ?_ _)); exact BK345.out) hb)
                  have n3_ := qg (q8 (g := gb351) (o := .cells #[.int .i64 t346, .int .i64 t347, .int .i64 t348, .int .i64 t349] 67 (0, 0)) (by (with_reducible repeat (first | refine q5 ?_ _ | refine q6 ?_ | refine q7 ?_ _)); exact BK351.out) hb)
                  have n4_ := qg (q9 (by repeat (first | (with_reducible first | exact HB.out | apply q1 | apply q2 | apply q3 | refine q4 ?_ GE330.out | refine q4 ?_ GE344.out | refine q4 ?_ GE345.out | refine q4 ?_ GE351.out) | exact HB.out)) hb)
                  clear BK330; clear BK344; clear BK345; clear BK351; clear HB
                  have BK330 := n0_
                  have BK344 := n1_
                  have BK345 := n2_
                  have BK351 := n3_
                  have HB := n4_
                  clear n0_ n1_ n2_ n3_ n4_
                  (try clear hb)
                  (try clear hb2)
                  (try clear hk)
                  (try clear hi)
                  refine hK.out _ _ ⟨(qc BK344.out 0).trans rfl, (qc BK344.out 1).trans rfl, (qc BK344.out 2).trans rfl, (qc BK344.out 3).trans rfl, (qc BK345.out 0).trans rfl, (qc BK345.out 1).trans rfl⟩ (fun hHeld => ?_)
                  clear hK K
                  refine norm_ (a' := ?_) ?_ ?_
                  rotate_left; focus (show Act.put _ (some 162) _ = _; simp only [Act.put, p1, p2, p3, i64_w, i32_w]; rfl)
                  refine pure_ (i := 2) (N := some 163) (v := ?_) (a' := ?_) #[true, true, true, false, false, false, false, false, false, false, false, false, false, false, false, false, false, false, false, false, false, false] rfl rfl (any_of HT_.out (by kernel_rfl)) (fun _ _ _ h => h) (Or.inl ⟨by rfl, ?_⟩) ?_ ?_
                  rotate_left; focus (intro w'; go_simp; with_reducible rfl)
                  rotate_left; focus (simp only [Act.put, p1, p2, p3, i64_w, i32_w]; rfl)
                  refine pure_ (i := 3) (N := some 164) (v := ?_) (a' := ?_) #[true, true, true, true, false, false, false, false, false, false, false, false, false, false, false, false, false, false, false, false, false, false] rfl rfl (any_of HT_.out (by kernel_rfl)) (fun _ _ _ h => h) (Or.inl ⟨by rfl, ?_⟩) ?_ ?_
                  rotate_left; focus (intro w'; go_simp; with_reducible rfl)
                  rotate_left; focus (simp only [Act.put, p1, p2, p3, i64_w, i32_w]; rfl)
                  refine take_ (i := 4) (N := some 165) (v := ?_) (a' := ?_) #[true, true, true, true, true, false, false, false, false, false, false, false, false, false, false, false, false, false, false, false, false, false] rfl rfl (take_ofW HT_.out HW_.out (by kernel_rfl)) (fun _ _ _ h => h) (Or.inl ⟨by rfl, ?_⟩) hHeld ?_ ?_
                  rotate_left; focus (rintro w' ⟨s0, s1, s2, s3, s4, s5⟩; go_simp; with_reducible rfl)
                  rotate_left; focus (simp only [Act.put, p1, p2, p3, i64_w, i32_w]; rfl)
                  refine one_ (i := 5) (N := some 166) #[true, true, true, true, true, true, false, false, false, false, false, false, false, false, false, false, false, false, false, false, false, false] rfl rfl (one_of HT_.out (by kernel_rfl)) (by decide) (fun K hK => ?_)
                  refine goes_ Try.func34 (by kernel_rfl) rfl #[.agg #[.int .i64 t342, .int .i64 t343]] (by rfl) rfl rfl (by (try simp only [List.map_toArray, List.map_cons, List.map_nil]); first | done | rfl | (simp only [List.length_drop, List.length_take]; rfl)) ?_
                  with_reducible refine (impl_IsPlace.calls t342 t343 true _ A144.out).mono ?_
                  rintro e w152 ⟨rfl, hb⟩
                  refine ⟨_, rfl, ?_⟩
                  have n0_ := qg (q8 (g := gb330) (o := .cells #[.int .i64 t325, .int .i64 t326, .int .i64 t327, .int .i64 t328] 67 (0, 0)) (by (with_reducible repeat (first | refine q5 ?_ _ | refine q6 ?_ | refine q7 ?_ _)); exact BK330.out) hb)
                  have n1_ := qg (q8 (g := gb344) (o := .cells #[.int .i64 t338, .int .i64 t339, .int .i64 t340, .int .i64 t341] 67 (0, 0)) (by (with_reducible repeat (first | refine q5 ?_ _ | refine q6 ?_ | refine q7 ?_ _)); exact BK344.out) hb)
                  have n2_ := qg (q8 (g := gb345) (o := .cells #[.int .i64 t342, .int .i64 t343] 25 (0, 0)) (by (with_reducible repeat (first | refine q5 ?_ _ | refine q6 ?_ | refine q7 ?_ _)); exact BK345.out) hb)
                  have n3_ := qg (q8 (g := gb351) (o := .cells #[.int .i64 t346, .int .i64 t347, .int .i64 t348, .int .i64 t349] 67 (0, 0)) (by (with_reducible repeat (first | refine q5 ?_ _ | refine q6 ?_ | refine q7 ?_ _)); exact BK351.out) hb)
                  have n4_ := qg (q9 (by repeat (first | (with_reducible first | exact HB.out | apply q1 | apply q2 | apply q3 | refine q4 ?_ GE330.out | refine q4 ?_ GE344.out | refine q4 ?_ GE345.out | refine q4 ?_ GE351.out) | exact HB.out)) hb)
                  clear BK330; clear BK344; clear BK345; clear BK351; clear HB
                  have BK330 := n0_
                  have BK344 := n1_
                  have BK345 := n2_
                  have BK351 := n3_
                  have HB := n4_
                  clear n0_ n1_ n2_ n3_ n4_
                  (try clear hb)
                  (try clear hb2)
                  (try clear hk)
                  (try clear hi)
                  refine hK.out _ _ ⟨(qc BK344.out 0).trans rfl, (qc BK344.out 1).trans rfl, (qc BK344.out 2).trans rfl, (qc BK344.out 3).trans rfl, (qc BK345.out 0).trans rfl, (qc BK345.out 1).trans rfl⟩ (fun hHeld => ?_)
                  clear hK K
                  refine norm_ (a' := ?_) ?_ ?_
                  rotate_left; focus (show Act.put _ (some 166) _ = _; simp only [Act.put, p1, p2, p3, i64_w, i32_w]; rfl)
                  refine pure_ (i := 6) (N := some 167) (v := ?_) (a' := ?_) #[true, true, true, true, true, true, true, false, false, false, false, false, false, false, false, false, false, false, false, false, false, false] rfl rfl (any_of HT_.out (by kernel_rfl)) (fun _ _ _ h => h) (Or.inl ⟨by rfl, ?_⟩) ?_ ?_
                  rotate_left; focus (intro w'; go_simp; with_reducible rfl)
                  rotate_left; focus (simp only [Act.put, p1, p2, p3, i64_w, i32_w]; rfl)
                  refine pure_ (i := 7) (N := some 168) (v := ?_) (a' := ?_) #[true, true, true, true, true, true, true, true, false, false, false, false, false, false, false, false, false, false, false, false, false, false] rfl rfl (any_of HT_.out (by kernel_rfl)) (fun _ _ _ h => h) (Or.inl ⟨by rfl, ?_⟩) ?_ ?_
                  rotate_left; focus (intro w'; go_simp; with_reducible rfl)
                  rotate_left; focus (simp only [Act.put, p1, p2, p3, i64_w, i32_w]; rfl)
                  refine pure_ (i := 8) (N := some 169) (v := ?_) (a' := ?_) #[true, true, true, true, true, true, true, true, true, false, false, false, false, false, false, false, false, false, false, false, false, false] rfl rfl (any_of HT_.out (by kernel_rfl)) (fun _ _ _ h => h) (Or.inl ⟨by rfl, ?_⟩) ?_ ?_
                  rotate_left; focus (intro w'; go_simp; with_reducible rfl)
                  rotate_left; focus (simp only [Act.put, p1, p2, p3, i64_w, i32_w]; rfl)
                  refine pure_ (i := 10) (N := some 171) (v := ?_) (a' := ?_) #[true, true, true, true, true, true, true, true, true, false, true, false, false, false, false, false, false, false, false, false, false, false] rfl rfl (any_of HT_.out (by kernel_rfl)) (fun _ _ _ h => h) (Or.inl ⟨by rfl, ?_⟩) ?_ ?_
                  rotate_left; focus (intro w'; go_simp; with_reducible rfl)
                  rotate_left; focus (simp only [Act.put, p1, p2, p3, i64_w, i32_w]; rfl)
                  refine pure_ (i := 13) (N := some 174) (v := ?_) (a' := ?_) #[true, true, true, true, true, true, true, true, true, false, true, false, false, true, false, false, false, false, false, false, false, false] rfl rfl (any_of HT_.out (by kernel_rfl)) (fun _ _ _ h => h) (Or.inl ⟨by rfl, ?_⟩) ?_ ?_
                  rotate_left; focus (intro w'; go_simp; with_reducible rfl)
                  rotate_left; focus (simp only [Act.put, p1, p2, p3, i64_w, i32_w]; rfl)
                  refine take_ (i := 9) (N := some 170) (v := ?_) (a' := ?_) #[true, true, true, true, true, true, true, true, true, true, true, false, false, true, false, false, false, false, false, false, false, false] rfl rfl (take_ofW HT_.out HW_.out (by kernel_rfl)) (fun _ _ _ h => h) (Or.inl ⟨by rfl, ?_⟩) hHeld ?_ ?_
                  rotate_left; focus (rintro w' ⟨s0, s1, s2, s3, s4, s5⟩; go_simp; with_reducible rfl)
                  rotate_left; focus (simp only [Act.put, p1, p2, p3, i64_w, i32_w]; rfl)
                  refine take_ (i := 12) (N := some 173) (v := ?_) (a' := ?_) #[true, true, true, true, true, true, true, true, true, true, true, false, true, true, false, false, false, false, false, false, false, false] rfl rfl (take_ofW HT_.out HW_.out (by kernel_rfl)) (fun _ _ _ h => h) (Or.inl ⟨by rfl, ?_⟩) hHeld ?_ ?_
                  rotate_left; focus (rintro w' ⟨s0, s1, s2, s3, s4, s5⟩; go_simp; with_reducible rfl)
                  rotate_left; focus (simp only [Act.put, p1, p2, p3, i64_w, i32_w]; rfl)
                  refine take_ (i := 16) (N := some 177) (v := ?_) (a' := ?_) #[true, true, true, true, true, true, true, true, true, true, true, false, true, true, false, false, true, false, false, false, false, false] rfl rfl (take_ofW HT_.out HW_.out (by kernel_rfl)) (fun _ _ _ h => h) (Or.inl ⟨by rfl, ?_⟩) hHeld ?_ ?_
                  rotate_left; focus (rintro w' ⟨s0, s1, s2, s3, s4, s5⟩; go_simp; with_reducible rfl)
                  rotate_left; focus (simp only [Act.put, p1, p2, p3, i64_w, i32_w]; rfl)
                  refine take_ (i := 17) (N := some 178) (v := ?_) (a' := ?_) #[true, true, true, true, true, true, true, true, true, true, true, false, true, true, false, false, true, true, false, false, false, false] rfl rfl (take_ofW HT_.out HW_.out (by kernel_rfl)) (fun _ _ _ h => h) (Or.inl ⟨by rfl, ?_⟩) hHeld ?_ ?_
                  rotate_left; focus (rintro w' ⟨s0, s1, s2, s3, s4, s5⟩; go_simp; with_reducible rfl)
                  rotate_left; focus (simp only [Act.put, p1, p2, p3, i64_w, i32_w]; rfl)
                  refine one_ (i := 11) (N := some 172) #[true, true, true, true, true, true, true, true, true, true, true, true, true, true, false, false, true, true, false, false, false, false] rfl rfl (one_of HT_.out (by kernel_rfl)) (by decide) (fun K hK => ?_)
                  refine goes_ Try.func56 (by kernel_rfl) rfl #[.agg #[.int .i64 t338, .int .i64 t339, .int .i64 t340, .int .i64 t341], .int .i64 t350] (by rfl) rfl rfl (by (try simp only [List.map_toArray, List.map_cons, List.map_nil]); first | done | rfl | (simp only [List.length_drop, List.length_take]; rfl)) ?_
                  with_reducible refine (impl_TurnBox.calls kj82 t338 t339 t340 t341 t350 t356 t357 t358 t359 _ A146.out).mono ?_
                  rintro e w153 ⟨rfl, hb⟩
                  refine ⟨_, rfl, ?_⟩
                  have n0_ := qg (q8 (g := gb330) (o := .cells #[.int .i64 t325, .int .i64 t326, .int .i64 t327, .int .i64 t328] 67 (0, 0)) (by (with_reducible repeat (first | refine q5 ?_ _ | refine q6 ?_ | refine q7 ?_ _)); exact BK330.out) hb)
                  have n1_ := qg (q8 (g := gb344) (o := .cells #[.int .i64 t338, .int .i64 t339, .int .i64 t340, .int .i64 t341] 67 (0, 0)) (by (with_reducible repeat (first | refine q5 ?_ _ | refine q6 ?_ | refine q7 ?_ _)); exact BK344.out) hb)
                  have n2_ := qg (q8 (g := gb345) (o := .cells #[.int .i64 t342, .int .i64 t343] 25 (0, 0)) (by (with_reducible repeat (first | refine q5 ?_ _ | refine q6 ?_ | refine q7 ?_ _)); exact BK345.out) hb)
                  have n3_ := qg (q8 (g := gb351) (o := .cells #[.int .i64 t346, .int .i64 t347, .int .i64 t348, .int .i64 t349] 67 (0, 0)) (by (with_reducible repeat (first | refine q5 ?_ _ | refine q6 ?_ | refine q7 ?_ _)); exact BK351.out) hb)
                  have n4_ := qg (q9 (by repeat (first | (with_reducible first | exact HB.out | apply q1 | apply q2 | apply q3 | refine q4 ?_ GE330.out | refine q4 ?_ GE344.out | refine q4 ?_ GE345.out | refine q4 ?_ GE351.out) | exact HB.out)) hb)
                  clear BK330; clear BK344; clear BK345; clear BK351; clear HB
                  have BK330 := n0_
                  have BK344 := n1_
                  have BK345 := n2_
                  have BK351 := n3_
                  have HB := n4_
                  clear n0_ n1_ n2_ n3_ n4_
                  (try clear hb)
                  (try clear hb2)
                  (try clear hk)
                  (try clear hi)
                  refine hK.out _ _ ⟨(qc BK344.out 0).trans rfl, (qc BK344.out 1).trans rfl, (qc BK344.out 2).trans rfl, (qc BK344.out 3).trans rfl, (qc BK345.out 0).trans rfl, (qc BK345.out 1).trans rfl⟩ (fun hHeld => ?_)
                  clear hK K
                  refine norm_ (a' := ?_) ?_ ?_
                  rotate_left; focus (show Act.put _ (some 172) _ = _; simp only [Act.put, p1, p2, p3, i64_w, i32_w]; rfl)
                  refine one_ (i := 14) (N := some 175) #[true, true, true, true, true, true, true, true, true, true, true, true, true, true, true, false, true, true, false, false, false, false] rfl rfl (one_of HT_.out (by kernel_rfl)) (by decide) (fun K hK => ?_)
                  refine goes_ Try.func36 (by kernel_rfl) rfl #[.agg #[.int .i64 t342, .int .i64 t343], .int .i64 t350] (by rfl) rfl rfl (by (try simp only [List.map_toArray, List.map_cons, List.map_nil]); first | done | rfl | (simp only [List.length_drop, List.length_take]; rfl)) ?_
                  with_reducible refine (impl_TurnPlace.calls kj82 t342 t343 t350 t360 t361 _ A147.out).mono ?_
                  rintro e w154 ⟨rfl, hb⟩
                  refine ⟨_, rfl, ?_⟩
                  have n0_ := qg (q8 (g := gb330) (o := .cells #[.int .i64 t325, .int .i64 t326, .int .i64 t327, .int .i64 t328] 67 (0, 0)) (by (with_reducible repeat (first | refine q5 ?_ _ | refine q6 ?_ | refine q7 ?_ _)); exact BK330.out) hb)
                  have n1_ := qg (q8 (g := gb344) (o := .cells #[.int .i64 t338, .int .i64 t339, .int .i64 t340, .int .i64 t341] 67 (0, 0)) (by (with_reducible repeat (first | refine q5 ?_ _ | refine q6 ?_ | refine q7 ?_ _)); exact BK344.out) hb)
                  have n2_ := qg (q8 (g := gb345) (o := .cells #[.int .i64 t342, .int .i64 t343] 25 (0, 0)) (by (with_reducible repeat (first | refine q5 ?_ _ | refine q6 ?_ | refine q7 ?_ _)); exact BK345.out) hb)
                  have n3_ := qg (q8 (g := gb351) (o := .cells #[.int .i64 t346, .int .i64 t347, .int .i64 t348, .int .i64 t349] 67 (0, 0)) (by (with_reducible repeat (first | refine q5 ?_ _ | refine q6 ?_ | refine q7 ?_ _)); exact BK351.out) hb)
                  have n4_ := qg (q9 (by repeat (first | (with_reducible first | exact HB.out | apply q1 | apply q2 | apply q3 | refine q4 ?_ GE330.out | refine q4 ?_ GE344.out | refine q4 ?_ GE345.out | refine q4 ?_ GE351.out) | exact HB.out)) hb)
                  clear BK330; clear BK344; clear BK345; clear BK351; clear HB
                  have BK330 := n0_
                  have BK344 := n1_
                  have BK345 := n2_
                  have BK351 := n3_
                  have HB := n4_
                  clear n0_ n1_ n2_ n3_ n4_
                  (try clear hb)
                  (try clear hb2)
                  (try clear hk)
                  (try clear hi)
                  refine hK.out _ _ ⟨(qc BK344.out 0).trans rfl, (qc BK344.out 1).trans rfl, (qc BK344.out 2).trans rfl, (qc BK344.out 3).trans rfl, (qc BK345.out 0).trans rfl, (qc BK345.out 1).trans rfl⟩ (fun hHeld => ?_)
                  clear hK K
                  refine norm_ (a' := ?_) ?_ ?_
                  rotate_left; focus (show Act.put _ (some 175) _ = _; simp only [Act.put, p1, p2, p3, i64_w, i32_w]; rfl)
                  refine one_ (i := 15) (N := some 176) #[true, true, true, true, true, true, true, true, true, true, true, true, true, true, true, true, true, true, false, false, false, false] rfl rfl (one_of HT_.out (by kernel_rfl)) (by decide) (fun K hK => ?_)
                  refine goes_ Try.func51 (by kernel_rfl) rfl #[.agg #[.int .i64 t356, .int .i64 t357, .int .i64 t358, .int .i64 t359], .agg #[.int .i64 t360, .int .i64 t361]] (by rfl) rfl rfl (by (try simp only [List.map_toArray, List.map_cons, List.map_nil]); first | done | rfl | (simp only [List.length_drop, List.length_take]; rfl)) ?_
                  with_reducible refine (impl_InBox.calls t356 t357 t358 t359 t360 t361 t362 _ A148.out).mono ?_
                  rintro e w155 ⟨rfl, hb⟩
                  refine ⟨_, rfl, ?_⟩
                  have n0_ := qg (q8 (g := gb330) (o := .cells #[.int .i64 t325, .int .i64 t326, .int .i64 t327, .int .i64 t328] 67 (0, 0)) (by (with_reducible repeat (first | refine q5 ?_ _ | refine q6 ?_ | refine q7 ?_ _)); exact BK330.out) hb)
                  have n1_ := qg (q8 (g := gb344) (o := .cells #[.int .i64 t338, .int .i64 t339, .int .i64 t340, .int .i64 t341] 67 (0, 0)) (by (with_reducible repeat (first | refine q5 ?_ _ | refine q6 ?_ | refine q7 ?_ _)); exact BK344.out) hb)
                  have n2_ := qg (q8 (g := gb345) (o := .cells #[.int .i64 t342, .int .i64 t343] 25 (0, 0)) (by (with_reducible repeat (first | refine q5 ?_ _ | refine q6 ?_ | refine q7 ?_ _)); exact BK345.out) hb)
                  have n3_ := qg (q8 (g := gb351) (o := .cells #[.int .i64 t346, .int .i64 t347, .int .i64 t348, .int .i64 t349] 67 (0, 0)) (by (with_reducible repeat (first | refine q5 ?_ _ | refine q6 ?_ | refine q7 ?_ _)); exact BK351.out) hb)
                  have n4_ := qg (q9 (by repeat (first | (with_reducible first | exact HB.out | apply q1 | apply q2 | apply q3 | refine q4 ?_ GE330.out | refine q4 ?_ GE344.out | refine q4 ?_ GE345.out | refine q4 ?_ GE351.out) | exact HB.out)) hb)
                  clear BK330; clear BK344; clear BK345; clear BK351; clear HB
                  have BK330 := n0_
                  have BK344 := n1_
                  have BK345 := n2_
                  have BK351 := n3_
                  have HB := n4_
                  clear n0_ n1_ n2_ n3_ n4_
                  (try clear hb)
                  (try clear hb2)
                  (try clear hk)
                  (try clear hi)
                  refine hK.out _ _ ⟨(qc BK344.out 0).trans rfl, (qc BK344.out 1).trans rfl, (qc BK344.out 2).trans rfl, (qc BK344.out 3).trans rfl, (qc BK345.out 0).trans rfl, (qc BK345.out 1).trans rfl⟩ (fun hHeld => ?_)
                  clear hK K
                  refine norm_ (a' := ?_) ?_ ?_
                  rotate_left; focus (show Act.put _ (some 176) _ = _; simp only [Act.put, p1, p2, p3, i64_w, i32_w]; rfl)
                  refine one_ (i := 18) (N := some 179) #[true, true, true, true, true, true, true, true, true, true, true, true, true, true, true, true, true, true, true, false, false, false] rfl rfl (one_of HT_.out (by kernel_rfl)) (by decide) (fun K hK => ?_)
                  refine goes_ Try.func51 (by kernel_rfl) rfl #[.agg #[.int .i64 t338, .int .i64 t339, .int .i64 t340, .int .i64 t341], .agg #[.int .i64 t342, .int .i64 t343]] (by rfl) rfl rfl (by (try simp only [List.map_toArray, List.map_cons, List.map_nil]); first | done | rfl | (simp only [List.length_drop, List.length_take]; rfl)) ?_
                  with_reducible refine (impl_InBox.calls t338 t339 t340 t341 t342 t343 t363 _ A149.out).mono ?_
                  rintro e w156 ⟨rfl, hb⟩
                  refine ⟨_, rfl, ?_⟩
                  have n0_ := qg (q8 (g := gb330) (o := .cells #[.int .i64 t325, .int .i64 t326, .int .i64 t327, .int .i64 t328] 67 (0, 0)) (by (with_reducible repeat (first | refine q5 ?_ _ | refine q6 ?_ | refine q7 ?_ _)); exact BK330.out) hb)
                  have n1_ := qg (q8 (g := gb344) (o := .cells #[.int .i64 t338, .int .i64 t339, .int .i64 t340, .int .i64 t341] 67 (0, 0)) (by (with_reducible repeat (first | refine q5 ?_ _ | refine q6 ?_ | refine q7 ?_ _)); exact BK344.out) hb)
                  have n2_ := qg (q8 (g := gb345) (o := .cells #[.int .i64 t342, .int .i64 t343] 25 (0, 0)) (by (with_reducible repeat (first | refine q5 ?_ _ | refine q6 ?_ | refine q7 ?_ _)); exact BK345.out) hb)
                  have n3_ := qg (q8 (g := gb351) (o := .cells #[.int .i64 t346, .int .i64 t347, .int .i64 t348, .int .i64 t349] 67 (0, 0)) (by (with_reducible repeat (first | refine q5 ?_ _ | refine q6 ?_ | refine q7 ?_ _)); exact BK351.out) hb)
                  have n4_ := qg (q9 (by repeat (first | (with_reducible first | exact HB.out | apply q1 | apply q2 | apply q3 | refine q4 ?_ GE330.out | refine q4 ?_ GE344.out | refine q4 ?_ GE345.out | refine q4 ?_ GE351.out) | exact HB.out)) hb)
                  clear BK330; clear BK344; clear BK345; clear BK351; clear HB
                  have BK330 := n0_
                  have BK344 := n1_
                  have BK345 := n2_
                  have BK351 := n3_
                  have HB := n4_
                  clear n0_ n1_ n2_ n3_ n4_
                  (try clear hb)
                  (try clear hb2)
                  (try clear hk)
                  (try clear hi)
                  refine hK.out _ _ ⟨(qc BK344.out 0).trans rfl, (qc BK344.out 1).trans rfl, (qc BK344.out 2).trans rfl, (qc BK344.out 3).trans rfl, (qc BK345.out 0).trans rfl, (qc BK345.out 1).trans rfl⟩ (fun hHeld => ?_)
                  clear hK K
                  refine norm_ (a' := ?_) ?_ ?_
                  rotate_left; focus (show Act.put _ (some 179) _ = _; simp only [Act.put, p1, p2, p3, i64_w, i32_w]; rfl)
                  refine pure_ (i := 19) (N := some 180) (v := ?_) (a' := ?_) #[true, true, true, true, true, true, true, true, true, true, true, true, true, true, true, true, true, true, true, true, false, false] rfl rfl (any_of HT_.out (by kernel_rfl)) (fun _ _ _ h => h) (Or.inl ⟨by rfl, ?_⟩) ?_ ?_
                  rotate_left; focus (intro w'; go_simp; with_reducible rfl)
                  rotate_left; focus (simp only [Act.put, p1, p2, p3, i64_w, i32_w]; rfl)
                  refine pure_ (i := 20) (N := some 181) (v := ?_) (a' := ?_) #[true, true, true, true, true, true, true, true, true, true, true, true, true, true, true, true, true, true, true, true, true, false] rfl rfl (any_of HT_.out (by kernel_rfl)) (fun _ _ _ h => h) (Or.inl ⟨by rfl, ?_⟩) ?_ ?_
                  rotate_left; focus (intro w'; go_simp; with_reducible rfl)
                  rotate_left; focus (simp only [Act.put, p1, p2, p3, i64_w, i32_w]; rfl)
                  refine pure_ (i := 21) (N := some 2) (v := ?_) (a' := ?_) #[true, true, true, true, true, true, true, true, true, true, true, true, true, true, true, true, true, true, true, true, true, true] rfl rfl (any_of HT_.out (by kernel_rfl)) (fun _ _ _ h => h) (Or.inl ⟨by rfl, ?_⟩) ?_ ?_
                  rotate_left; focus (intro w'; go_simp; with_reducible rfl)
                  rotate_left; focus (simp only [Act.put, p1, p2, p3, i64_w, i32_w]; rfl)
                  refine done_ (done_of HT_.out (by kernel_rfl)) ?_
                  try go_wp2
                  go_meet
                  case rel => exact ⟨_, ((t362 == t363)), (by first | rfl | (simp; done) | (simp [*]; done)), H', ⟨by have := HK1.out; have := HK2.out; have := HJ18.out; have := HJ82.out; first | omega | exact Nat.le_refl _⟩, ⟨by (with_reducible repeat (first | refine q5 ?_ _ | refine q6 ?_ | refine q7 ?_ _)); exact BK330.out⟩, ⟨by (with_reducible repeat (first | refine q5 ?_ _ | refine q6 ?_ | refine q7 ?_ _)); exact BK344.out⟩, ⟨by (with_reducible repeat (first | refine q5 ?_ _ | refine q6 ?_ | refine q7 ?_ _)); exact BK345.out⟩, ⟨by (with_reducible repeat (first | refine q5 ?_ _ | refine q6 ?_ | refine q7 ?_ _)); exact BK351.out⟩, ⟨by repeat (first | (with_reducible first | exact HB.out | apply q1 | apply q2 | apply q3 | refine q4 ?_ GE330.out | refine q4 ?_ GE344.out | refine q4 ?_ GE345.out | refine q4 ?_ GE351.out) | exact HB.out)⟩⟩
                 ·replace c145 := Bool.eq_false_iff.mpr c145
                  subst c145
                  have H1 : (laws_FnBoxes.j4 kj82 true) = some r := by rw [if_neg (show ¬ (false = true) by decide)] at H; exact H
                  clear H
                  have H := H1
                  clear H1
                  have H' := qg H
                  clear H
                  try go_wp2
                  have n0_ := qg (q6 BK330.out)
                  have n1_ := qg (q6 BK344.out)
                  have n2_ := qg (q6 BK345.out)
                  have n3_ := qg (q6 BK351.out)
                  have n4_ := qg (q3 HB.out)
                  clear BK330; clear BK344; clear BK345; clear BK351; clear HB
                  have BK330 := n0_
                  have BK344 := n1_
                  have BK345 := n2_
                  have BK351 := n3_
                  have HB := n4_
                  clear n0_ n1_ n2_ n3_ n4_
                  refine start_ (n := 22) (S := fun w' => w'.cell? ⟨gb344, 0, none⟩ = some (.int .i64 t338) ∧ w'.cell? ⟨gb344, 1, none⟩ = some (.int .i64 t339) ∧ w'.cell? ⟨gb344, 2, none⟩ = some (.int .i64 t340) ∧ w'.cell? ⟨gb344, 3, none⟩ = some (.int .i64 t341) ∧ w'.cell? ⟨gb345, 0, none⟩ = some (.int .i64 t342) ∧ w'.cell? ⟨gb345, 1, none⟩ = some (.int .i64 t343)) (ds := []) #[false, false, false, false, false, false, false, false, false, false, false, false, false, false, false, false, false, false, false, false, false, false] (by kernel_rfl) rfl rfl ⟨(qc BK344.out 0).trans rfl, (qc BK344.out 1).trans rfl, (qc BK344.out 2).trans rfl, (qc BK344.out 3).trans rfl, (qc BK345.out 0).trans rfl, (qc BK345.out 1).trans rfl⟩ (fun hHeld => ?_); refine with_tabW laws_FnBoxes.tab28 laws_FnBoxes.bits28 (fun HT_ HW_ => ?_)
                  generalize w141.drew = w157 at BK330 BK344 BK345 BK351 HB hHeld ⊢
                  refine take_ (i := 0) (N := some 161) (v := ?_) (a' := ?_) #[true, false, false, false, false, false, false, false, false, false, false, false, false, false, false, false, false, false, false, false, false, false] rfl rfl (take_ofW HT_.out HW_.out (by kernel_rfl)) (fun _ _ _ h => h) (Or.inl ⟨by rfl, ?_⟩) hHeld ?_ ?_
                  rotate_left; focus (rintro w' ⟨s0, s1, s2, s3, s4, s5⟩; go_simp; with_reducible rfl)
                  rotate_left; focus (simp only [Act.put, p1, p2, p3, i64_w, i32_w]; rfl)
                  refine one_ (i := 1) (N := some 162) #[true, true, false, false, false, false, false, false, false, false, false, false, false, false, false, false, false, false, false, false, false, false] rfl rfl (one_of HT_.out (by kernel_rfl)) (by decide) (fun K hK => ?_)
                  refine goes_ Try.func54 (by kernel_rfl) rfl #[.agg #[.int .i64 t338, .int .i64 t339, .int .i64 t340, .int .i64 t341]] (by rfl) rfl rfl (by (try simp only [List.map_toArray, List.map_cons, List.map_nil]); first | done | rfl | (simp only [List.length_drop, List.length_take]; rfl)) ?_
                  with_reducible refine (impl_IsBox.calls t338 t339 t340 t341 true _ A142.out).mono ?_
                  rintro e w158 ⟨rfl, hb⟩
                  refine ⟨_, rfl, ?_⟩
                  have n0_ := qg (q8 (g := gb330) (o := .cells #[.int .i64 t325, .int .i64 t326, .int .i64 t327, .int .i64 t328] 67 (0, 0)) (by (with_reducible repeat (first | refine q5 ?_ _ | refine q6 ?_ | refine q7 ?_ _)); exact BK330.out) hb)
                  have n1_ := qg (q8 (g := gb344) (o := .cells #[.int .i64 t338, .int .i64 t339, .int .i64 t340, .int .i64 t341] 67 (0, 0)) (by (with_reducible repeat (first | refine q5 ?_ _ | refine q6 ?_ | refine q7 ?_ _)); exact BK344.out) hb)
                  have n2_ := qg (q8 (g := gb345) (o := .cells #[.int .i64 t342, .int .i64 t343] 25 (0, 0)) (by (with_reducible repeat (first | refine q5 ?_ _ | refine q6 ?_ | refine q7 ?_ _)); exact BK345.out) hb)
                  have n3_ := qg (q8 (g := gb351) (o := .cells #[.int .i64 t346, .int .i64 t347, .int .i64 t348, .int .i64 t349] 67 (0, 0)) (by (with_reducible repeat (first | refine q5 ?_ _ | refine q6 ?_ | refine q7 ?_ _)); exact BK351.out) hb)
                  have n4_ := qg (q9 (by repeat (first | (with_reducible first | exact HB.out | apply q1 | apply q2 | apply q3 | refine q4 ?_ GE330.out | refine q4 ?_ GE344.out | refine q4 ?_ GE345.out | refine q4 ?_ GE351.out) | exact HB.out)) hb)
                  clear BK330; clear BK344; clear BK345; clear BK351; clear HB
                  have BK330 := n0_
                  have BK344 := n1_
                  have BK345 := n2_
                  have BK351 := n3_
                  have HB := n4_
                  clear n0_ n1_ n2_ n3_ n4_
                  (try clear hb)
                  (try clear hb2)
                  (try clear hk)
                  (try clear hi)
                  refine hK.out _ _ ⟨(qc BK344.out 0).trans rfl, (qc BK344.out 1).trans rfl, (qc BK344.out 2).trans rfl, (qc BK344.out 3).trans rfl, (qc BK345.out 0).trans rfl, (qc BK345.out 1).trans rfl⟩ (fun hHeld => ?_)
                  clear hK K
                  refine norm_ (a' := ?_) ?_ ?_
                  rotate_left; focus (show Act.put _ (some 162) _ = _; simp only [Act.put, p1, p2, p3, i64_w, i32_w]; rfl)
                  refine pure_ (i := 2) (N := some 163) (v := ?_) (a' := ?_) #[true, true, true, false, false, false, false, false, false, false, false, false, false, false, false, false, false, false, false, false, false, false] rfl rfl (any_of HT_.out (by kernel_rfl)) (fun _ _ _ h => h) (Or.inl ⟨by rfl, ?_⟩) ?_ ?_
                  rotate_left; focus (intro w'; go_simp; with_reducible rfl)
                  rotate_left; focus (simp only [Act.put, p1, p2, p3, i64_w, i32_w]; rfl)
                  refine pure_ (i := 3) (N := some 164) (v := ?_) (a' := ?_) #[true, true, true, true, false, false, false, false, false, false, false, false, false, false, false, false, false, false, false, false, false, false] rfl rfl (any_of HT_.out (by kernel_rfl)) (fun _ _ _ h => h) (Or.inl ⟨by rfl, ?_⟩) ?_ ?_
                  rotate_left; focus (intro w'; go_simp; with_reducible rfl)
                  rotate_left; focus (simp only [Act.put, p1, p2, p3, i64_w, i32_w]; rfl)
                  refine take_ (i := 4) (N := some 165) (v := ?_) (a' := ?_) #[true, true, true, true, true, false, false, false, false, false, false, false, false, false, false, false, false, false, false, false, false, false] rfl rfl (take_ofW HT_.out HW_.out (by kernel_rfl)) (fun _ _ _ h => h) (Or.inl ⟨by rfl, ?_⟩) hHeld ?_ ?_
                  rotate_left; focus (rintro w' ⟨s0, s1, s2, s3, s4, s5⟩; go_simp; with_reducible rfl)
                  rotate_left; focus (simp only [Act.put, p1, p2, p3, i64_w, i32_w]; rfl)
                  refine one_ (i := 5) (N := some 166) #[true, true, true, true, true, true, false, false, false, false, false, false, false, false, false, false, false, false, false, false, false, false] rfl rfl (one_of HT_.out (by kernel_rfl)) (by decide) (fun K hK => ?_)
                  refine goes_ Try.func34 (by kernel_rfl) rfl #[.agg #[.int .i64 t342, .int .i64 t343]] (by rfl) rfl rfl (by (try simp only [List.map_toArray, List.map_cons, List.map_nil]); first | done | rfl | (simp only [List.length_drop, List.length_take]; rfl)) ?_
                  with_reducible refine (impl_IsPlace.calls t342 t343 false _ A144.out).mono ?_
                  rintro e w159 ⟨rfl, hb⟩
                  refine ⟨_, rfl, ?_⟩
                  have n0_ := qg (q8 (g := gb330) (o := .cells #[.int .i64 t325, .int .i64 t326, .int .i64 t327, .int .i64 t328] 67 (0, 0)) (by (with_reducible repeat (first | refine q5 ?_ _ | refine q6 ?_ | refine q7 ?_ _)); exact BK330.out) hb)
                  have n1_ := qg (q8 (g := gb344) (o := .cells #[.int .i64 t338, .int .i64 t339, .int .i64 t340, .int .i64 t341] 67 (0, 0)) (by (with_reducible repeat (first | refine q5 ?_ _ | refine q6 ?_ | refine q7 ?_ _)); exact BK344.out) hb)
                  have n2_ := qg (q8 (g := gb345) (o := .cells #[.int .i64 t342, .int .i64 t343] 25 (0, 0)) (by (with_reducible repeat (first | refine q5 ?_ _ | refine q6 ?_ | refine q7 ?_ _)); exact BK345.out) hb)
                  have n3_ := qg (q8 (g := gb351) (o := .cells #[.int .i64 t346, .int .i64 t347, .int .i64 t348, .int .i64 t349] 67 (0, 0)) (by (with_reducible repeat (first | refine q5 ?_ _ | refine q6 ?_ | refine q7 ?_ _)); exact BK351.out) hb)
                  have n4_ := qg (q9 (by repeat (first | (with_reducible first | exact HB.out | apply q1 | apply q2 | apply q3 | refine q4 ?_ GE330.out | refine q4 ?_ GE344.out | refine q4 ?_ GE345.out | refine q4 ?_ GE351.out) | exact HB.out)) hb)
                  clear BK330; clear BK344; clear BK345; clear BK351; clear HB
                  have BK330 := n0_
                  have BK344 := n1_
                  have BK345 := n2_
                  have BK351 := n3_
                  have HB := n4_
                  clear n0_ n1_ n2_ n3_ n4_
                  (try clear hb)
                  (try clear hb2)
                  (try clear hk)
                  (try clear hi)
                  refine hK.out _ _ ⟨(qc BK344.out 0).trans rfl, (qc BK344.out 1).trans rfl, (qc BK344.out 2).trans rfl, (qc BK344.out 3).trans rfl, (qc BK345.out 0).trans rfl, (qc BK345.out 1).trans rfl⟩ (fun hHeld => ?_)
                  clear hK K
                  refine norm_ (a' := ?_) ?_ ?_
                  rotate_left; focus (show Act.put _ (some 166) _ = _; simp only [Act.put, p1, p2, p3, i64_w, i32_w]; rfl)
                  refine pure_ (i := 6) (N := some 167) (v := ?_) (a' := ?_) #[true, true, true, true, true, true, true, false, false, false, false, false, false, false, false, false, false, false, false, false, false, false] rfl rfl (any_of HT_.out (by kernel_rfl)) (fun _ _ _ h => h) (Or.inl ⟨by rfl, ?_⟩) ?_ ?_
                  rotate_left; focus (intro w'; go_simp; with_reducible rfl)
                  rotate_left; focus (simp only [Act.put, p1, p2, p3, i64_w, i32_w]; rfl)
                  refine pure_ (i := 7) (N := some 168) (v := ?_) (a' := ?_) #[true, true, true, true, true, true, true, true, false, false, false, false, false, false, false, false, false, false, false, false, false, false] rfl rfl (any_of HT_.out (by kernel_rfl)) (fun _ _ _ h => h) (Or.inl ⟨by rfl, ?_⟩) ?_ ?_
                  rotate_left; focus (intro w'; go_simp; with_reducible rfl)
                  rotate_left; focus (simp only [Act.put, p1, p2, p3, i64_w, i32_w]; rfl)
                  refine pure_ (i := 8) (N := some 169) (v := ?_) (a' := ?_) #[true, true, true, true, true, true, true, true, true, false, false, false, false, false, false, false, false, false, false, false, false, false] rfl rfl (any_of HT_.out (by kernel_rfl)) (fun _ _ _ h => h) (Or.inl ⟨by rfl, ?_⟩) ?_ ?_
                  rotate_left; focus (intro w'; go_simp; with_reducible rfl)
                  rotate_left; focus (simp only [Act.put, p1, p2, p3, i64_w, i32_w]; rfl)
                  refine pure_ (i := 9) (N := some 170) (v := undef) (a' := ?_) #[true, true, true, true, true, true, true, true, true, true, false, false, false, false, false, false, false, false, false, false, false, false] rfl rfl (any_of HT_.out (by kernel_rfl)) (fun _ _ _ h => h) (Or.inr ⟨by rfl, rfl⟩) ?_ ?_
                  rotate_left; focus (simp only [Act.put, p1, p2, p3, i64_w, i32_w]; rfl)
                  refine pure_ (i := 10) (N := some 171) (v := undef) (a' := ?_) #[true, true, true, true, true, true, true, true, true, true, true, false, false, false, false, false, false, false, false, false, false, false] rfl rfl (any_of HT_.out (by kernel_rfl)) (fun _ _ _ h => h) (Or.inr ⟨by rfl, rfl⟩) ?_ ?_
                  rotate_left; focus (simp only [Act.put, p1, p2, p3, i64_w, i32_w]; rfl)
                  refine pure_ (i := 11) (N := some 172) (v := undef) (a' := ?_) #[true, true, true, true, true, true, true, true, true, true, true, true, false, false, false, false, false, false, false, false, false, false] rfl rfl (any_of HT_.out (by kernel_rfl)) (fun _ _ _ h => h) (Or.inr ⟨by rfl, rfl⟩) ?_ ?_
                  rotate_left; focus (simp only [Act.put, p1, p2, p3, i64_w, i32_w]; rfl)
                  refine pure_ (i := 12) (N := some 173) (v := undef) (a' := ?_) #[true, true, true, true, true, true, true, true, true, true, true, true, true, false, false, false, false, false, false, false, false, false] rfl rfl (any_of HT_.out (by kernel_rfl)) (fun _ _ _ h => h) (Or.inr ⟨by rfl, rfl⟩) ?_ ?_
                  rotate_left; focus (simp only [Act.put, p1, p2, p3, i64_w, i32_w]; rfl)
                  refine pure_ (i := 13) (N := some 174) (v := undef) (a' := ?_) #[true, true, true, true, true, true, true, true, true, true, true, true, true, true, false, false, false, false, false, false, false, false] rfl rfl (any_of HT_.out (by kernel_rfl)) (fun _ _ _ h => h) (Or.inr ⟨by rfl, rfl⟩) ?_ ?_
                  rotate_left; focus (simp only [Act.put, p1, p2, p3, i64_w, i32_w]; rfl)
                  refine pure_ (i := 14) (N := some 175) (v := undef) (a' := ?_) #[true, true, true, true, true, true, true, true, true, true, true, true, true, true, true, false, false, false, false, false, false, false] rfl rfl (any_of HT_.out (by kernel_rfl)) (fun _ _ _ h => h) (Or.inr ⟨by rfl, rfl⟩) ?_ ?_
                  rotate_left; focus (simp only [Act.put, p1, p2, p3, i64_w, i32_w]; rfl)
                  refine pure_ (i := 15) (N := some 176) (v := undef) (a' := ?_) #[true, true, true, true, true, true, true, true, true, true, true, true, true, true, true, true, false, false, false, false, false, false] rfl rfl (any_of HT_.out (by kernel_rfl)) (fun _ _ _ h => h) (Or.inr ⟨by rfl, rfl⟩) ?_ ?_
                  rotate_left; focus (simp only [Act.put, p1, p2, p3, i64_w, i32_w]; rfl)
                  refine pure_ (i := 16) (N := some 177) (v := undef) (a' := ?_) #[true, true, true, true, true, true, true, true, true, true, true, true, true, true, true, true, true, false, false, false, false, false] rfl rfl (any_of HT_.out (by kernel_rfl)) (fun _ _ _ h => h) (Or.inr ⟨by rfl, rfl⟩) ?_ ?_
                  rotate_left; focus (simp only [Act.put, p1, p2, p3, i64_w, i32_w]; rfl)
                  refine pure_ (i := 17) (N := some 178) (v := undef) (a' := ?_) #[true, true, true, true, true, true, true, true, true, true, true, true, true, true, true, true, true, true, false, false, false, false] rfl rfl (any_of HT_.out (by kernel_rfl)) (fun _ _ _ h => h) (Or.inr ⟨by rfl, rfl⟩) ?_ ?_
                  rotate_left; focus (simp only [Act.put, p1, p2, p3, i64_w, i32_w]; rfl)
                  refine pure_ (i := 18) (N := some 179) (v := undef) (a' := ?_) #[true, true, true, true, true, true, true, true, true, true, true, true, true, true, true, true, true, true, true, false, false, false] rfl rfl (any_of HT_.out (by kernel_rfl)) (fun _ _ _ h => h) (Or.inr ⟨by rfl, rfl⟩) ?_ ?_
                  rotate_left; focus (simp only [Act.put, p1, p2, p3, i64_w, i32_w]; rfl)
                  refine pure_ (i := 19) (N := some 180) (v := undef) (a' := ?_) #[true, true, true, true, true, true, true, true, true, true, true, true, true, true, true, true, true, true, true, true, false, false] rfl rfl (any_of HT_.out (by kernel_rfl)) (fun _ _ _ h => h) (Or.inr ⟨by rfl, rfl⟩) ?_ ?_
                  rotate_left; focus (simp only [Act.put, p1, p2, p3, i64_w, i32_w]; rfl)
                  refine pure_ (i := 20) (N := some 181) (v := ?_) (a' := ?_) #[true, true, true, true, true, true, true, true, true, true, true, true, true, true, true, true, true, true, true, true, true, false] rfl rfl (any_of HT_.out (by kernel_rfl)) (fun _ _ _ h => h) (Or.inl ⟨by rfl, ?_⟩) ?_ ?_
                  rotate_left; focus (intro w'; go_simp; with_reducible rfl)
                  rotate_left; focus (simp only [Act.put, p1, p2, p3, i64_w, i32_w]; rfl)
                  refine pure_ (i := 21) (N := some 2) (v := ?_) (a' := ?_) #[true, true, true, true, true, true, true, true, true, true, true, true, true, true, true, true, true, true, true, true, true, true] rfl rfl (any_of HT_.out (by kernel_rfl)) (fun _ _ _ h => h) (Or.inl ⟨by rfl, ?_⟩) ?_ ?_
                  rotate_left; focus (intro w'; go_simp; with_reducible rfl)
                  rotate_left; focus (simp only [Act.put, p1, p2, p3, i64_w, i32_w]; rfl)
                  refine done_ (done_of HT_.out (by kernel_rfl)) ?_
                  try go_wp2
                  go_meet
                  case rel => exact ⟨_, (true), (by first | rfl | (simp; done) | (simp [*]; done)), H', ⟨by have := HK1.out; have := HK2.out; have := HJ18.out; have := HJ82.out; first | omega | exact Nat.le_refl _⟩, ⟨by (with_reducible repeat (first | refine q5 ?_ _ | refine q6 ?_ | refine q7 ?_ _)); exact BK330.out⟩, ⟨by (with_reducible repeat (first | refine q5 ?_ _ | refine q6 ?_ | refine q7 ?_ _)); exact BK344.out⟩, ⟨by (with_reducible repeat (first | refine q5 ?_ _ | refine q6 ?_ | refine q7 ?_ _)); exact BK345.out⟩, ⟨by (with_reducible repeat (first | refine q5 ?_ _ | refine q6 ?_ | refine q7 ?_ _)); exact BK351.out⟩, ⟨by repeat (first | (with_reducible first | exact HB.out | apply q1 | apply q2 | apply q3 | refine q4 ?_ GE330.out | refine q4 ?_ GE344.out | refine q4 ?_ GE345.out | refine q4 ?_ GE351.out) | exact HB.out)⟩⟩
                ·replace c143 := Bool.eq_false_iff.mpr c143
                 subst c143
                 have H1 : (laws_FnBoxes.j4 kj82 true) = some r := by rw [if_neg (show ¬ (false = true) by decide)] at H; exact H
                 clear H
                 have H := H1
                 clear H1
                 have H' := qg H
                 clear H
                 try go_wp2
                 have n0_ := qg (q6 BK330.out)
                 have n1_ := qg (q6 BK344.out)
                 have n2_ := qg (q6 BK345.out)
                 have n3_ := qg (q6 BK351.out)
                 have n4_ := qg (q3 HB.out)
                 clear BK330; clear BK344; clear BK345; clear BK351; clear HB
                 have BK330 := n0_
                 have BK344 := n1_
                 have BK345 := n2_
                 have BK351 := n3_
                 have HB := n4_
                 clear n0_ n1_ n2_ n3_ n4_
                 refine start_ (n := 22) (S := fun w' => w'.cell? ⟨gb344, 0, none⟩ = some (.int .i64 t338) ∧ w'.cell? ⟨gb344, 1, none⟩ = some (.int .i64 t339) ∧ w'.cell? ⟨gb344, 2, none⟩ = some (.int .i64 t340) ∧ w'.cell? ⟨gb344, 3, none⟩ = some (.int .i64 t341)) (ds := []) #[false, false, false, false, false, false, false, false, false, false, false, false, false, false, false, false, false, false, false, false, false, false] (by kernel_rfl) rfl rfl ⟨(qc BK344.out 0).trans rfl, (qc BK344.out 1).trans rfl, (qc BK344.out 2).trans rfl, (qc BK344.out 3).trans rfl⟩ (fun hHeld => ?_); refine with_tabW laws_FnBoxes.tab28 laws_FnBoxes.bits28 (fun HT_ HW_ => ?_)
                 generalize w141.drew = w160 at BK330 BK344 BK345 BK351 HB hHeld ⊢
                 refine take_ (i := 0) (N := some 161) (v := ?_) (a' := ?_) #[true, false, false, false, false, false, false, false, false, false, false, false, false, false, false, false, false, false, false, false, false, false] rfl rfl (take_ofW HT_.out HW_.out (by kernel_rfl)) (fun _ _ _ h => h) (Or.inl ⟨by rfl, ?_⟩) hHeld ?_ ?_
                 rotate_left; focus (rintro w' ⟨s0, s1, s2, s3⟩; go_simp; with_reducible rfl)
                 rotate_left; focus (simp only [Act.put, p1, p2, p3, i64_w, i32_w]; rfl)
                 refine one_ (i := 1) (N := some 162) #[true, true, false, false, false, false, false, false, false, false, false, false, false, false, false, false, false, false, false, false, false, false] rfl rfl (one_of HT_.out (by kernel_rfl)) (by decide) (fun K hK => ?_)
                 refine goes_ Try.func54 (by kernel_rfl) rfl #[.agg #[.int .i64 t338, .int .i64 t339, .int .i64 t340, .int .i64 t341]] (by rfl) rfl rfl (by (try simp only [List.map_toArray, List.map_cons, List.map_nil]); first | done | rfl | (simp only [List.length_drop, List.length_take]; rfl)) ?_
                 with_reducible refine (impl_IsBox.calls t338 t339 t340 t341 false _ A142.out).mono ?_
                 rintro e w161 ⟨rfl, hb⟩
                 refine ⟨_, rfl, ?_⟩
                 have n0_ := qg (q8 (g := gb330) (o := .cells #[.int .i64 t325, .int .i64 t326, .int .i64 t327, .int .i64 t328] 67 (0, 0)) (by (with_reducible repeat (first | refine q5 ?_ _ | refine q6 ?_ | refine q7 ?_ _)); exact BK330.out) hb)
                 have n1_ := qg (q8 (g := gb344) (o := .cells #[.int .i64 t338, .int .i64 t339, .int .i64 t340, .int .i64 t341] 67 (0, 0)) (by (with_reducible repeat (first | refine q5 ?_ _ | refine q6 ?_ | refine q7 ?_ _)); exact BK344.out) hb)
                 have n2_ := qg (q8 (g := gb345) (o := .cells #[.int .i64 t342, .int .i64 t343] 25 (0, 0)) (by (with_reducible repeat (first | refine q5 ?_ _ | refine q6 ?_ | refine q7 ?_ _)); exact BK345.out) hb)
                 have n3_ := qg (q8 (g := gb351) (o := .cells #[.int .i64 t346, .int .i64 t347, .int .i64 t348, .int .i64 t349] 67 (0, 0)) (by (with_reducible repeat (first | refine q5 ?_ _ | refine q6 ?_ | refine q7 ?_ _)); exact BK351.out) hb)
                 have n4_ := qg (q9 (by repeat (first | (with_reducible first | exact HB.out | apply q1 | apply q2 | apply q3 | refine q4 ?_ GE330.out | refine q4 ?_ GE344.out | refine q4 ?_ GE345.out | refine q4 ?_ GE351.out) | exact HB.out)) hb)
                 clear BK330; clear BK344; clear BK345; clear BK351; clear HB
                 have BK330 := n0_
                 have BK344 := n1_
                 have BK345 := n2_
                 have BK351 := n3_
                 have HB := n4_
                 clear n0_ n1_ n2_ n3_ n4_
                 (try clear hb)
                 (try clear hb2)
                 (try clear hk)
                 (try clear hi)
                 refine hK.out _ _ ⟨(qc BK344.out 0).trans rfl, (qc BK344.out 1).trans rfl, (qc BK344.out 2).trans rfl, (qc BK344.out 3).trans rfl⟩ (fun hHeld => ?_)
                 clear hK K
                 refine norm_ (a' := ?_) ?_ ?_
                 rotate_left; focus (show Act.put _ (some 162) _ = _; simp only [Act.put, p1, p2, p3, i64_w, i32_w]; rfl)
                 refine pure_ (i := 2) (N := some 163) (v := ?_) (a' := ?_) #[true, true, true, false, false, false, false, false, false, false, false, false, false, false, false, false, false, false, false, false, false, false] rfl rfl (any_of HT_.out (by kernel_rfl)) (fun _ _ _ h => h) (Or.inl ⟨by rfl, ?_⟩) ?_ ?_
                 rotate_left; focus (intro w'; go_simp; with_reducible rfl)
                 rotate_left; focus (simp only [Act.put, p1, p2, p3, i64_w, i32_w]; rfl)
                 refine pure_ (i := 3) (N := some 164) (v := ?_) (a' := ?_) #[true, true, true, true, false, false, false, false, false, false, false, false, false, false, false, false, false, false, false, false, false, false] rfl rfl (any_of HT_.out (by kernel_rfl)) (fun _ _ _ h => h) (Or.inl ⟨by rfl, ?_⟩) ?_ ?_
                 rotate_left; focus (intro w'; go_simp; with_reducible rfl)
                 rotate_left; focus (simp only [Act.put, p1, p2, p3, i64_w, i32_w]; rfl)
                 refine pure_ (i := 4) (N := some 165) (v := undef) (a' := ?_) #[true, true, true, true, true, false, false, false, false, false, false, false, false, false, false, false, false, false, false, false, false, false] rfl rfl (any_of HT_.out (by kernel_rfl)) (fun _ _ _ h => h) (Or.inr ⟨by rfl, rfl⟩) ?_ ?_
                 rotate_left; focus (simp only [Act.put, p1, p2, p3, i64_w, i32_w]; rfl)
                 refine pure_ (i := 5) (N := some 166) (v := undef) (a' := ?_) #[true, true, true, true, true, true, false, false, false, false, false, false, false, false, false, false, false, false, false, false, false, false] rfl rfl (any_of HT_.out (by kernel_rfl)) (fun _ _ _ h => h) (Or.inr ⟨by rfl, rfl⟩) ?_ ?_
                 rotate_left; focus (simp only [Act.put, p1, p2, p3, i64_w, i32_w]; rfl)
                 refine pure_ (i := 6) (N := some 167) (v := undef) (a' := ?_) #[true, true, true, true, true, true, true, false, false, false, false, false, false, false, false, false, false, false, false, false, false, false] rfl rfl (any_of HT_.out (by kernel_rfl)) (fun _ _ _ h => h) (Or.inr ⟨by rfl, rfl⟩) ?_ ?_
                 rotate_left; focus (simp only [Act.put, p1, p2, p3, i64_w, i32_w]; rfl)
                 refine pure_ (i := 7) (N := some 168) (v := ?_) (a' := ?_) #[true, true, true, true, true, true, true, true, false, false, false, false, false, false, false, false, false, false, false, false, false, false] rfl rfl (any_of HT_.out (by kernel_rfl)) (fun _ _ _ h => h) (Or.inl ⟨by rfl, ?_⟩) ?_ ?_
                 rotate_left; focus (intro w'; go_simp; with_reducible rfl)
                 rotate_left; focus (simp only [Act.put, p1, p2, p3, i64_w, i32_w]; rfl)
                 refine pure_ (i := 8) (N := some 169) (v := ?_) (a' := ?_) #[true, true, true, true, true, true, true, true, true, false, false, false, false, false, false, false, false, false, false, false, false, false] rfl rfl (any_of HT_.out (by kernel_rfl)) (fun _ _ _ h => h) (Or.inl ⟨by rfl, ?_⟩) ?_ ?_
                 rotate_left; focus (intro w'; go_simp; with_reducible rfl)
                 rotate_left; focus (simp only [Act.put, p1, p2, p3, i64_w, i32_w]; rfl)
                 refine pure_ (i := 9) (N := some 170) (v := undef) (a' := ?_) #[true, true, true, true, true, true, true, true, true, true, false, false, false, false, false, false, false, false, false, false, false, false] rfl rfl (any_of HT_.out (by kernel_rfl)) (fun _ _ _ h => h) (Or.inr ⟨by rfl, rfl⟩) ?_ ?_
                 rotate_left; focus (simp only [Act.put, p1, p2, p3, i64_w, i32_w]; rfl)
                 refine pure_ (i := 10) (N := some 171) (v := undef) (a' := ?_) #[true, true, true, true, true, true, true, true, true, true, true, false, false, false, false, false, false, false, false, false, false, false] rfl rfl (any_of HT_.out (by kernel_rfl)) (fun _ _ _ h => h) (Or.inr ⟨by rfl, rfl⟩) ?_ ?_
                 rotate_left; focus (simp only [Act.put, p1, p2, p3, i64_w, i32_w]; rfl)
                 refine pure_ (i := 11) (N := some 172) (v := undef) (a' := ?_) #[true, true, true, true, true, true, true, true, true, true, true, true, false, false, false, false, false, false, false, false, false, false] rfl rfl (any_of HT_.out (by kernel_rfl)) (fun _ _ _ h => h) (Or.inr ⟨by rfl, rfl⟩) ?_ ?_
                 rotate_left; focus (simp only [Act.put, p1, p2, p3, i64_w, i32_w]; rfl)
                 refine pure_ (i := 12) (N := some 173) (v := undef) (a' := ?_) #[true, true, true, true, true, true, true, true, true, true, true, true, true, false, false, false, false, false, false, false, false, false] rfl rfl (any_of HT_.out (by kernel_rfl)) (fun _ _ _ h => h) (Or.inr ⟨by rfl, rfl⟩) ?_ ?_
                 rotate_left; focus (simp only [Act.put, p1, p2, p3, i64_w, i32_w]; rfl)
                 refine pure_ (i := 13) (N := some 174) (v := undef) (a' := ?_) #[true, true, true, true, true, true, true, true, true, true, true, true, true, true, false, false, false, false, false, false, false, false] rfl rfl (any_of HT_.out (by kernel_rfl)) (fun _ _ _ h => h) (Or.inr ⟨by rfl, rfl⟩) ?_ ?_
                 rotate_left; focus (simp only [Act.put, p1, p2, p3, i64_w, i32_w]; rfl)
                 refine pure_ (i := 14) (N := some 175) (v := undef) (a' := ?_) #[true, true, true, true, true, true, true, true, true, true, true, true, true, true, true, false, false, false, false, false, false, false] rfl rfl (any_of HT_.out (by kernel_rfl)) (fun _ _ _ h => h) (Or.inr ⟨by rfl, rfl⟩) ?_ ?_
                 rotate_left; focus (simp only [Act.put, p1, p2, p3, i64_w, i32_w]; rfl)
                 refine pure_ (i := 15) (N := some 176) (v := undef) (a' := ?_) #[true, true, true, true, true, true, true, true, true, true, true, true, true, true, true, true, false, false, false, false, false, false] rfl rfl (any_of HT_.out (by kernel_rfl)) (fun _ _ _ h => h) (Or.inr ⟨by rfl, rfl⟩) ?_ ?_
                 rotate_left; focus (simp only [Act.put, p1, p2, p3, i64_w, i32_w]; rfl)
                 refine pure_ (i := 16) (N := some 177) (v := undef) (a' := ?_) #[true, true, true, true, true, true, true, true, true, true, true, true, true, true, true, true, true, false, false, false, false, false] rfl rfl (any_of HT_.out (by kernel_rfl)) (fun _ _ _ h => h) (Or.inr ⟨by rfl, rfl⟩) ?_ ?_
                 rotate_left; focus (simp only [Act.put, p1, p2, p3, i64_w, i32_w]; rfl)
                 refine pure_ (i := 17) (N := some 178) (v := undef) (a' := ?_) #[true, true, true, true, true, true, true, true, true, true, true, true, true, true, true, true, true, true, false, false, false, false] rfl rfl (any_of HT_.out (by kernel_rfl)) (fun _ _ _ h => h) (Or.inr ⟨by rfl, rfl⟩) ?_ ?_
                 rotate_left; focus (simp only [Act.put, p1, p2, p3, i64_w, i32_w]; rfl)
                 refine pure_ (i := 18) (N := some 179) (v := undef) (a' := ?_) #[true, true, true, true, true, true, true, true, true, true, true, true, true, true, true, true, true, true, true, false, false, false] rfl rfl (any_of HT_.out (by kernel_rfl)) (fun _ _ _ h => h) (Or.inr ⟨by rfl, rfl⟩) ?_ ?_
                 rotate_left; focus (simp only [Act.put, p1, p2, p3, i64_w, i32_w]; rfl)
                 refine pure_ (i := 19) (N := some 180) (v := undef) (a' := ?_) #[true, true, true, true, true, true, true, true, true, true, true, true, true, true, true, true, true, true, true, true, false, false] rfl rfl (any_of HT_.out (by kernel_rfl)) (fun _ _ _ h => h) (Or.inr ⟨by rfl, rfl⟩) ?_ ?_
                 rotate_left; focus (simp only [Act.put, p1, p2, p3, i64_w, i32_w]; rfl)
                 refine pure_ (i := 20) (N := some 181) (v := ?_) (a' := ?_) #[true, true, true, true, true, true, true, true, true, true, true, true, true, true, true, true, true, true, true, true, true, false] rfl rfl (any_of HT_.out (by kernel_rfl)) (fun _ _ _ h => h) (Or.inl ⟨by rfl, ?_⟩) ?_ ?_
                 rotate_left; focus (intro w'; go_simp; with_reducible rfl)
                 rotate_left; focus (simp only [Act.put, p1, p2, p3, i64_w, i32_w]; rfl)
                 refine pure_ (i := 21) (N := some 2) (v := ?_) (a' := ?_) #[true, true, true, true, true, true, true, true, true, true, true, true, true, true, true, true, true, true, true, true, true, true] rfl rfl (any_of HT_.out (by kernel_rfl)) (fun _ _ _ h => h) (Or.inl ⟨by rfl, ?_⟩) ?_ ?_
                 rotate_left; focus (intro w'; go_simp; with_reducible rfl)
                 rotate_left; focus (simp only [Act.put, p1, p2, p3, i64_w, i32_w]; rfl)
                 refine done_ (done_of HT_.out (by kernel_rfl)) ?_
                 try go_wp2
                 go_meet
                 case rel => exact ⟨_, (true), (by first | rfl | (simp; done) | (simp [*]; done)), H', ⟨by have := HK1.out; have := HK2.out; have := HJ18.out; have := HJ82.out; first | omega | exact Nat.le_refl _⟩, ⟨by (with_reducible repeat (first | refine q5 ?_ _ | refine q6 ?_ | refine q7 ?_ _)); exact BK330.out⟩, ⟨by (with_reducible repeat (first | refine q5 ?_ _ | refine q6 ?_ | refine q7 ?_ _)); exact BK344.out⟩, ⟨by (with_reducible repeat (first | refine q5 ?_ _ | refine q6 ?_ | refine q7 ?_ _)); exact BK345.out⟩, ⟨by (with_reducible repeat (first | refine q5 ?_ _ | refine q6 ?_ | refine q7 ?_ _)); exact BK351.out⟩, ⟨by repeat (first | (with_reducible first | exact HB.out | apply q1 | apply q2 | apply q3 | refine q4 ?_ GE330.out | refine q4 ?_ GE344.out | refine q4 ?_ GE345.out | refine q4 ?_ GE351.out) | exact HB.out)⟩⟩
               case rest => as_aux_lemma =>
                clear HC123
                (try clear c1); (try clear p2); (try clear c3); (try clear c5); (try clear c14); (try clear c34); (try clear c36); (try clear c51); (try clear c54); (try clear c56); (try clear c143); (try clear c145)
                obtain ⟨kq, x2_122, rfl, HA, HJ122, BK330, BK344, BK345, BK351, HB⟩ := hcut
                cases kq with
                | zero => exact absurd HA.out (by simp [laws_FnBoxes.j4])
                | succ kj122 =>
                 have H := HA.out
                 clear HA
                 simp only [laws_FnBoxes.j4] at H
                 obtain rfl := Option.some.inj H
                 go_wp2
                 go_ret
                 exact ⟨by first | rfl | (simp [errW_none, errW_some] <;> rfl) | (simp [*, errW_none, errW_some] <;> rfl), by repeat (first | (with_reducible first | exact HB.out | apply q1 | apply q2 | apply q3 | refine q4 ?_ GE330.out | refine q4 ?_ GE344.out | refine q4 ?_ GE345.out | refine q4 ?_ GE351.out) | exact HB.out)⟩
/-- THE ONE PURE STATEMENT of laws_FnBoxes: yours. -/
def laws_FnBoxes.Pure : Prop := ∀ (l0 : List Int), l0.length ≤ maxLen → l0.length * 1 ≤ 140737488351232 → (∀ x ∈ l0, (Lit.int .u8 x).wf = true) → ∃ k, laws_FnBoxes.f k l0 = some true
theorem laws_FnBoxes.walk (P : laws_FnBoxes.Pure) (a0 : Option Addr) (len0 cap0 : Nat) (z0 : List Int) (w : World) (w0 : (a0 = none ∧ len0 = 0 ∧ cap0 = 0 ∧ z0 = []) ∨ ∃ x, a0 = some x ∧ len0 ≤ cap0 ∧ cap0 ≤ maxLen ∧ z0.length = cap0 ∧ (∀ i, i < z0.length → w.cell? (x.add i) = some (.int .u8 (z0.getD i 0))) ∧ ∀ n ∈ z0, (Lit.int .u8 n).wf = true) (y0 : len0 * 1 ≤ 140737488351232) :
    Calls Try.prog 12 #[.slice a0 len0 cap0] w fun e w' => e = .returned (.bool true) ∧ Below w.heap.size w w' := by
  obtain ⟨l0, rfl, hr0, hm0, hw0, hc0⟩ := ReadsInt.ofRowC w0
  obtain ⟨k, h⟩ := P l0 hm0 y0 hw0
  refine (laws_FnBoxes.calls k _ _ l0 true w (Kd.C_of_reads (d := (0 : Int)) (h1 := fun _ => rfl) hr0) hc0 h rfl).mono ?_
  rintro e w' ⟨rfl, hd⟩
  exact ⟨rfl, hd⟩

end Go.Proofs.Ytkioodeeadhdaaa.PFnBoxes
