/- The plain law behind FnNumbers: for every input that the row lets in, the printed function of the law answers true. No condition beyond the bounds that the statement names. -/
import Derived.Test.YtcnkfnkdcjpkoaaDoorIFnNumbersx2
namespace Go.Proofs.YtcnkfnkdcjpkoaaDoor.Pure
open Go.RowKit Go.Proofs.YtcnkfnkdcjpkoaaDoor.PFnNumbers Go.Proofs.YtcnkfnkdcjpkoaaDoorW.PrintWords Go.Proofs.YtcnkfnkdcjpkoaaDoorW.PrintLast
open Go.Proofs.YtcnkfnkdcjpkoaaDoorW.PrintMore
set_option linter.unusedVariables false
set_option linter.unusedSimpArgs false

theorem w64 {x : Int} (h0 : -9223372036854775808 ≤ x) (h1 : x ≤ 9223372036854775807) : wrap64 x = x := by unfold wrap64; omega
theorem wfb {a : Int} (h : (Lit.int .i64 a).wf = true) : -9223372036854775808 ≤ a ∧ a ≤ 9223372036854775807 := by
  simp [Lit.wf, IntKind.min, IntKind.max, IntKind.signed, IntKind.bits] at h
  omega
theorem Ev.succ' {α : Type} {g : Nat → Option α} {r : α} (h : Ev (fun k => g (k + 1)) r) : Ev g r := Ev.step (fun _ => rfl) h
theorem dec_congr {p q : Prop} [Decidable p] [Decidable q] (h : p ↔ q) : decide p = decide q := by simp [h]

theorem tmod_pos {a b : Int} (h : 0 ≤ a) : Int.tmod a b = a % b := Int.tmod_eq_emod_of_nonneg h
theorem tmod_neg' (a b : Int) : Int.tmod (-a) b = -(Int.tmod a b) := Int.neg_tmod a b
theorem tdiv_pos {a b : Int} (h : 0 ≤ a) : Int.tdiv a b = a / b := Int.tdiv_eq_ediv_of_nonneg h
theorem tmod4 (n : Int) : (Int.tmod n 4 < 0 → Int.tmod n 4 + 4 = n % 4) ∧ (¬ Int.tmod n 4 < 0 → Int.tmod n 4 = n % 4) ∧ -3 ≤ Int.tmod n 4 ∧ Int.tmod n 4 ≤ 3 := by
  rcases Int.le_total 0 n with h | h
  · rw [tmod_pos h]; omega
  · obtain ⟨m, rfl⟩ : ∃ m, n = -m := ⟨-n, by omega⟩
    rw [tmod_neg', tmod_pos (by omega)]; omega

def IsBytes (l : List Int) : Prop := ∀ x ∈ l, 0 ≤ x ∧ x ≤ 255
theorem IsBytes.append {a b : List Int} (ha : IsBytes a) (hb : IsBytes b) : IsBytes (a ++ b) := fun x hx => by
  rcases List.mem_append.1 hx with h | h
  · exact ha x h
  · exact hb x h
theorem IsBytes.cons {x : Int} {b : List Int} (hx : 0 ≤ x ∧ x ≤ 255) (hb : IsBytes b) : IsBytes (x :: b) := fun y hy => by
  rcases List.mem_cons.1 hy with h | h
  · rw [h]; exact hx
  · exact hb y h
theorem IsBytes.nil : IsBytes [] := fun x hx => by cases hx
theorem bytesOf_isBytes (s : ByteArray) : IsBytes (bytesOf s) := fun x hx => by
  unfold bytesOf at hx
  obtain ⟨b, _, rfl⟩ := List.mem_map.1 hx
  have := b.toNat_lt
  omega
theorem str_bytesOf (s : ByteArray) : strOfNums (bytesOf s) = s := by
  apply ByteArray.ext
  apply Array.ext'
  rw [strOfNums_data]
  unfold bytesOf
  rw [List.map_map]
  conv => rhs; rw [← List.map_id s.data.toList]
  apply List.map_congr_left
  intro b _
  simp
theorem bytesOf_str {l : List Int} (h : IsBytes l) : bytesOf (strOfNums l) = l := by
  unfold bytesOf
  rw [strOfNums_data, List.map_map]
  conv => rhs; rw [← List.map_id l]
  apply List.map_congr_left
  intro x hx
  have := h x hx
  simp
  omega
theorem str_append (a b : List Int) : strOfNums a ++ strOfNums b = strOfNums (a ++ b) := by
  apply ByteArray.ext
  rw [ByteArray.data_append]
  apply Array.ext'
  simp [strOfNums]
theorem str_inj {a b : List Int} (ha : IsBytes a) (hb : IsBytes b) (h : strOfNums a = strOfNums b) : a = b := by
  rw [← bytesOf_str ha, ← bytesOf_str hb, h]
theorem toList_inj {s t : ByteArray} : s.toList = t.toList ↔ s = t := by
  constructor
  · intro h
    rw [ByteArray.toList_eq, ByteArray.toList_eq] at h
    apply ByteArray.ext
    exact Array.ext' h
  · intro h; rw [h]
theorem str_eq {l : List Int} (h : IsBytes l) (s : ByteArray) : (strOfNums l).toList = s.toList ↔ l = bytesOf s := by
  rw [toList_inj]
  constructor
  · intro e; rw [← e, bytesOf_str h]
  · intro e; rw [e, str_bytesOf]
theorem bt_rd (s : ByteArray) (i : Int) : bt s i = (bytesOf s).getD i.toNat 0 := by
  rw [← rd_bytesOf]; rfl

def dig (n : Nat) : List Int := if h : n < 10 then [48 + (n : Int)] else dig (n / 10) ++ [48 + ((n % 10 : Nat) : Int)]
termination_by n
decreasing_by omega
theorem dig_lt {n : Nat} (h : n < 10) : dig n = [48 + (n : Int)] := by rw [dig, dif_pos h]
theorem dig_ge {n : Nat} (h : ¬ n < 10) : dig n = dig (n / 10) ++ [48 + ((n % 10 : Nat) : Int)] := by rw [dig, dif_neg h]
theorem dig_digits : ∀ n, ∀ x ∈ dig n, 48 ≤ x ∧ x ≤ 57 := by
  intro n
  induction n using Nat.strongRecOn with
  | _ n ih =>
    by_cases h : n < 10
    · rw [dig_lt h]; intro x hx; simp at hx; omega
    · rw [dig_ge h]; intro x hx
      rcases List.mem_append.1 hx with h1 | h1
      · exact ih _ (by omega) x h1
      · simp at h1; omega
theorem dig_bytes (n : Nat) : IsBytes (dig n) := fun x hx => by have := dig_digits n x hx; omega
theorem dig_len : ∀ n, 1 ≤ (dig n).length ∧ (dig n).length ≤ n + 1 := by
  intro n
  induction n using Nat.strongRecOn with
  | _ n ih =>
    by_cases h : n < 10
    · rw [dig_lt h]; simp
    · rw [dig_ge h]; have := ih (n / 10) (by omega); simp; omega
theorem dig1 {n : Nat} (h : n ≤ 9) : dig n = [48 + (n : Int)] := dig_lt (by omega)
theorem dig2 {n : Nat} (h : 10 ≤ n) (h2 : n ≤ 99) : dig n = [48 + ((n / 10 : Nat) : Int), 48 + ((n % 10 : Nat) : Int)] := by
  rw [dig_ge (by omega), dig_lt (by omega)]; rfl
theorem dig3 {n : Nat} (h : 100 ≤ n) (h2 : n ≤ 999) : dig n = [48 + ((n / 100 : Nat) : Int), 48 + ((n / 10 % 10 : Nat) : Int), 48 + ((n % 10 : Nat) : Int)] := by
  rw [dig_ge (by omega), dig2 (by omega) (by omega), Nat.div_div_eq_div_mul]; rfl

theorem sfmt_ev : ∀ n : Nat, n ≤ 9223372036854775807 → Ev (fun k => spec_FormatNumber.f k (n : Int)) (strOfNums (dig n)) := by
  intro n
  induction n using Nat.strongRecOn with
  | _ n ih =>
    intro hn
    have e1 : wrap64 (48 + Int.tmod (n : Int) 10) % 256 = 48 + ((n % 10 : Nat) : Int) := by
      rw [tmod_pos (by omega), w64 (by omega) (by omega)]; omega
    have e2 : wrap64 (Int.tdiv (n : Int) 10) = ((n / 10 : Nat) : Int) := by
      rw [tdiv_pos (by omega), w64 (by omega) (by omega)]; omega
    by_cases h : n < 10
    · refine Ev.step (f := fun _ => some (strOfNums (dig n))) (fun k => ?_) (Ev.now _)
      simp only [spec_FormatNumber.f, e1, e2]
      rw [if_neg (by omega), if_neg (by omega)]
      simp only [Option.bind_some]
      rw [if_neg (by omega), dig_lt h]
      have : ((n % 10 : Nat) : Int) = (n : Int) := by omega
      rw [this]
    · have hb : Ev (fun k => (spec_FormatNumber.f k ((n / 10 : Nat) : Int)).bind fun t => if t.size + (strOfNums [48 + ((n % 10 : Nat) : Int)]).size ≤ 9223372036854775807 then some (t ++ strOfNums [48 + ((n % 10 : Nat) : Int)]) else none) (strOfNums (dig n)) := by
        refine Ev.bind (ih (n / 10) (by omega) (by omega)) ?_
        have := dig_len (n / 10)
        simp only [strOfNums_size, List.length_singleton]
        rw [if_pos (by omega), str_append, ← dig_ge h]
        exact Ev.now _
      refine Ev.step (fun k => ?_) hb
      simp only [spec_FormatNumber.f, e1, e2]
      rw [if_neg (by omega), if_neg (by omega)]
      simp only [Option.bind_some]
      rw [if_pos (by omega)]

/-- What the reference answers once n is read. -/
def numFin (s : ByteArray) (n : Int) : Int × Bool := if s.size = 0 ∨ n < 0 ∨ n > 999 then (0, false) else if dig n.toNat = bytesOf s then (n, true) else (0, false)
/-- What both answer. -/
def numOf (s : ByteArray) : Int × Bool :=
  if s.size = 1 then (if 48 ≤ bt s 0 ∧ bt s 0 ≤ 57 then (bt s 0 - 48, true) else (0, false))
  else if s.size = 2 then (if (49 ≤ bt s 0 ∧ bt s 0 ≤ 57) ∧ (48 ≤ bt s 1 ∧ bt s 1 ≤ 57) then (10 * (bt s 0 - 48) + (bt s 1 - 48), true) else (0, false))
  else if s.size = 3 then (if (49 ≤ bt s 0 ∧ bt s 0 ≤ 57) ∧ (48 ≤ bt s 1 ∧ bt s 1 ≤ 57) ∧ (48 ≤ bt s 2 ∧ bt s 2 ≤ 57) then (100 * (bt s 0 - 48) + 10 * (bt s 1 - 48) + (bt s 2 - 48), true) else (0, false))
  else (0, false)
theorem bytes1 {s : ByteArray} (h : s.size = 1) : bytesOf s = [bt s 0] := by
  have hl := bytesOf_length s
  rw [h] at hl
  rw [bt_rd]
  match bytesOf s, hl with
  | [a], _ => rfl
theorem bytes2 {s : ByteArray} (h : s.size = 2) : bytesOf s = [bt s 0, bt s 1] := by
  have hl := bytesOf_length s
  rw [h] at hl
  rw [bt_rd, bt_rd]
  match bytesOf s, hl with
  | [a, b], _ => rfl
theorem bytes3 {s : ByteArray} (h : s.size = 3) : bytesOf s = [bt s 0, bt s 1, bt s 2] := by
  have hl := bytesOf_length s
  rw [h] at hl
  rw [bt_rd, bt_rd, bt_rd]
  match bytesOf s, hl with
  | [a, b, c], _ => rfl
theorem fin_of_len {s : ByteArray} (n : Int) (h : s.size ≠ 0) (h2 : 0 ≤ n → n ≤ 999 → (dig n.toNat).length ≠ s.size) : numFin s n = (0, false) := by
  unfold numFin
  split
  · rfl
  · rw [if_neg]
    intro e
    exact h2 (by omega) (by omega) (by rw [e, bytesOf_length])
theorem dig_len999 {n : Nat} (h : n ≤ 999) : (dig n).length = if n ≤ 9 then 1 else if n ≤ 99 then 2 else 3 := by
  by_cases h1 : n ≤ 9
  · rw [dig1 h1, if_pos h1]; rfl
  · by_cases h2 : n ≤ 99
    · rw [dig2 (by omega) h2, if_neg h1, if_pos h2]; rfl
    · rw [dig3 (by omega) h, if_neg h1, if_neg h2]; rfl

theorem fin1 {s : ByteArray} (h : s.size = 1) : numFin s (10 * 0 + bt s 0 - 48) = numOf s := by
  have hb := bt_range s 0
  unfold numOf
  rw [if_pos h]
  by_cases hd : 48 ≤ bt s 0 ∧ bt s 0 ≤ 57
  · rw [if_pos hd]
    unfold numFin
    rw [if_neg (by omega), dig1 (by omega), bytes1 h, if_pos (by simp; omega)]
    simp
  · rw [if_neg hd]
    apply fin_of_len _ (by omega)
    intro h1 h2
    rw [dig_len999 (by omega), if_neg (by omega)]
    split <;> omega
theorem fin2 {s : ByteArray} (h : s.size = 2) : numFin s (10 * (10 * 0 + bt s 0 - 48) + bt s 1 - 48) = numOf s := by
  have hb := bt_range s 0
  have hc := bt_range s 1
  unfold numOf
  rw [if_neg (by omega), if_pos h]
  by_cases hd : (49 ≤ bt s 0 ∧ bt s 0 ≤ 57) ∧ (48 ≤ bt s 1 ∧ bt s 1 ≤ 57)
  · rw [if_pos hd]
    unfold numFin
    rw [if_neg (by omega), dig2 (by omega) (by omega), bytes2 h, if_pos (by simp only [List.cons.injEq, and_true]; omega)]
    simp only [Prod.mk.injEq, and_true]; omega
  · rw [if_neg hd]
    unfold numFin
    split
    · rfl
    · rw [if_neg]
      rw [bytes2 h]
      intro e
      have hl := congrArg List.length e
      rw [dig_len999 (by omega)] at hl
      simp only [List.length_cons, List.length_nil] at hl
      by_cases h9 : (10 * (10 * 0 + bt s 0 - 48) + bt s 1 - 48).toNat ≤ 9
      · rw [if_pos h9] at hl; omega
      · rw [if_neg h9] at hl
        by_cases h99 : (10 * (10 * 0 + bt s 0 - 48) + bt s 1 - 48).toNat ≤ 99
        · rw [dig2 (by omega) (by omega)] at e
          simp only [List.cons.injEq, and_true] at e
          omega
        · rw [if_neg h99] at hl; omega
theorem fin3 {s : ByteArray} (h : s.size = 3) : numFin s (10 * (10 * (10 * 0 + bt s 0 - 48) + bt s 1 - 48) + bt s 2 - 48) = numOf s := by
  have hb := bt_range s 0
  have hc := bt_range s 1
  have hd' := bt_range s 2
  unfold numOf
  rw [if_neg (by omega), if_neg (by omega), if_pos h]
  by_cases hd : (49 ≤ bt s 0 ∧ bt s 0 ≤ 57) ∧ (48 ≤ bt s 1 ∧ bt s 1 ≤ 57) ∧ (48 ≤ bt s 2 ∧ bt s 2 ≤ 57)
  · rw [if_pos hd]
    unfold numFin
    rw [if_neg (by omega), dig3 (by omega) (by omega), bytes3 h, if_pos (by simp only [List.cons.injEq, and_true]; omega)]
    simp only [Prod.mk.injEq, and_true]; omega
  · rw [if_neg hd]
    unfold numFin
    split
    · rfl
    · rw [if_neg]
      rw [bytes3 h]
      intro e
      have hl := congrArg List.length e
      rw [dig_len999 (by omega)] at hl
      simp only [List.length_cons, List.length_nil] at hl
      by_cases h9 : (10 * (10 * (10 * 0 + bt s 0 - 48) + bt s 1 - 48) + bt s 2 - 48).toNat ≤ 9
      · rw [if_pos h9] at hl; omega
      · rw [if_neg h9] at hl
        by_cases h99 : (10 * (10 * (10 * 0 + bt s 0 - 48) + bt s 1 - 48) + bt s 2 - 48).toNat ≤ 99
        · rw [if_pos h99] at hl; omega
        · rw [dig3 (by omega) (by omega)] at e
          simp only [List.cons.injEq, and_true] at e
          omega

theorem iparse_end (s : ByteArray) (n : Int) : Ev (fun k => impl_ParseNumber.l0 k s n (s.size : Int) (s.size : Int)) (n, true) := by
  refine Ev.step (f := fun _ => some (n, true)) (fun k => ?_) (Ev.now _)
  simp only [impl_ParseNumber.l0]
  rw [if_neg (by omega)]
theorem iparse_bad (s : ByteArray) (n i : Int) (h0 : 0 ≤ i) (h1 : i < (s.size : Int)) (hb : bt s i < 48 ∨ bt s i > 57) : Ev (fun k => impl_ParseNumber.l0 k s n (s.size : Int) i) (0, false) := by
  refine Ev.step (f := fun _ => some (0, false)) (fun k => ?_) (Ev.now _)
  simp only [impl_ParseNumber.l0]
  rw [if_pos h1, if_pos h0, if_pos h1]
  repeat' split
  all_goals first | rfl | omega
theorem iparse_step (s : ByteArray) (n i : Int) (r : Int × Bool) (h0 : 0 ≤ i) (h1 : i < (s.size : Int)) (hs : s.size ≤ 1000) (hn : -1000000 ≤ n ∧ n ≤ 1000000) (hb : 48 ≤ bt s i ∧ bt s i ≤ 57)
    (h : Ev (fun k => impl_ParseNumber.l0 k s (10 * n + (bt s i - 48)) (s.size : Int) (i + 1)) r) : Ev (fun k => impl_ParseNumber.l0 k s n (s.size : Int) i) r := by
  refine Ev.step (fun k => ?_) h
  simp only [impl_ParseNumber.l0]
  rw [if_pos h1, if_pos h0, if_pos h1, if_neg (by omega), if_neg (by omega), w64 (x := 10 * n) (by omega) (by omega), show (bt s i - 48) % 256 = bt s i - 48 by omega, w64 (x := _ + (bt s i - 48)) (by omega) (by omega), w64 (x := i + 1) (by omega) (by omega)]
theorem iparse_ev (s : ByteArray) : Ev (fun k => impl_ParseNumber.f k s) (numOf s) := by
  have hbad : ∀ b : Bool, b = true → Ev (fun k => impl_ParseNumber.j0 k s b) (0, false) := fun b hb => by
    refine Ev.step (f := fun _ => some (0, false)) (fun k => ?_) (Ev.now _)
    simp only [impl_ParseNumber.j0]
    rw [if_pos hb]
  have hgood : ∀ (b : Bool) (r : Int × Bool), b = false → Ev (fun k => impl_ParseNumber.l0 k s 0 (s.size : Int) 0) r → Ev (fun k => impl_ParseNumber.j0 k s b) r := fun b r hb h => by
    refine Ev.step (fun k => ?_) h
    simp only [impl_ParseNumber.j0]
    rw [if_neg (by simp [hb])]
  unfold impl_ParseNumber.f
  by_cases h0 : s.size = 0
  · simp only [if_pos (show (s.size : Int) = 0 by omega)]
    have : numOf s = (0, false) := by unfold numOf; rw [if_neg (by omega), if_neg (by omega), if_neg (by omega)]
    rw [this]
    exact hbad _ rfl
  · simp only [if_neg (show ¬ (s.size : Int) = 0 by omega)]
    by_cases h4 : s.size > 3
    · simp only [if_pos (show (s.size : Int) > 3 by omega)]
      have : numOf s = (0, false) := by unfold numOf; rw [if_neg (by omega), if_neg (by omega), if_neg (by omega)]
      rw [this]
      exact hbad _ rfl
    · simp only [if_neg (show ¬ (s.size : Int) > 3 by omega)]
      by_cases h1 : s.size = 1
      · simp only [if_neg (show ¬ (s.size : Int) > 1 by omega)]
        refine hgood _ _ rfl ?_
        unfold numOf
        rw [if_pos h1]
        by_cases hd : 48 ≤ bt s 0 ∧ bt s 0 ≤ 57
        · rw [if_pos hd]
          refine iparse_step s _ _ _ (by omega) (by omega) (by omega) (by omega) hd ?_
          have := iparse_end s (10 * 0 + (bt s 0 - 48))
          rw [h1] at this ⊢
          simpa using this
        · rw [if_neg hd]
          exact iparse_bad s _ _ (by omega) (by omega) (by omega)
      · simp only [if_pos (show (s.size : Int) > 1 by omega), if_pos (show 0 < (s.size : Int) by omega)]
        by_cases hz : bt s 0 = 48
        · have : numOf s = (0, false) := by
            unfold numOf
            rw [if_neg h1]
            split
            · rw [if_neg (by omega)]
            · split
              · rw [if_neg (by omega)]
              · rfl
          rw [this]
          exact hbad _ (by simp [hz])
        · refine hgood _ _ (by simp [hz]) ?_
          unfold numOf
          rw [if_neg h1]
          by_cases d0 : 48 ≤ bt s 0 ∧ bt s 0 ≤ 57
          · refine iparse_step s _ _ _ (by omega) (by omega) (by omega) (by omega) d0 ?_
            by_cases d1 : 48 ≤ bt s 1 ∧ bt s 1 ≤ 57
            · refine iparse_step s _ _ _ (by omega) (by omega) (by omega) (by omega) d1 ?_
              by_cases h2 : s.size = 2
              · rw [if_pos h2, if_pos (by omega)]
                have := iparse_end s (10 * (bt s 0 - 48) + (bt s 1 - 48))
                rw [h2] at this ⊢
                simpa using this
              · have h3 : s.size = 3 := by omega
                have hc' := bt_range s (0 + 1)
                rw [if_neg h2, if_pos h3]
                by_cases d2 : 48 ≤ bt s 2 ∧ bt s 2 ≤ 57
                · refine iparse_step s _ _ _ (by omega) (by omega) (by omega) (by omega) d2 ?_
                  rw [if_pos (by omega)]
                  have := iparse_end s (100 * (bt s 0 - 48) + 10 * (bt s 1 - 48) + (bt s 2 - 48))
                  rw [h3] at this ⊢
                  rw [show 10 * (10 * (10 * 0 + (bt s 0 - 48)) + (bt s (0 + 1) - 48)) + (bt s (0 + 1 + 1) - 48) = 100 * (bt s 0 - 48) + 10 * (bt s 1 - 48) + (bt s 2 - 48) by show 10 * (10 * (10 * 0 + (bt s 0 - 48)) + (bt s 1 - 48)) + (bt s 2 - 48) = _; omega]
                  simpa using this
                · rw [if_neg (by omega)]
                  exact iparse_bad s _ _ (by omega) (by omega) (by show bt s 2 < 48 ∨ bt s 2 > 57; omega)
            · have : (if s.size = 2 then (if (49 ≤ bt s 0 ∧ bt s 0 ≤ 57) ∧ (48 ≤ bt s 1 ∧ bt s 1 ≤ 57) then (10 * (bt s 0 - 48) + (bt s 1 - 48), true) else (0, false))
                  else if s.size = 3 then (if (49 ≤ bt s 0 ∧ bt s 0 ≤ 57) ∧ (48 ≤ bt s 1 ∧ bt s 1 ≤ 57) ∧ (48 ≤ bt s 2 ∧ bt s 2 ≤ 57) then (100 * (bt s 0 - 48) + 10 * (bt s 1 - 48) + (bt s 2 - 48), true) else (0, false))
                  else (0, false)) = ((0, false) : Int × Bool) := by
                split
                · rw [if_neg (by omega)]
                · split
                  · rw [if_neg (by omega)]
                  · rfl
              rw [this]
              exact iparse_bad s _ _ (by omega) (by omega) (by show bt s 1 < 48 ∨ bt s 1 > 57; omega)
          · have : (if s.size = 2 then (if (49 ≤ bt s 0 ∧ bt s 0 ≤ 57) ∧ (48 ≤ bt s 1 ∧ bt s 1 ≤ 57) then (10 * (bt s 0 - 48) + (bt s 1 - 48), true) else (0, false))
                else if s.size = 3 then (if (49 ≤ bt s 0 ∧ bt s 0 ≤ 57) ∧ (48 ≤ bt s 1 ∧ bt s 1 ≤ 57) ∧ (48 ≤ bt s 2 ∧ bt s 2 ≤ 57) then (100 * (bt s 0 - 48) + 10 * (bt s 1 - 48) + (bt s 2 - 48), true) else (0, false))
                else (0, false)) = ((0, false) : Int × Bool) := by
              split
              · rw [if_neg (by omega)]
              · split
                · rw [if_neg (by omega)]
                · rfl
            rw [this]
            exact iparse_bad s _ _ (by omega) (by omega) (by omega)

theorem getD_get {α : Type} (l : List α) (d : α) (i : Int) (h0 : 0 ≤ i) (h1 : i < l.length) : l[i.toNat]? = some (l.getD i.toNat d) := by
  rw [List.getD_eq_getElem?_getD]
  obtain ⟨v, hv⟩ : ∃ v, l[i.toNat]? = some v := ⟨_, List.getElem?_eq_getElem (by omega)⟩
  rw [hv]; rfl

theorem and255 (x : Int) : 0 ≤ bits .and .i64 x 255 ∧ bits .and .i64 x 255 ≤ 255 := by
  simp only [bits]
  have h : ((BitVec.ofInt IntKind.i64.bits x &&& BitVec.ofInt IntKind.i64.bits 255).toNat : Int) ≤ 255 := by
    rw [BitVec.toNat_and]
    have : (BitVec.ofInt IntKind.i64.bits x).toNat &&& (BitVec.ofInt IntKind.i64.bits 255).toNat ≤ 255 := Nat.le_trans Nat.and_le_right (by decide)
    omega
  have h0 : (0 : Int) ≤ ((BitVec.ofInt IntKind.i64.bits x &&& BitVec.ofInt IntKind.i64.bits 255).toNat : Int) := Int.natCast_nonneg _
  generalize ((BitVec.ofInt IntKind.i64.bits x &&& BitVec.ofInt IntKind.i64.bits 255).toNat : Int) = z at h h0
  have e : IntKind.i64.wrap z = z := by
    simp [IntKind.wrap, IntKind.bits, IntKind.signed]
    split <;> omega
  rw [e]
  exact ⟨h0, h⟩
theorem dByte {l : List Int} {i : Int} (h : Int) (hl : l.length ≤ 4096) (hi : 0 ≤ i) : ∃ x i' h', spec_l1Byte.f l i h = some (x, i', h') ∧ (0 ≤ x ∧ x ≤ 255) ∧ 0 ≤ i' := by
  unfold spec_l1Byte.f
  by_cases hlt : i < (l.length : Int)
  · rw [if_pos hlt, if_pos hi]
    exact ⟨_, _, _, rfl, and255 _, by rw [w64 (by omega) (by omega)]; omega⟩
  · rw [if_neg hlt]
    exact ⟨_, _, _, rfl, and255 _, hi⟩

theorem tmod_bd {a n : Int} (ha : 0 ≤ a) (hn : 0 < n) : 0 ≤ Int.tmod a n ∧ Int.tmod a n < n := by
  rw [tmod_pos ha]
  exact ⟨Int.emod_nonneg _ (by omega), Int.emod_lt_of_pos _ hn⟩
theorem dBelow {l : List Int} {i : Int} (h : Int) {n : Int} (hl : l.length ≤ 4096) (hi : 0 ≤ i) (hn : 0 < n) : ∃ x i' h', spec_l1Below.f l i h n = some (x, i', h') ∧ (0 ≤ x ∧ x < n) ∧ 0 ≤ i' := by
  unfold spec_l1Below.f
  rw [if_neg (by omega)]
  split
  · obtain ⟨x, i1, h1, e, hx, hi1⟩ := dByte h hl hi
    rw [e]
    simp only [Option.bind_some]
    rw [if_neg (by omega)]
    exact ⟨_, _, _, rfl, tmod_bd hx.1 hn, hi1⟩
  · obtain ⟨x, i1, h1, e1, hx, hi1⟩ := dByte h hl hi
    rw [e1]
    simp only [Option.bind_some]
    obtain ⟨y, i2, h2, e2, hy, hi2⟩ := dByte h1 hl hi1
    rw [e2]
    simp only [Option.bind_some]
    obtain ⟨z, i3, h3, e3, hz, hi3⟩ := dByte h2 hl hi2
    rw [e3]
    simp only [Option.bind_some]
    rw [if_neg (by omega)]
    refine ⟨_, _, _, rfl, tmod_bd ?_ hn, hi3⟩
    rw [w64 (x := x * 65536) (by omega) (by omega), w64 (x := y * 256) (by omega) (by omega), w64 (x := x * 65536 + y * 256) (by omega) (by omega), w64 (x := x * 65536 + y * 256 + z) (by omega) (by omega)]
    omega

theorem dOnce {l : List Int} {i : Int} (h : Int) {n : Int} (hl : l.length ≤ 4096) (hi : 0 ≤ i) (hn : 0 < n) : ∃ x i' h', spec_l1Once.f l i h n = some (x, i', h') ∧ 0 ≤ i' := by
  unfold spec_l1Once.f
  obtain ⟨x, i1, h1, e, hx, hi1⟩ := dBelow h hl hi hn
  rw [e]
  simp only [Option.bind_some]
  exact ⟨_, _, _, rfl, hi1⟩

theorem dInt {l : List Int} {i : Int} (h : Int) {m : List Int} (hl : l.length ≤ 4096) (hi : 0 ≤ i) (hm : 0 < m.length) : ∃ x i' h', spec_l1Int.f l i h m = some (x, i', h') ∧ x ∈ m ∧ 0 ≤ i' := by
  unfold spec_l1Int.f
  obtain ⟨x, i1, h1, e, hx, hi1⟩ := dBelow h hl hi (show 0 < (m.length : Int) by omega)
  rw [e]
  simp only [Option.bind_some]
  rw [if_pos hx.1, if_pos hx.2]
  refine ⟨_, _, _, rfl, ?_, hi1⟩
  unfold rd
  rw [List.getD_eq_getElem?_getD, List.getElem?_eq_getElem (by omega)]
  exact List.getElem_mem _

def I64 (x : Int) : Prop := -9223372036854775808 ≤ x ∧ x ≤ 9223372036854775807

theorem dOdd {l : List Int} {i : Int} (h : Int) (hl : l.length ≤ 4096) (hi : 0 ≤ i) : ∃ x i' h', spec_l1Odd.f l i h = some (x, i', h') ∧ I64 x ∧ 0 ≤ i' := by
  unfold spec_l1Odd.f
  obtain ⟨x, i1, h1, e, hx, hi1⟩ := dInt h (m := [(-1), 0, 1, 2, 3, 7, 8, 9, 15, 16, 17, 63, 64, 65, 999, 1000, 4096, 4097, 9223372036854775807, (-9223372036854775808)]) hl hi (by simp)
  rw [e]
  simp only [Option.bind_some]
  refine ⟨_, _, _, rfl, ?_, hi1⟩
  unfold I64
  simp only [List.mem_cons, List.not_mem_nil, or_false] at hx
  omega

theorem new_loop (l : List Int) (hl : l.length ≤ 4096) (d : Nat) : ∀ (i h : Int), 0 ≤ i → (l.length : Int) - i = d → ∃ h', Ev (fun k => spec_l1New.l0 k l h i) (l, 0, h') := by
  induction d with
  | zero =>
    intro i h h0 hd
    refine ⟨h, Ev.succ' ?_⟩
    simp only [spec_l1New.l0, if_neg (show ¬ i < (l.length : Int) by omega)]
    exact Ev.now _
  | succ d ih =>
    intro i h h0 hd
    by_cases h4 : i < 4000
    · obtain ⟨h', e⟩ := ih (i + 1) (bits .and .i64 (wrap64 ((wrap64 ((wrap64 (h * 167)) + (wrap64 (rd l i)))) + 29)) 1073741823) (by omega) (by omega)
      refine ⟨h', Ev.succ' ?_⟩
      simp only [spec_l1New.l0, if_pos (show i < (l.length : Int) by omega), if_pos h4, if_pos h0]
      rw [w64 (x := i + 1) (by omega) (by omega)]
      exact e
    · refine ⟨h, Ev.succ' ?_⟩
      simp only [spec_l1New.l0, if_pos (show i < (l.length : Int) by omega), if_neg h4]
      exact Ev.now _
theorem dNew (l : List Int) (hl : l.length ≤ 4096) : ∃ h, Ev (fun k => spec_l1New.f k l) (l, 0, h) := by
  unfold spec_l1New.f
  exact new_loop l hl l.length 0 _ (by omega) (by omega)

theorem lawBig (l : List Int) : laws_big.f l = some (decide ((l.length : Int) > 4096)) := rfl

def dS (x : ByteArray) : List UInt8 := x.data.toList

theorem join_len (xs : List (List UInt8)) (sep : List UInt8) : (Lib.join xs sep).length ≤ sep.length * xs.length + Lib.lens xs := by
  cases xs with
  | nil => simp [Lib.join_nil]
  | cons x r =>
    rw [Lib.join_cons, List.length_append, Lib.joinTail_length]
    simp only [Lib.lens, List.map_cons, List.sum_cons, List.length_cons, Nat.mul_succ]
    omega
theorem join_step (xs : List (List UInt8)) (sep : List UInt8) (i : Nat) (y : List UInt8) (h : xs[i]? = some y) : Lib.join (xs.take (i + 1)) sep = if i = 0 then y else Lib.join (xs.take i) sep ++ sep ++ y := by
  cases xs with
  | nil => simp at h
  | cons x r =>
    cases i with
    | zero =>
      simp only [List.getElem?_cons_zero, Option.some.injEq] at h
      subst h
      simp [Lib.join_one]
    | succ i =>
      rw [if_neg (by omega), List.take_succ_cons, List.take_succ_cons, Lib.join_cons, Lib.join_cons, Lib.joinTail_take_succ sep r i y (by simpa using h)]
      simp [List.append_assoc]
theorem dS_append (a b : ByteArray) : dS (a ++ b) = dS a ++ dS b := by
  unfold dS
  rw [ByteArray.data_append, Array.toList_append]
theorem dS_size (a : ByteArray) : (dS a).length = a.size := rfl
theorem ba_of (a : ByteArray) (l : List UInt8) (h : dS a = l) : a = ⟨l.toArray⟩ := by
  apply ByteArray.ext
  rw [← h]
  simp [dS]

theorem dig_nums (n : Nat) : (dig n).map (fun x => UInt8.ofNat x.toNat) = Lib.decDigits n := by
  induction n using Nat.strongRecOn with
  | _ n ih =>
    by_cases h : n < 10
    · rw [dig_lt h, Lib.decDigits, dif_pos h]
      simp only [List.map_cons, List.map_nil]
      rw [show (48 + (n : Int)).toNat = 48 + n by omega]
    · rw [dig_ge h, Lib.decDigits, dif_neg h, List.map_append, ih (n / 10) (by omega)]
      simp only [List.map_cons, List.map_nil]
      rw [show (48 + ((n % 10 : Nat) : Int)).toNat = 48 + n % 10 by omega]
theorem str_dig (n : Nat) : strOfNums (dig n) = ⟨(Lib.decDigits n).toArray⟩ := by
  apply ByteArray.ext
  apply Array.ext'
  rw [strOfNums_data]
  exact dig_nums n
theorem dig_len2 (n : Nat) : (dig n).length ≤ n / 10 + 2 := by
  by_cases h : n < 10
  · rw [dig_lt h]; simp
  · rw [dig_ge h, List.length_append]
    have := (dig_len (n / 10)).2
    simp only [List.length_singleton]
    omega
def fmN (a : Int) : List Int := if a < 0 then 45 :: dig a.natAbs else dig a.toNat
theorem fmN_bytes (a : Int) : IsBytes (fmN a) := by
  unfold fmN
  split
  · exact IsBytes.cons (by omega) (dig_bytes _)
  · exact dig_bytes _
theorem str_fmN (a : Int) : strOfNums (fmN a) = ⟨(Lib.itoa a).toArray⟩ := by
  apply ByteArray.ext
  apply Array.ext'
  rw [strOfNums_data]
  unfold fmN Lib.itoa
  split
  · simp only [List.map_cons, dig_nums]
    rfl
  · exact dig_nums _
theorem sfmtI_ev (a : Int) (h0 : -9223372036854775808 ≤ a) (h1 : a ≤ 9223372036854775807) : Ev (fun k => spec_FormatNumber.f k a) (strOfNums (fmN a)) := by
  by_cases hn : a < 0
  · by_cases hm : a = -9223372036854775808
    · subst hm
      refine Ev.succ' ?_
      simp only [spec_FormatNumber.f, if_true]
      have e : (⟨#[45, 57, 50, 50, 51, 51, 55, 50, 48, 51, 54, 56, 53, 52, 55, 55, 53, 56, 48, 56]⟩ : ByteArray) = strOfNums (fmN (-9223372036854775808)) := by
        rw [str_fmN]
        have e2 : Lib.itoa (-9223372036854775808) = [45, 57, 50, 50, 51, 51, 55, 50, 48, 51, 54, 56, 53, 52, 55, 55, 53, 56, 48, 56] := by simp [Lib.itoa, Lib.decDigits]
        rw [e2]
      rw [e]
      exact Ev.now _
    · refine Ev.succ' ?_
      simp only [spec_FormatNumber.f, if_neg hm, if_pos hn]
      rw [w64 (by omega) (by omega)]
      have he := sfmt_ev (-a).toNat (by omega)
      rw [show (((-a).toNat : Nat) : Int) = -a by omega] at he
      refine Ev.bind he ?_
      have hl := dig_len2 (-a).toNat
      rw [strOfNums_size, if_pos (by omega)]
      have e : (⟨#[45]⟩ : ByteArray) ++ strOfNums (dig (-a).toNat) = strOfNums (fmN a) := by
        have e1 : (⟨#[45]⟩ : ByteArray) = strOfNums [45] := rfl
        rw [e1, str_append]
        unfold fmN
        rw [if_pos hn, show a.natAbs = (-a).toNat by omega]
        rfl
      rw [e]
      exact Ev.now _
  · have he := sfmt_ev a.toNat (by omega)
    rw [show ((a.toNat : Nat) : Int) = a by omega] at he
    unfold fmN
    rw [if_neg hn]
    exact he
theorem iItoa (a : Int) (h0 : -9223372036854775808 ≤ a) (h1 : a ≤ 9223372036854775807) : impl_FormatNumber.f a = some (strOfNums (fmN a)) := by
  unfold impl_FormatNumber.f Go.Proofs.YtcnkfnkdcjpkoaaDoorV.strconv_Itoa.f
  rw [if_pos ⟨h0, h1⟩, str_fmN]
  rfl

def splV (s p : ByteArray) : List ByteArray := Lib.splitB p 0 (Lib.countB s p) s
theorem splB_len (p : ByteArray) (hp : 1 ≤ p.size) : ∀ (n : Nat) (s : ByteArray), s.size ≤ n → (splV s p).length = Lib.countB s p + 1 := by
  intro n
  induction n with
  | zero =>
    intro s hs
    have hm : Lib.indexB s p = -1 := by
      refine Lib.index_none fun j _ => ?_
      cases hh : Lib.occAt s.data.toList p.data.toList j with
      | false => rfl
      | true =>
        rcases Lib.occAt_room hh with h | h
        · have : s.data.toList.length = s.size := rfl
          have : p.data.toList.length = p.size := rfl
          omega
        · have : p.data.toList.length = p.size := rfl
          rw [h] at this; simp at this; omega
    unfold splV
    rw [Lib.countB_miss s p hm, Lib.splitB_zero]
    rfl
  | succ n ih =>
    intro s hs
    rcases Int.lt_or_le (Lib.indexB s p) 0 with hm | hm
    · have h1 := Lib.index_ge s.data.toList p.data.toList
      have hm : Lib.indexB s p = -1 := by unfold Lib.indexB at hm ⊢; omega
      unfold splV
      rw [Lib.countB_miss s p hm, Lib.splitB_zero]
      rfl
    · obtain ⟨i, hi⟩ : ∃ i : Nat, Lib.indexB s p = i := ⟨(Lib.indexB s p).toNat, by omega⟩
      have hl : (s.extract (i + p.size) s.size).size ≤ n := by rw [ByteArray.size_extract]; omega
      have := ih _ hl
      unfold splV at this ⊢
      rw [Lib.countB_hit s p i hp hi, Nat.add_comm 1, Lib.splitB_hit p 0 _ s i hi, List.length_cons, this]
theorem whole (s : ByteArray) : s.extract 0 s.size = s := Lib.whole_piece s
theorem spl_count (s p : ByteArray) : Lib.countB s p ≤ s.size + 1 := Lib.count_le _ _
def splA (s p : ByteArray) : List ByteArray := if p.size = 0 then [s] else splV s p
theorem nil_iff (p : ByteArray) : p.toList = ([] : List UInt8) ↔ p.size = 0 := by
  have : p.toList.length = p.size := by rw [ByteArray.toList_eq]; rfl
  constructor
  · intro e; rw [e] at this; simp at this; omega
  · intro e; exact List.length_eq_zero_iff.1 (by omega)
theorem splA_len (s p : ByteArray) (hs : s.size ≤ 1048576) : (splA s p).length ≤ 1048578 := by
  unfold splA
  split
  · simp
  · have h1 := splB_len p (by omega) s.size s (Nat.le_refl _)
    have h2 := spl_count s p
    omega

theorem ispl (s p : ByteArray) (hs : s.size ≤ 1048576) : impl_SplitAt.f s p = some (splA s p) := by
  unfold impl_SplitAt.f splA
  by_cases hp : p.size = 0
  · rw [if_pos ((nil_iff p).2 hp), if_pos hp]
  · rw [if_neg (fun e => hp ((nil_iff p).1 e)), if_neg hp]
    unfold Go.Proofs.YtcnkfnkdcjpkoaaDoorV.strings_Split.f
    have h1 := splB_len p (by omega) s.size s (Nat.le_refl _)
    have h2 := spl_count s p
    rw [if_pos ⟨by omega, by omega, h1, by omega⟩]
    rfl

def frac (r : Int) : List Int := if r = 1 then [46, 49, 50, 53] else if r = 2 then [46, 50, 53] else if r = 3 then [46, 51, 55, 53] else if r = 4 then [46, 53] else if r = 5 then [46, 54, 50, 53] else if r = 6 then [46, 55, 53] else if r = 7 then [46, 56, 55, 53] else []
def fmB (x : Int) : List Int := dig (x / 8).toNat ++ frac (x % 8)
def fmM (a : Int) : List Int := if a < 0 then 45 :: fmB (-a) else fmB a
def fmT (a : Int) : List Int := if -4096 ≤ a ∧ a ≤ 4096 then fmM a else []
theorem frac_len (r : Int) : (frac r).length ≤ 4 := by
  unfold frac
  repeat' split
  all_goals simp
theorem frac_bytes (r : Int) : IsBytes (frac r) := by
  intro x hx
  unfold frac at hx
  repeat' split at hx
  all_goals (simp at hx; try omega)
theorem fmT_bytes (a : Int) : IsBytes (fmT a) := by
  unfold fmT fmM fmB
  split
  · split
    · exact IsBytes.cons (by omega) (IsBytes.append (dig_bytes _) (frac_bytes _))
    · exact IsBytes.append (dig_bytes _) (frac_bytes _)
  · exact IsBytes.nil
def fracTab : List ByteArray := [(⟨#[]⟩ : ByteArray), (⟨#[46, 49, 50, 53]⟩ : ByteArray), (⟨#[46, 50, 53]⟩ : ByteArray), (⟨#[46, 51, 55, 53]⟩ : ByteArray), (⟨#[46, 53]⟩ : ByteArray), (⟨#[46, 54, 50, 53]⟩ : ByteArray), (⟨#[46, 55, 53]⟩ : ByteArray), (⟨#[46, 56, 55, 53]⟩ : ByteArray)]
theorem frac_cases {r : Int} (h0 : 0 ≤ r) (h8 : r < 8) : r = 0 ∨ r = 1 ∨ r = 2 ∨ r = 3 ∨ r = 4 ∨ r = 5 ∨ r = 6 ∨ r = 7 := by omega
theorem frac_tab {r : Int} (h0 : 0 ≤ r) (h8 : r < 8) : rdOf ByteArray.empty fracTab r = strOfNums (frac r) := by
  rcases frac_cases h0 h8 with rfl | rfl | rfl | rfl | rfl | rfl | rfl | rfl <;> rfl
theorem str_cons1 (l : List Int) : (⟨#[45]⟩ : ByteArray) ++ strOfNums l = strOfNums (45 :: l) := by
  have e1 : (⟨#[45]⟩ : ByteArray) = strOfNums [45] := rfl
  rw [e1, str_append]
  rfl
theorem str_nil1 (l : List Int) : (⟨#[]⟩ : ByteArray) ++ strOfNums l = strOfNums l := by
  have e1 : (⟨#[]⟩ : ByteArray) = strOfNums [] := rfl
  rw [e1, str_append]
  rfl

/-- The number that digits tell. -/
def dval (l : List Int) : Int := l.foldl (fun a d => 10 * a + (d - 48)) 0
theorem dval_dig : ∀ n : Nat, dval (dig n) = n := by
  intro n
  induction n using Nat.strongRecOn with
  | _ n ih =>
    by_cases h : n < 10
    · rw [dig_lt h]; simp [dval]; omega
    · rw [dig_ge h]
      have := ih (n / 10) (by omega)
      unfold dval at this ⊢
      rw [List.foldl_append, this]
      simp only [List.foldl_cons, List.foldl_nil]
      omega
theorem digits_cut (l : List Int) (hl : ∀ x ∈ l, x ≠ 46) (rest : List Int) (hr : rest = [] ∨ ∃ t, rest = 46 :: t) : (l ++ rest).takeWhile (fun x => decide (x ≠ 46)) = l ∧ (l ++ rest).dropWhile (fun x => decide (x ≠ 46)) = rest := by
  induction l with
  | nil =>
    rcases hr with rfl | ⟨t, rfl⟩
    · simp
    · simp
  | cons a l ih =>
    have ha : a ≠ 46 := hl a (List.mem_cons_self ..)
    have := ih (fun x hx => hl x (List.mem_cons_of_mem _ hx))
    simp only [List.cons_append, List.takeWhile_cons, List.dropWhile_cons, decide_eq_true ha, if_true]
    exact ⟨by rw [this.1], this.2⟩
theorem frac_dot (r : Int) : frac r = [] ∨ ∃ t, frac r = 46 :: t := by
  unfold frac
  repeat' split
  all_goals first | exact Or.inl rfl | exact Or.inr ⟨_, rfl⟩
theorem frac_inj {r r' : Int} (h0 : 0 ≤ r) (h8 : r < 8) (h0' : 0 ≤ r') (h8' : r' < 8) (h : frac r = frac r') : r = r' := by
  rcases frac_cases h0 h8 with rfl | rfl | rfl | rfl | rfl | rfl | rfl | rfl <;> rcases frac_cases h0' h8' with rfl | rfl | rfl | rfl | rfl | rfl | rfl | rfl <;> first | rfl | (exfalso; revert h; decide)
theorem dig_ne (n : Nat) : ∀ x ∈ dig n, x ≠ 46 := fun x hx => by have := dig_digits n x hx; omega
theorem fmB_inj {x y : Int} (hx : 0 ≤ x) (hy : 0 ≤ y) (h : fmB x = fmB y) : x = y := by
  unfold fmB at h
  have h1 := digits_cut (dig (x / 8).toNat) (dig_ne _) (frac (x % 8)) (frac_dot _)
  have h2 := digits_cut (dig (y / 8).toNat) (dig_ne _) (frac (y % 8)) (frac_dot _)
  rw [h] at h1
  have e1 : dig (x / 8).toNat = dig (y / 8).toNat := h1.1.symm.trans h2.1
  have e2 : frac (x % 8) = frac (y % 8) := h1.2.symm.trans h2.2
  have e3 : dval (dig (x / 8).toNat) = dval (dig (y / 8).toNat) := by rw [e1]
  rw [dval_dig, dval_dig] at e3
  have e4 := frac_inj (by omega) (by omega) (by omega) (by omega) e2
  omega
theorem fmB_head (x : Int) : ∃ d t, fmB x = d :: t ∧ 48 ≤ d ∧ d ≤ 57 := by
  have hl := (dig_len (x / 8).toNat).1
  unfold fmB
  match h : dig (x / 8).toNat with
  | [] => rw [h] at hl; simp at hl
  | d :: t =>
    have := dig_digits (x / 8).toNat d (by rw [h]; exact List.mem_cons_self ..)
    exact ⟨d, t ++ frac (x % 8), rfl, this⟩
theorem fmM_inj {a b : Int} (h : fmM a = fmM b) : a = b := by
  unfold fmM at h
  split at h <;> split at h
  · have := fmB_inj (by omega) (by omega) (List.cons.inj h).2
    omega
  · obtain ⟨d, t, e, h1, h2⟩ := fmB_head b
    rw [e] at h
    have := (List.cons.inj h).1
    omega
  · obtain ⟨d, t, e, h1, h2⟩ := fmB_head a
    rw [e] at h
    have := (List.cons.inj h).1
    omega
  · exact fmB_inj (by omega) (by omega) h
theorem fmM_bytes (a : Int) : IsBytes (fmM a) := by
  unfold fmM fmB
  split
  · exact IsBytes.cons (by omega) (IsBytes.append (dig_bytes _) (frac_bytes _))
  · exact IsBytes.append (dig_bytes _) (frac_bytes _)
/-- s is the text of the measure y. -/
def Rep (s : ByteArray) (y : Int) : Prop := -4096 ≤ y ∧ y ≤ 4096 ∧ s = strOfNums (fmM y)
theorem Rep.inj {s : ByteArray} {y z : Int} (h : Rep s y) (k : Rep s z) : y = z := fmM_inj (str_inj (fmM_bytes _) (fmM_bytes _) (h.2.2.symm.trans k.2.2))
theorem Rep.of {s : ByteArray} {y : Int} (h : (strOfNums (fmT y)).toList = s.toList) (hs : s.size ≠ 0) : Rep s y := by
  have e := toList_inj.1 h
  unfold fmT at e
  split at e
  · next hm => exact ⟨hm.1, hm.2, e.symm⟩
  · rw [← e, strOfNums_size] at hs
    exact absurd rfl hs
theorem Rep.to {s : ByteArray} {y : Int} (h : Rep s y) : (strOfNums (fmT y)).toList = s.toList := by
  unfold fmT
  rw [if_pos ⟨h.1, h.2.1⟩, h.2.2]
noncomputable def pmV (s : ByteArray) : Int × Bool := open Classical in if h : ∃ y, Rep s y then (Classical.choose h, true) else (0, false)
theorem pmV_pos {s : ByteArray} {y : Int} (h : Rep s y) : pmV s = (y, true) := by
  unfold pmV
  have hx : ∃ y, Rep s y := ⟨y, h⟩
  rw [dif_pos hx, Rep.inj (Classical.choose_spec hx) h]
theorem pmV_neg {s : ByteArray} (h : ∀ y, ¬ Rep s y) : pmV s = (0, false) := by
  unfold pmV
  rw [dif_neg (fun ⟨y, hy⟩ => h y hy)]

theorem bt_str (l : List Int) (h : IsBytes l) (i : Int) : bt (strOfNums l) i = l.getD i.toNat 0 := by rw [bt_rd, bytesOf_str h]
theorem numOf_dig {n : Nat} (h : n ≤ 999) : numOf (strOfNums (dig n)) = ((n : Int), true) := by
  unfold numOf
  have hs : (strOfNums (dig n)).size = (dig n).length := strOfNums_size _
  by_cases h1 : n ≤ 9
  · have e := dig1 h1
    rw [hs, bt_str _ (dig_bytes n), e]
    rw [if_pos (show ([48 + (n : Int)] : List Int).length = 1 from rfl)]
    simp only [Int.toNat_zero, List.getD_cons_zero]
    rw [if_pos (by omega)]
    simp only [Prod.mk.injEq, and_true]; omega
  · by_cases h2 : n ≤ 99
    · have e := dig2 (by omega) h2
      rw [hs, bt_str _ (dig_bytes n), bt_str _ (dig_bytes n), bt_str _ (dig_bytes n), e]
      rw [if_neg (by simp), if_pos (show ([48 + ((n / 10 : Nat) : Int), 48 + ((n % 10 : Nat) : Int)] : List Int).length = 2 from rfl)]
      show (if (49 ≤ 48 + ((n / 10 : Nat) : Int) ∧ 48 + ((n / 10 : Nat) : Int) ≤ 57) ∧ (48 ≤ 48 + ((n % 10 : Nat) : Int) ∧ 48 + ((n % 10 : Nat) : Int) ≤ 57) then (10 * (48 + ((n / 10 : Nat) : Int) - 48) + (48 + ((n % 10 : Nat) : Int) - 48), true) else (0, false)) = _
      rw [if_pos (by omega)]
      simp only [Prod.mk.injEq, and_true]; omega
    · have e := dig3 (by omega) h
      rw [hs, bt_str _ (dig_bytes n), bt_str _ (dig_bytes n), bt_str _ (dig_bytes n), e]
      rw [if_neg (by simp), if_neg (by simp), if_pos (show ([48 + ((n / 100 : Nat) : Int), 48 + ((n / 10 % 10 : Nat) : Int), 48 + ((n % 10 : Nat) : Int)] : List Int).length = 3 from rfl)]
      show (if (49 ≤ 48 + ((n / 100 : Nat) : Int) ∧ 48 + ((n / 100 : Nat) : Int) ≤ 57) ∧ (48 ≤ 48 + ((n / 10 % 10 : Nat) : Int) ∧ 48 + ((n / 10 % 10 : Nat) : Int) ≤ 57) ∧ (48 ≤ 48 + ((n % 10 : Nat) : Int) ∧ 48 + ((n % 10 : Nat) : Int) ≤ 57) then (100 * (48 + ((n / 100 : Nat) : Int) - 48) + 10 * (48 + ((n / 10 % 10 : Nat) : Int) - 48) + (48 + ((n % 10 : Nat) : Int) - 48), true) else (0, false)) = _
      rw [if_pos (by omega)]
      simp only [Prod.mk.injEq, and_true]; omega
theorem numOf_range (s : ByteArray) : 0 ≤ (numOf s).1 ∧ (numOf s).1 ≤ 999 := by
  unfold numOf
  repeat' split
  all_goals (simp only; omega)
theorem numOf_empty {s : ByteArray} (h : s.size = 0) : numOf s = (0, false) := by
  unfold numOf
  rw [if_neg (by omega), if_neg (by omega), if_neg (by omega)]

theorem dStr {l : List Int} {i : Int} (h : Int) {m : List ByteArray} (hl : l.length ≤ 4096) (hi : 0 ≤ i) (hm : 0 < m.length) : ∃ x i' h', spec_l1Str.f l i h m = some (x, i', h') ∧ x ∈ m ∧ 0 ≤ i' := by
  unfold spec_l1Str.f
  obtain ⟨x, i1, h1, e, hx, hi1⟩ := dBelow h hl hi (show (0 : Int) < (m.length : Int) by omega)
  rw [e]
  simp only [Option.bind_some]
  rw [if_pos hx.1, if_pos hx.2]
  refine ⟨_, _, _, rfl, ?_, hi1⟩
  have h2 := getD_get m ByteArray.empty x hx.1 hx.2
  exact List.mem_of_getElem? h2

theorem numFin_true {s : ByteArray} {n : Int} (h : (numFin s n).2 = true) : dig (numFin s n).1.toNat = bytesOf s ∧ 0 ≤ (numFin s n).1 ∧ (numFin s n).1 ≤ 999 := by
  unfold numFin at h ⊢
  split at h
  · cases h
  · next h1 =>
    split at h
    · next h2 => rw [if_neg h1, if_pos h2]; exact ⟨h2, by show 0 ≤ n; omega, by show n ≤ 999; omega⟩
    · cases h
theorem numOf_true {s : ByteArray} (h : (numOf s).2 = true) : s = strOfNums (fmN (numOf s).1) ∧ 0 ≤ (numOf s).1 ∧ (numOf s).1 ≤ 999 := by
  have key : dig (numOf s).1.toNat = bytesOf s ∧ 0 ≤ (numOf s).1 ∧ (numOf s).1 ≤ 999 := by
    by_cases h1 : s.size = 1
    · have e := fin1 h1; rw [← e] at h ⊢; exact numFin_true h
    · by_cases h2 : s.size = 2
      · have e := fin2 h2; rw [← e] at h ⊢; exact numFin_true h
      · by_cases h3 : s.size = 3
        · have e := fin3 h3; rw [← e] at h ⊢; exact numFin_true h
        · unfold numOf at h
          rw [if_neg h1, if_neg h2, if_neg h3] at h
          cases h
  refine ⟨?_, key.2⟩
  unfold fmN
  rw [if_neg (by omega), key.1, str_bytesOf]
theorem numOf_false {s : ByteArray} (h : (numOf s).2 = false) : (numOf s).1 = 0 := by
  unfold numOf at h ⊢
  by_cases h1 : s.size = 1
  · rw [if_pos h1] at h ⊢
    split
    · next c => rw [if_pos c] at h; cases h
    · rfl
  · by_cases h2 : s.size = 2
    · rw [if_neg h1, if_pos h2] at h ⊢
      split
      · next c => rw [if_pos c] at h; cases h
      · rfl
    · by_cases h3 : s.size = 3
      · rw [if_neg h1, if_neg h2, if_pos h3] at h ⊢
        split
        · next c => rw [if_pos c] at h; cases h
        · rfl
      · rw [if_neg h1, if_neg h2, if_neg h3]
theorem dig_inj {m n : Nat} (h : dig m = dig n) : m = n := by
  have := congrArg dval h
  rw [dval_dig, dval_dig] at this
  omega
theorem numOf_fmN (n : Int) : numOf (strOfNums (fmN n)) = if 0 ≤ n ∧ n ≤ 999 then (n, true) else (0, false) := by
  by_cases hn : 0 ≤ n ∧ n ≤ 999
  · rw [if_pos hn]
    unfold fmN
    rw [if_neg (by omega), numOf_dig (by omega)]
    simp only [Prod.mk.injEq, and_true]; omega
  · rw [if_neg hn]
    cases hk : (numOf (strOfNums (fmN n))).2 with
    | false =>
      have := numOf_false hk
      exact Prod.ext this hk
    | true =>
      exfalso
      obtain ⟨e, h0, h9⟩ := numOf_true hk
      have e2 := str_inj (fmN_bytes _) (fmN_bytes _) e
      generalize (numOf (strOfNums (fmN n))).1 = m at e2 h0 h9
      unfold fmN at e2
      rw [if_neg (show ¬ m < 0 by omega)] at e2
      by_cases h1 : n < 0
      · rw [if_pos h1] at e2
        have := dig_digits m.toNat 45 (by rw [← e2]; exact List.mem_cons_self ..)
        omega
      · rw [if_neg h1] at e2
        have := dig_inj e2
        omega

theorem joinTail_cons (p y : List UInt8) (r : List (List UInt8)) : Lib.joinTail p (y :: r) = p ++ Lib.join (y :: r) p := by
  rw [Lib.join_cons]
  simp [Lib.joinTail]
theorem join_spl (p : ByteArray) (hp : 1 ≤ p.size) : ∀ (n : Nat) (s : ByteArray), s.size ≤ n → Lib.join ((splV s p).map dS) (dS p) = dS s := by
  have one : ∀ s : ByteArray, Lib.indexB s p = -1 → Lib.join ((splV s p).map dS) (dS p) = dS s := fun s hm => by
    unfold splV
    rw [Lib.countB_miss s p hm, Lib.splitB_zero]
    simp only [List.map_cons, List.map_nil, Lib.join_one]
  intro n
  induction n with
  | zero =>
    intro s hs
    refine one s (Lib.index_none fun j _ => ?_)
    cases hh : Lib.occAt s.data.toList p.data.toList j with
    | false => rfl
    | true =>
      rcases Lib.occAt_room hh with h | h
      · have : s.data.toList.length = s.size := rfl
        have : p.data.toList.length = p.size := rfl
        omega
      · have : p.data.toList.length = p.size := rfl
        rw [h] at this; simp at this; omega
  | succ n ih =>
    intro s hs
    rcases Int.lt_or_le (Lib.indexB s p) 0 with hm | hm
    · have h1 := Lib.index_ge s.data.toList p.data.toList
      exact one s (by unfold Lib.indexB at hm ⊢; omega)
    · obtain ⟨i, hi⟩ : ∃ i : Nat, Lib.indexB s p = i := ⟨(Lib.indexB s p).toNat, by omega⟩
      have hl : (s.extract (i + p.size) s.size).size ≤ n := by rw [ByteArray.size_extract]; omega
      have h2 := ih _ hl
      have hocc : Lib.occAt s.data.toList p.data.toList i = true := by
        rcases Lib.index_spec s.data.toList p.data.toList with ⟨h, _⟩ | ⟨j, h, _, hj, _⟩
        · unfold Lib.indexB at hi; omega
        · have : j = i := by unfold Lib.indexB at hi; omega
          rw [← this]; exact hj
      have hpre : s.data.toList.drop i = p.data.toList ++ (s.data.toList.drop i).drop p.size := by
        unfold Lib.occAt at hocc
        obtain ⟨t, ht⟩ := List.isPrefixOf_iff_prefix.1 hocc
        have e : p.size = p.data.toList.length := rfl
        rw [e, ← ht, List.drop_left]
      unfold splV at h2 ⊢
      rw [Lib.countB_hit s p i hp hi, Nat.add_comm 1, Lib.splitB_hit p 0 _ s i hi, List.map_cons, Lib.join_cons]
      have hlen := splB_len p hp _ (s.extract (i + p.size) s.size) (Nat.le_refl _)
      unfold splV at hlen
      have e1 : dS (s.extract 0 (i + 0)) = s.data.toList.take i := Lib.extract_from_zero s (i + 0)
      match hm : (Lib.splitB p 0 (Lib.countB (s.extract (i + p.size) s.size) p) (s.extract (i + p.size) s.size)).map dS with
      | [] =>
        have := congrArg List.length hm
        rw [List.length_map, hlen] at this
        simp at this
      | y :: r =>
        rw [hm] at h2
        rw [joinTail_cons, h2, e1]
        have e2 : dS (s.extract (i + p.size) s.size) = s.data.toList.drop (i + p.size) := by
          unfold dS
          have : s.data.toList.length = s.size := rfl
          rw [Lib.extract_data, List.take_of_length_le (by rw [List.length_drop]; omega)]
        rw [e2, ← List.drop_drop]
        show List.take i s.data.toList ++ (p.data.toList ++ _) = s.data.toList
        rw [← hpre, List.take_append_drop]
theorem join_splA (s p : ByteArray) : Lib.join ((splA s p).map dS) (dS p) = dS s := by
  unfold splA
  split
  · simp only [List.map_cons, List.map_nil, Lib.join_one]
  · exact join_spl p (by omega) s.size s (Nat.le_refl _)
theorem ijoin (s p : ByteArray) (hs : s.size ≤ 1048576) : impl_JoinWith.f (splA s p) p = some s := by
  have hl := splA_len s p hs
  have hj := join_splA s p
  unfold impl_JoinWith.f Go.Proofs.YtcnkfnkdcjpkoaaDoorV.strings_Join.f
  rw [if_pos ⟨by omega, by
    have : (dS s).length = s.size := rfl
    show (Lib.join ((splA s p).map dS) (dS p)).length ≤ _
    rw [hj]; omega⟩]
  simp only [Option.bind_some, Option.some.injEq]
  exact (ba_of s _ hj.symm).symm

theorem drawFN (l : List Int) (hl : l.length ≤ 4096) : ∃ x, Ev (fun k => spec_DrawFormatNumber.f k l) x ∧ I64 x := by
  obtain ⟨h, hn⟩ := dNew l hl
  obtain ⟨b, i1, h1, e1, hi1⟩ := dOnce h (n := 2) hl (Int.le_refl 0) (by omega)
  cases b with
  | true =>
    obtain ⟨x, i2, h2, e2, hx, _⟩ := dOdd h1 hl hi1
    refine ⟨x, ?_, hx⟩
    unfold spec_DrawFormatNumber.f
    refine Ev.bind hn ?_
    simp only [e1, Option.bind_some, if_true, e2]
    exact Ev.now _
  | false =>
    obtain ⟨x, i2, h2, e2, hx, _⟩ := dBelow h1 (n := 1200) hl hi1 (by omega)
    refine ⟨x, ?_, by unfold I64; omega⟩
    unfold spec_DrawFormatNumber.f
    refine Ev.bind hn ?_
    simp only [e1, Option.bind_some, Bool.false_eq_true, if_false, e2]
    exact Ev.now _

theorem drawPN (l : List Int) (hl : l.length ≤ 4096) : ∃ s, Ev (fun k => spec_DrawParseNumber.f k l) s := by
  obtain ⟨h, hn⟩ := dNew l hl
  obtain ⟨x, i1, h1, e1, hx, hi1⟩ := dBelow h (n := 1100) hl (Int.le_refl 0) (by omega)
  obtain ⟨c, i2, h2, e2, hc, hi2⟩ := dBelow h1 (n := 6) hl hi1 (by omega)
  have hs := sfmtI_ev x (by omega) (by omega)
  have hz : (strOfNums (fmN x)).size ≤ 600 := by
    rw [strOfNums_size]
    unfold fmN
    rw [if_neg (by omega)]
    have := dig_len2 x.toNat
    omega
  generalize strOfNums (fmN x) = t at hs hz
  have base : ∀ r, (Ev (fun k => (spec_FormatNumber.f k x).bind fun t166 => ((spec_l1Below.f l i1 h1 6).bind fun bt167 => (if bt167.1 = 0 then (if 1 + t166.size ≤ 9223372036854775807 then (some ((⟨#[48]⟩ : ByteArray) ++ t166)) else (none)) else (if bt167.1 = 1 then ((spec_l1Str.f l bt167.2.1 bt167.2.2 (([(⟨#[48]⟩ : ByteArray), (⟨#[97]⟩ : ByteArray), (⟨#[47]⟩ : ByteArray), (⟨#[58]⟩ : ByteArray), (⟨#[32]⟩ : ByteArray)] : List ByteArray))).bind fun bt173 => (if t166.size + bt173.1.size ≤ 9223372036854775807 then (some (t166 ++ bt173.1)) else (none))) else (if bt167.1 = 2 then ((spec_l1Str.f l bt167.2.1 bt167.2.2 (([(⟨#[]⟩ : ByteArray), (⟨#[45, 49]⟩ : ByteArray), (⟨#[45]⟩ : ByteArray), (⟨#[43, 49]⟩ : ByteArray), (⟨#[49, 48, 48, 48]⟩ : ByteArray), (⟨#[57, 57, 57]⟩ : ByteArray), (⟨#[48, 48]⟩ : ByteArray), (⟨#[49, 56, 52, 52, 54, 55, 52, 52, 48, 55, 51, 55, 48, 57, 53, 53, 49, 54, 49, 54]⟩ : ByteArray), (⟨#[47, 57]⟩ : ByteArray), (⟨#[48, 58]⟩ : ByteArray)] : List ByteArray))).bind fun bt179 => (some bt179.1)) else (some t166)))))) r) → Ev (fun k => spec_DrawParseNumber.f k l) r := fun r hr => by
    unfold spec_DrawParseNumber.f
    refine Ev.bind hn ?_
    simp only [e1, Option.bind_some]
    exact hr
  by_cases c0 : c = 0
  · refine ⟨(⟨#[48]⟩ : ByteArray) ++ t, base _ (Ev.bind hs ?_)⟩
    simp only [e2, Option.bind_some, if_pos c0, if_pos (show 1 + t.size ≤ 9223372036854775807 by omega)]
    exact Ev.now _
  · by_cases c1 : c = 1
    · obtain ⟨y, i3, h3, e3, hy, _⟩ := dStr h2 (m := [(⟨#[48]⟩ : ByteArray), (⟨#[97]⟩ : ByteArray), (⟨#[47]⟩ : ByteArray), (⟨#[58]⟩ : ByteArray), (⟨#[32]⟩ : ByteArray)]) hl hi2 (by simp)
      have hyz : y.size ≤ 2 := by
        simp only [List.mem_cons, List.not_mem_nil, or_false] at hy
        rcases hy with rfl | rfl | rfl | rfl | rfl <;> decide
      refine ⟨t ++ y, base _ (Ev.bind hs ?_)⟩
      simp only [e2, Option.bind_some, if_neg c0, if_pos c1, e3, if_pos (show t.size + y.size ≤ 9223372036854775807 by omega)]
      exact Ev.now _
    · by_cases c2 : c = 2
      · obtain ⟨y, i3, h3, e3, hy, _⟩ := dStr h2 (m := [(⟨#[]⟩ : ByteArray), (⟨#[45, 49]⟩ : ByteArray), (⟨#[45]⟩ : ByteArray), (⟨#[43, 49]⟩ : ByteArray), (⟨#[49, 48, 48, 48]⟩ : ByteArray), (⟨#[57, 57, 57]⟩ : ByteArray), (⟨#[48, 48]⟩ : ByteArray), (⟨#[49, 56, 52, 52, 54, 55, 52, 52, 48, 55, 51, 55, 48, 57, 53, 53, 49, 54, 49, 54]⟩ : ByteArray), (⟨#[47, 57]⟩ : ByteArray), (⟨#[48, 58]⟩ : ByteArray)]) hl hi2 (by simp)
        refine ⟨y, base _ (Ev.bind hs ?_)⟩
        simp only [e2, Option.bind_some, if_neg c0, if_neg c1, if_pos c2, e3]
        exact Ev.now _
      · refine ⟨t, base _ (Ev.bind hs ?_)⟩
        simp only [e2, Option.bind_some, if_neg c0, if_neg c1, if_neg c2]
        exact Ev.now _

theorem drawSA_loop (l : List Int) (hl : l.length ≤ 4096) (sep : ByteArray) (hsep : sep.size ≤ 2) (d : Nat) : ∀ (acc : ByteArray) (n i h : Int), 0 ≤ i → n ≤ d → acc.size + 4 * d ≤ 1000 →
    ∃ t, Ev (fun k => spec_DrawSplitAt.l0 k sep acc n l i h) (t, sep) ∧ t.size ≤ 1010 := by
  have fin : ∀ (acc : ByteArray) (n i h : Int), 0 ≤ i → ¬ n > 0 → acc.size ≤ 1000 → ∃ t, Ev (fun k => spec_DrawSplitAt.l0 k sep acc n l i h) (t, sep) ∧ t.size ≤ 1010 := by
    intro acc n i h hi hn ha
    obtain ⟨y, i3, h3, e3, hy, _⟩ := dStr h (m := [(⟨#[]⟩ : ByteArray), (⟨#[97]⟩ : ByteArray), (⟨#[59]⟩ : ByteArray)]) hl hi (by simp)
    have hyz : y.size ≤ 2 := by
      simp only [List.mem_cons, List.not_mem_nil, or_false] at hy
      rcases hy with rfl | rfl | rfl <;> decide
    refine ⟨acc ++ y, Ev.succ' ?_, by rw [ByteArray.size_append]; omega⟩
    simp only [spec_DrawSplitAt.l0, if_neg hn, e3, Option.bind_some, if_pos (show acc.size + y.size ≤ 9223372036854775807 by omega)]
    exact Ev.now _
  induction d with
  | zero => intro acc n i h hi hn ha; exact fin acc n i h hi (by omega) (by omega)
  | succ d ih =>
    intro acc n i h hi hn ha
    by_cases hz : n > 0
    · obtain ⟨y, i3, h3, e3, hy, hi3⟩ := dStr h (m := [(⟨#[97]⟩ : ByteArray), (⟨#[98]⟩ : ByteArray), (⟨#[]⟩ : ByteArray), (⟨#[97, 98]⟩ : ByteArray), (⟨#[43]⟩ : ByteArray), (⟨#[59, 32]⟩ : ByteArray)]) hl hi (by simp)
      have hyz : y.size ≤ 2 := by
        simp only [List.mem_cons, List.not_mem_nil, or_false] at hy
        rcases hy with rfl | rfl | rfl | rfl | rfl | rfl <;> decide
      have es : (acc ++ y).size = acc.size + y.size := ByteArray.size_append
      obtain ⟨t, h4, h5⟩ := ih ((acc ++ y) ++ sep) (n - 1) i3 h3 hi3 (by omega) (by rw [ByteArray.size_append, es]; omega)
      refine ⟨t, Ev.succ' ?_, h5⟩
      simp only [spec_DrawSplitAt.l0, if_pos hz, e3, Option.bind_some, es, if_pos (show acc.size + y.size ≤ 9223372036854775807 by omega), if_pos (show acc.size + y.size + sep.size ≤ 9223372036854775807 by omega)]
      rw [show wrap64 (n - 1) = n - 1 from w64 (by omega) (by omega)]
      exact h4
    · exact fin acc n i h hi hz (by omega)
theorem drawSA (l : List Int) (hl : l.length ≤ 4096) : ∃ t p, Ev (fun k => spec_DrawSplitAt.f k l) (t, p) ∧ t.size ≤ 1048576 := by
  obtain ⟨h, hn⟩ := dNew l hl
  obtain ⟨p, i1, h1, e1, hy, hi1⟩ := dStr h (m := [(⟨#[59, 32]⟩ : ByteArray), (⟨#[43]⟩ : ByteArray), (⟨#[32]⟩ : ByteArray), (⟨#[97, 97]⟩ : ByteArray), (⟨#[]⟩ : ByteArray), (⟨#[97]⟩ : ByteArray)]) hl (Int.le_refl 0) (by simp)
  have hp : p.size ≤ 2 := by
    simp only [List.mem_cons, List.not_mem_nil, or_false] at hy
    rcases hy with rfl | rfl | rfl | rfl | rfl | rfl <;> decide
  obtain ⟨c, i2, h2, e2, hc, hi2⟩ := dBelow h1 (n := 6) hl hi1 (by omega)
  obtain ⟨t, h4, h5⟩ := drawSA_loop l hl p hp 6 ⟨#[]⟩ c i2 h2 hi2 (by omega) (by decide)
  refine ⟨t, p, ?_, by omega⟩
  unfold spec_DrawSplitAt.f
  refine Ev.bind hn ?_
  simp only [e1, Option.bind_some, e2]
  exact h4

theorem FnNumbers : ∀ (l0 : List Int), l0.length ≤ maxLen → l0.length * 1 ≤ 140737488351232 → (∀ x ∈ l0, (Lit.int .u8 x).wf = true) → ∃ k, laws_FnNumbers.f k l0 = some true := by
  intro l _ _ _
  refine Ev.rounds (r := true) ?_
  unfold laws_FnNumbers.f
  simp only [lawBig, Option.bind_some, decide_eq_true_eq]
  by_cases hb : (l.length : Int) > 4096
  · simp only [if_pos hb]
    exact Ev.now _
  · simp only [if_neg hb]
    obtain ⟨n, hn, hI⟩ := drawFN l (by omega)
    obtain ⟨s, hs⟩ := drawPN l (by omega)
    obtain ⟨t, p, htp, hts⟩ := drawSA l (by omega)
    have hsp := ispl t p hts
    have hjn := ijoin t p hts
    have hj : Ev (fun k => laws_FnNumbers.j0 k l false) true := by
      refine Ev.succ' ?_
      simp only [laws_FnNumbers.j0, Bool.false_eq_true, if_false]
      refine Ev.bind hs (Ev.bind (iparse_ev s) (Ev.bind htp ?_))
      simp only [hsp, hjn, Option.bind_some, beq_self_eq_true]
      cases hk : (numOf s).2 with
      | true =>
        obtain ⟨e, h0, h9⟩ := numOf_true hk
        simp only [if_true, iItoa (numOf s).1 (by omega) (by omega), Option.bind_some]
        rw [← e]
        simp only [if_true]
        exact Ev.now _
      | false =>
        simp only [Bool.false_eq_true, if_false, numOf_false hk, if_true]
        exact Ev.now _
    unfold I64 at hI
    refine Ev.bind hn ?_
    simp only [iItoa n hI.1 hI.2, Option.bind_some]
    refine Ev.bind (iparse_ev _) ?_
    rw [numOf_fmN]
    by_cases h1 : 0 ≤ n ∧ n ≤ 999
    · simp only [if_pos h1, if_pos (show n ≥ 0 from h1.1), decide_eq_true h1.2, bne_self_eq_false, Bool.false_eq_true, if_false, if_true]
      exact hj
    · simp only [if_neg h1]
      by_cases h2 : n ≥ 0
      · simp only [if_pos h2, decide_eq_false (show ¬ n ≤ 999 by omega), bne_self_eq_false, Bool.false_eq_true, if_false]
        exact hj
      · simp only [if_neg h2, bne_self_eq_false, Bool.false_eq_true, if_false]
        exact hj

end Go.Proofs.YtcnkfnkdcjpkoaaDoor.Pure
