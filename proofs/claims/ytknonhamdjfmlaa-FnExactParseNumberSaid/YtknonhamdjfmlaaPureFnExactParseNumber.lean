/- The plain law behind FnExactParseNumber: for every input that the row lets in, the printed function of the law answers true. No condition beyond the bounds that the statement names. -/
import Derived.Test.YtknonhamdjfmlaaPFnExactParseNumberx1
namespace Go.Proofs.Ytknonhamdjfmlaa.Pure
open Go.RowKit Go.Proofs.Ytknonhamdjfmlaa.PFnExactParseNumber Go.Proofs.YtknonhamdjfmlaaW.PrintWords Go.Proofs.YtknonhamdjfmlaaW.PrintLast
set_option linter.unusedVariables false
set_option linter.unusedSimpArgs false

theorem w64 {x : Int} (h0 : -9223372036854775808 ≤ x) (h1 : x ≤ 9223372036854775807) : wrap64 x = x := by unfold wrap64; omega
theorem wfb {a : Int} (h : (Lit.int .i64 a).wf = true) : -9223372036854775808 ≤ a ∧ a ≤ 9223372036854775807 := by
  simp [Lit.wf, IntKind.min, IntKind.max, IntKind.signed, IntKind.bits] at h
  omega
theorem dec_congr {p q : Prop} [Decidable p] [Decidable q] (h : p ↔ q) : decide p = decide q := by simp [h]

theorem tmod_pos {a b : Int} (h : 0 ≤ a) : Int.tmod a b = a % b := Int.tmod_eq_emod_of_nonneg h
theorem tmod_neg' (a b : Int) : Int.tmod (-a) b = -(Int.tmod a b) := Int.neg_tmod a b
theorem tdiv_pos {a b : Int} (h : 0 ≤ a) : Int.tdiv a b = a / b := Int.tdiv_eq_ediv_of_nonneg h
theorem tmod4 (n : Int) : (Int.tmod n 4 < 0 → Int.tmod n 4 + 4 = n % 4) ∧ (¬ Int.tmod n 4 < 0 → Int.tmod n 4 = n % 4) ∧ -3 ≤ Int.tmod n 4 ∧ Int.tmod n 4 ≤ 3 := by
  rcases Int.le_total 0 n with h | h
  · rw [tmod_pos h]; omega
  · obtain ⟨m, rfl⟩ : ∃ m, n = -m := ⟨-n, by omega⟩
    rw [tmod_neg', tmod_pos (by omega)]; omega

def IsBytes (l : List Int) : Prop := ∀ x ∈ l, 0 ≤ x ∧ x ≤ 255
theorem IsBytes.append {a b : List Int} (ha : IsBytes a) (hb : IsBytes b) : IsBytes (a ++ b) := fun x hx => by
  rcases List.mem_append.1 hx with h | h
  · exact ha x h
  · exact hb x h
theorem IsBytes.cons {x : Int} {b : List Int} (hx : 0 ≤ x ∧ x ≤ 255) (hb : IsBytes b) : IsBytes (x :: b) := fun y hy => by
  rcases List.mem_cons.1 hy with h | h
  · rw [h]; exact hx
  · exact hb y h
theorem IsBytes.nil : IsBytes [] := fun x hx => by cases hx
theorem bytesOf_isBytes (s : ByteArray) : IsBytes (bytesOf s) := fun x hx => by
  unfold bytesOf at hx
  obtain ⟨b, _, rfl⟩ := List.mem_map.1 hx
  have := b.toNat_lt
  omega
theorem str_bytesOf (s : ByteArray) : strOfNums (bytesOf s) = s := by
  apply ByteArray.ext
  apply Array.ext'
  rw [strOfNums_data]
  unfold bytesOf
  rw [List.map_map]
  conv => rhs; rw [← List.map_id s.data.toList]
  apply List.map_congr_left
  intro b _
  simp
theorem bytesOf_str {l : List Int} (h : IsBytes l) : bytesOf (strOfNums l) = l := by
  unfold bytesOf
  rw [strOfNums_data, List.map_map]
  conv => rhs; rw [← List.map_id l]
  apply List.map_congr_left
  intro x hx
  have := h x hx
  simp
  omega
theorem str_append (a b : List Int) : strOfNums a ++ strOfNums b = strOfNums (a ++ b) := by
  apply ByteArray.ext
  rw [ByteArray.data_append]
  apply Array.ext'
  simp [strOfNums]
theorem str_inj {a b : List Int} (ha : IsBytes a) (hb : IsBytes b) (h : strOfNums a = strOfNums b) : a = b := by
  rw [← bytesOf_str ha, ← bytesOf_str hb, h]
theorem toList_inj {s t : ByteArray} : s.toList = t.toList ↔ s = t := by
  constructor
  · intro h
    rw [ByteArray.toList_eq, ByteArray.toList_eq] at h
    apply ByteArray.ext
    exact Array.ext' h
  · intro h; rw [h]
theorem str_eq {l : List Int} (h : IsBytes l) (s : ByteArray) : (strOfNums l).toList = s.toList ↔ l = bytesOf s := by
  rw [toList_inj]
  constructor
  · intro e; rw [← e, bytesOf_str h]
  · intro e; rw [e, str_bytesOf]
theorem bt_rd (s : ByteArray) (i : Int) : bt s i = (bytesOf s).getD i.toNat 0 := by
  rw [← rd_bytesOf]; rfl

def dig (n : Nat) : List Int := if h : n < 10 then [48 + (n : Int)] else dig (n / 10) ++ [48 + ((n % 10 : Nat) : Int)]
termination_by n
decreasing_by omega
theorem dig_lt {n : Nat} (h : n < 10) : dig n = [48 + (n : Int)] := by rw [dig, dif_pos h]
theorem dig_ge {n : Nat} (h : ¬ n < 10) : dig n = dig (n / 10) ++ [48 + ((n % 10 : Nat) : Int)] := by rw [dig, dif_neg h]
theorem dig_digits : ∀ n, ∀ x ∈ dig n, 48 ≤ x ∧ x ≤ 57 := by
  intro n
  induction n using Nat.strongRecOn with
  | _ n ih =>
    by_cases h : n < 10
    · rw [dig_lt h]; intro x hx; simp at hx; omega
    · rw [dig_ge h]; intro x hx
      rcases List.mem_append.1 hx with h1 | h1
      · exact ih _ (by omega) x h1
      · simp at h1; omega
theorem dig_bytes (n : Nat) : IsBytes (dig n) := fun x hx => by have := dig_digits n x hx; omega
theorem dig_len : ∀ n, 1 ≤ (dig n).length ∧ (dig n).length ≤ n + 1 := by
  intro n
  induction n using Nat.strongRecOn with
  | _ n ih =>
    by_cases h : n < 10
    · rw [dig_lt h]; simp
    · rw [dig_ge h]; have := ih (n / 10) (by omega); simp; omega
theorem dig1 {n : Nat} (h : n ≤ 9) : dig n = [48 + (n : Int)] := dig_lt (by omega)
theorem dig2 {n : Nat} (h : 10 ≤ n) (h2 : n ≤ 99) : dig n = [48 + ((n / 10 : Nat) : Int), 48 + ((n % 10 : Nat) : Int)] := by
  rw [dig_ge (by omega), dig_lt (by omega)]; rfl
theorem dig3 {n : Nat} (h : 100 ≤ n) (h2 : n ≤ 999) : dig n = [48 + ((n / 100 : Nat) : Int), 48 + ((n / 10 % 10 : Nat) : Int), 48 + ((n % 10 : Nat) : Int)] := by
  rw [dig_ge (by omega), dig2 (by omega) (by omega), Nat.div_div_eq_div_mul]; rfl

theorem sfmt_ev : ∀ n : Nat, n ≤ 9223372036854775807 → Ev (fun k => spec_FormatNumber.f k (n : Int)) (strOfNums (dig n)) := by
  intro n
  induction n using Nat.strongRecOn with
  | _ n ih =>
    intro hn
    have e1 : wrap64 (48 + Int.tmod (n : Int) 10) % 256 = 48 + ((n % 10 : Nat) : Int) := by
      rw [tmod_pos (by omega), w64 (by omega) (by omega)]; omega
    have e2 : wrap64 (Int.tdiv (n : Int) 10) = ((n / 10 : Nat) : Int) := by
      rw [tdiv_pos (by omega), w64 (by omega) (by omega)]; omega
    by_cases h : n < 10
    · refine Ev.step (f := fun _ => some (strOfNums (dig n))) (fun k => ?_) (Ev.now _)
      simp only [spec_FormatNumber.f, e1, e2]
      rw [if_neg (by omega), if_neg (by omega)]
      simp only [Option.bind_some]
      rw [if_neg (by omega), dig_lt h]
      have : ((n % 10 : Nat) : Int) = (n : Int) := by omega
      rw [this]
    · have hb : Ev (fun k => (spec_FormatNumber.f k ((n / 10 : Nat) : Int)).bind fun t => if t.size + (strOfNums [48 + ((n % 10 : Nat) : Int)]).size ≤ 9223372036854775807 then some (t ++ strOfNums [48 + ((n % 10 : Nat) : Int)]) else none) (strOfNums (dig n)) := by
        refine Ev.bind (ih (n / 10) (by omega) (by omega)) ?_
        have := dig_len (n / 10)
        simp only [strOfNums_size, List.length_singleton]
        rw [if_pos (by omega), str_append, ← dig_ge h]
        exact Ev.now _
      refine Ev.step (fun k => ?_) hb
      simp only [spec_FormatNumber.f, e1, e2]
      rw [if_neg (by omega), if_neg (by omega)]
      simp only [Option.bind_some]
      rw [if_pos (by omega)]

/-- What the reference answers once n is read. -/
def numFin (s : ByteArray) (n : Int) : Int × Bool := if s.size = 0 ∨ n < 0 ∨ n > 999 then (0, false) else if dig n.toNat = bytesOf s then (n, true) else (0, false)
theorem sparse_fin (s : ByteArray) (n i : Int) (hi : i = (s.size : Int) ∨ i = 4) : Ev (fun k => spec_ParseNumber.l0 k s n i) (numFin s n) := by
  by_cases h0 : s.size = 0 ∨ n < 0 ∨ n > 999
  · refine Ev.step (f := fun _ => some (numFin s n)) (fun k => ?_) (Ev.now _)
    unfold numFin
    rw [if_pos h0]
    simp only [spec_ParseNumber.l0]
    repeat' split
    all_goals first | rfl | omega
  · have hf : Ev (fun k => (spec_FormatNumber.f k n).bind fun t => if t.toList = s.toList then some (n, true) else some (0, false)) (numFin s n) := by
      have he := sfmt_ev n.toNat (by omega)
      rw [show ((n.toNat : Nat) : Int) = n by omega] at he
      refine Ev.bind he ?_
      unfold numFin
      rw [if_neg h0]
      simp only [str_eq (dig_bytes _)]
      split <;> exact Ev.now _
    refine Ev.step (fun k => ?_) hf
    simp only [spec_ParseNumber.l0]
    repeat' split
    all_goals first | rfl | omega
theorem sparse_step (s : ByteArray) (n i : Int) (r : Int × Bool) (h0 : 0 ≤ i) (h1 : i < (s.size : Int)) (h4 : i < 4) (hn : -1000000 ≤ n ∧ n ≤ 1000000)
    (h : Ev (fun k => spec_ParseNumber.l0 k s (10 * n + bt s i - 48) (i + 1)) r) : Ev (fun k => spec_ParseNumber.l0 k s n i) r := by
  refine Ev.step (fun k => ?_) h
  have hb := bt_range s i
  simp only [spec_ParseNumber.l0]
  rw [if_pos h1, if_pos h4, if_pos h0, w64 (x := 10 * n) (by omega) (by omega), w64 (x := bt s i) (by omega) (by omega), w64 (x := 10 * n + bt s i) (by omega) (by omega), w64 (x := _ - 48) (by omega) (by omega), w64 (x := i + 1) (by omega) (by omega)]
theorem iparse_end (s : ByteArray) (n : Int) : Ev (fun k => impl_ParseNumber.l0 k s n (s.size : Int) (s.size : Int)) (n, true) := by
  refine Ev.step (f := fun _ => some (n, true)) (fun k => ?_) (Ev.now _)
  simp only [impl_ParseNumber.l0]
  rw [if_neg (by omega)]
theorem iparse_bad (s : ByteArray) (n i : Int) (h0 : 0 ≤ i) (h1 : i < (s.size : Int)) (hb : bt s i < 48 ∨ bt s i > 57) : Ev (fun k => impl_ParseNumber.l0 k s n (s.size : Int) i) (0, false) := by
  refine Ev.step (f := fun _ => some (0, false)) (fun k => ?_) (Ev.now _)
  simp only [impl_ParseNumber.l0]
  rw [if_pos h1, if_pos h0, if_pos h1]
  repeat' split
  all_goals first | rfl | omega
theorem iparse_step (s : ByteArray) (n i : Int) (r : Int × Bool) (h0 : 0 ≤ i) (h1 : i < (s.size : Int)) (hs : s.size ≤ 1000) (hn : -1000000 ≤ n ∧ n ≤ 1000000) (hb : 48 ≤ bt s i ∧ bt s i ≤ 57)
    (h : Ev (fun k => impl_ParseNumber.l0 k s (10 * n + (bt s i - 48)) (s.size : Int) (i + 1)) r) : Ev (fun k => impl_ParseNumber.l0 k s n (s.size : Int) i) r := by
  refine Ev.step (fun k => ?_) h
  simp only [impl_ParseNumber.l0]
  rw [if_pos h1, if_pos h0, if_pos h1, if_neg (by omega), if_neg (by omega), w64 (x := 10 * n) (by omega) (by omega), show (bt s i - 48) % 256 = bt s i - 48 by omega, w64 (x := _ + (bt s i - 48)) (by omega) (by omega), w64 (x := i + 1) (by omega) (by omega)]
/-- What both answer. -/
def numOf (s : ByteArray) : Int × Bool :=
  if s.size = 1 then (if 48 ≤ bt s 0 ∧ bt s 0 ≤ 57 then (bt s 0 - 48, true) else (0, false))
  else if s.size = 2 then (if (49 ≤ bt s 0 ∧ bt s 0 ≤ 57) ∧ (48 ≤ bt s 1 ∧ bt s 1 ≤ 57) then (10 * (bt s 0 - 48) + (bt s 1 - 48), true) else (0, false))
  else if s.size = 3 then (if (49 ≤ bt s 0 ∧ bt s 0 ≤ 57) ∧ (48 ≤ bt s 1 ∧ bt s 1 ≤ 57) ∧ (48 ≤ bt s 2 ∧ bt s 2 ≤ 57) then (100 * (bt s 0 - 48) + 10 * (bt s 1 - 48) + (bt s 2 - 48), true) else (0, false))
  else (0, false)
theorem bytes1 {s : ByteArray} (h : s.size = 1) : bytesOf s = [bt s 0] := by
  have hl := bytesOf_length s
  rw [h] at hl
  rw [bt_rd]
  match bytesOf s, hl with
  | [a], _ => rfl
theorem bytes2 {s : ByteArray} (h : s.size = 2) : bytesOf s = [bt s 0, bt s 1] := by
  have hl := bytesOf_length s
  rw [h] at hl
  rw [bt_rd, bt_rd]
  match bytesOf s, hl with
  | [a, b], _ => rfl
theorem bytes3 {s : ByteArray} (h : s.size = 3) : bytesOf s = [bt s 0, bt s 1, bt s 2] := by
  have hl := bytesOf_length s
  rw [h] at hl
  rw [bt_rd, bt_rd, bt_rd]
  match bytesOf s, hl with
  | [a, b, c], _ => rfl
theorem fin_of_len {s : ByteArray} (n : Int) (h : s.size ≠ 0) (h2 : 0 ≤ n → n ≤ 999 → (dig n.toNat).length ≠ s.size) : numFin s n = (0, false) := by
  unfold numFin
  split
  · rfl
  · rw [if_neg]
    intro e
    exact h2 (by omega) (by omega) (by rw [e, bytesOf_length])
theorem dig_len999 {n : Nat} (h : n ≤ 999) : (dig n).length = if n ≤ 9 then 1 else if n ≤ 99 then 2 else 3 := by
  by_cases h1 : n ≤ 9
  · rw [dig1 h1, if_pos h1]; rfl
  · by_cases h2 : n ≤ 99
    · rw [dig2 (by omega) h2, if_neg h1, if_pos h2]; rfl
    · rw [dig3 (by omega) h, if_neg h1, if_neg h2]; rfl
theorem fin1 {s : ByteArray} (h : s.size = 1) : numFin s (10 * 0 + bt s 0 - 48) = numOf s := by
  have hb := bt_range s 0
  unfold numOf
  rw [if_pos h]
  by_cases hd : 48 ≤ bt s 0 ∧ bt s 0 ≤ 57
  · rw [if_pos hd]
    unfold numFin
    rw [if_neg (by omega), dig1 (by omega), bytes1 h, if_pos (by simp; omega)]
    simp
  · rw [if_neg hd]
    apply fin_of_len _ (by omega)
    intro h1 h2
    rw [dig_len999 (by omega), if_neg (by omega)]
    split <;> omega
theorem fin2 {s : ByteArray} (h : s.size = 2) : numFin s (10 * (10 * 0 + bt s 0 - 48) + bt s 1 - 48) = numOf s := by
  have hb := bt_range s 0
  have hc := bt_range s 1
  unfold numOf
  rw [if_neg (by omega), if_pos h]
  by_cases hd : (49 ≤ bt s 0 ∧ bt s 0 ≤ 57) ∧ (48 ≤ bt s 1 ∧ bt s 1 ≤ 57)
  · rw [if_pos hd]
    unfold numFin
    rw [if_neg (by omega), dig2 (by omega) (by omega), bytes2 h, if_pos (by simp only [List.cons.injEq, and_true]; omega)]
    simp only [Prod.mk.injEq, and_true]; omega
  · rw [if_neg hd]
    unfold numFin
    split
    · rfl
    · rw [if_neg]
      rw [bytes2 h]
      intro e
      have hl := congrArg List.length e
      rw [dig_len999 (by omega)] at hl
      simp only [List.length_cons, List.length_nil] at hl
      by_cases h9 : (10 * (10 * 0 + bt s 0 - 48) + bt s 1 - 48).toNat ≤ 9
      · rw [if_pos h9] at hl; omega
      · rw [if_neg h9] at hl
        by_cases h99 : (10 * (10 * 0 + bt s 0 - 48) + bt s 1 - 48).toNat ≤ 99
        · rw [dig2 (by omega) (by omega)] at e
          simp only [List.cons.injEq, and_true] at e
          omega
        · rw [if_neg h99] at hl; omega
theorem fin3 {s : ByteArray} (h : s.size = 3) : numFin s (10 * (10 * (10 * 0 + bt s 0 - 48) + bt s 1 - 48) + bt s 2 - 48) = numOf s := by
  have hb := bt_range s 0
  have hc := bt_range s 1
  have hd' := bt_range s 2
  unfold numOf
  rw [if_neg (by omega), if_neg (by omega), if_pos h]
  by_cases hd : (49 ≤ bt s 0 ∧ bt s 0 ≤ 57) ∧ (48 ≤ bt s 1 ∧ bt s 1 ≤ 57) ∧ (48 ≤ bt s 2 ∧ bt s 2 ≤ 57)
  · rw [if_pos hd]
    unfold numFin
    rw [if_neg (by omega), dig3 (by omega) (by omega), bytes3 h, if_pos (by simp only [List.cons.injEq, and_true]; omega)]
    simp only [Prod.mk.injEq, and_true]; omega
  · rw [if_neg hd]
    unfold numFin
    split
    · rfl
    · rw [if_neg]
      rw [bytes3 h]
      intro e
      have hl := congrArg List.length e
      rw [dig_len999 (by omega)] at hl
      simp only [List.length_cons, List.length_nil] at hl
      by_cases h9 : (10 * (10 * (10 * 0 + bt s 0 - 48) + bt s 1 - 48) + bt s 2 - 48).toNat ≤ 9
      · rw [if_pos h9] at hl; omega
      · rw [if_neg h9] at hl
        by_cases h99 : (10 * (10 * (10 * 0 + bt s 0 - 48) + bt s 1 - 48) + bt s 2 - 48).toNat ≤ 99
        · rw [if_pos h99] at hl; omega
        · rw [dig3 (by omega) (by omega)] at e
          simp only [List.cons.injEq, and_true] at e
          omega
theorem sparse_ev (s : ByteArray) : Ev (fun k => spec_ParseNumber.f k s) (numOf s) := by
  have hb := bt_range s 0
  have hc := bt_range s 1
  have hd := bt_range s 2
  have he := bt_range s 3
  have hc' := bt_range s (0 + 1)
  have hd' := bt_range s (0 + 1 + 1)
  have he' := bt_range s (0 + 1 + 1 + 1)
  show Ev (fun k => spec_ParseNumber.l0 k s 0 0) (numOf s)
  by_cases h0 : s.size = 0
  · have : numOf s = numFin s 0 := by
      unfold numOf numFin
      rw [if_neg (by omega), if_neg (by omega), if_neg (by omega), if_pos (by omega)]
    rw [this]
    exact sparse_fin s 0 0 (by omega)
  · refine sparse_step s _ _ _ (by omega) (by omega) (by omega) (by omega) ?_
    by_cases h1 : s.size = 1
    · rw [← fin1 h1]; exact sparse_fin s _ _ (by omega)
    · refine sparse_step s _ _ _ (by omega) (by omega) (by omega) (by omega) ?_
      by_cases h2 : s.size = 2
      · rw [← fin2 h2]; exact sparse_fin s _ _ (by omega)
      · refine sparse_step s _ _ _ (by omega) (by omega) (by omega) (by omega) ?_
        by_cases h3 : s.size = 3
        · rw [← fin3 h3]; exact sparse_fin s _ _ (by omega)
        · refine sparse_step s _ _ _ (by omega) (by omega) (by omega) (by omega) ?_
          have : numOf s = numFin s (10 * (10 * (10 * (10 * 0 + bt s 0 - 48) + bt s (0 + 1) - 48) + bt s (0 + 1 + 1) - 48) + bt s (0 + 1 + 1 + 1) - 48) := by
            rw [fin_of_len _ (by omega)]
            · unfold numOf
              rw [if_neg (by omega), if_neg (by omega), if_neg (by omega)]
            · intro x1 x2
              rw [dig_len999 (by omega)]
              repeat' split
              all_goals omega
          rw [this]
          exact sparse_fin s _ _ (by omega)
theorem iparse_ev (s : ByteArray) : Ev (fun k => impl_ParseNumber.f k s) (numOf s) := by
  have hbad : ∀ b : Bool, b = true → Ev (fun k => impl_ParseNumber.j0 k s b) (0, false) := fun b hb => by
    refine Ev.step (f := fun _ => some (0, false)) (fun k => ?_) (Ev.now _)
    simp only [impl_ParseNumber.j0]
    rw [if_pos hb]
  have hgood : ∀ (b : Bool) (r : Int × Bool), b = false → Ev (fun k => impl_ParseNumber.l0 k s 0 (s.size : Int) 0) r → Ev (fun k => impl_ParseNumber.j0 k s b) r := fun b r hb h => by
    refine Ev.step (fun k => ?_) h
    simp only [impl_ParseNumber.j0]
    rw [if_neg (by simp [hb])]
  unfold impl_ParseNumber.f
  by_cases h0 : s.size = 0
  · simp only [if_pos (show (s.size : Int) = 0 by omega)]
    have : numOf s = (0, false) := by unfold numOf; rw [if_neg (by omega), if_neg (by omega), if_neg (by omega)]
    rw [this]
    exact hbad _ rfl
  · simp only [if_neg (show ¬ (s.size : Int) = 0 by omega)]
    by_cases h4 : s.size > 3
    · simp only [if_pos (show (s.size : Int) > 3 by omega)]
      have : numOf s = (0, false) := by unfold numOf; rw [if_neg (by omega), if_neg (by omega), if_neg (by omega)]
      rw [this]
      exact hbad _ rfl
    · simp only [if_neg (show ¬ (s.size : Int) > 3 by omega)]
      by_cases h1 : s.size = 1
      · simp only [if_neg (show ¬ (s.size : Int) > 1 by omega)]
        refine hgood _ _ rfl ?_
        unfold numOf
        rw [if_pos h1]
        by_cases hd : 48 ≤ bt s 0 ∧ bt s 0 ≤ 57
        · rw [if_pos hd]
          refine iparse_step s _ _ _ (by omega) (by omega) (by omega) (by omega) hd ?_
          have := iparse_end s (10 * 0 + (bt s 0 - 48))
          rw [h1] at this ⊢
          simpa using this
        · rw [if_neg hd]
          exact iparse_bad s _ _ (by omega) (by omega) (by omega)
      · simp only [if_pos (show (s.size : Int) > 1 by omega), if_pos (show 0 < (s.size : Int) by omega)]
        by_cases hz : bt s 0 = 48
        · have : numOf s = (0, false) := by
            unfold numOf
            rw [if_neg h1]
            split
            · rw [if_neg (by omega)]
            · split
              · rw [if_neg (by omega)]
              · rfl
          rw [this]
          exact hbad _ (by simp [hz])
        · refine hgood _ _ (by simp [hz]) ?_
          unfold numOf
          rw [if_neg h1]
          by_cases d0 : 48 ≤ bt s 0 ∧ bt s 0 ≤ 57
          · refine iparse_step s _ _ _ (by omega) (by omega) (by omega) (by omega) d0 ?_
            by_cases d1 : 48 ≤ bt s 1 ∧ bt s 1 ≤ 57
            · refine iparse_step s _ _ _ (by omega) (by omega) (by omega) (by omega) d1 ?_
              by_cases h2 : s.size = 2
              · rw [if_pos h2, if_pos (by omega)]
                have := iparse_end s (10 * (bt s 0 - 48) + (bt s 1 - 48))
                rw [h2] at this ⊢
                simpa using this
              · have h3 : s.size = 3 := by omega
                have hc' := bt_range s (0 + 1)
                rw [if_neg h2, if_pos h3]
                by_cases d2 : 48 ≤ bt s 2 ∧ bt s 2 ≤ 57
                · refine iparse_step s _ _ _ (by omega) (by omega) (by omega) (by omega) d2 ?_
                  rw [if_pos (by omega)]
                  have := iparse_end s (100 * (bt s 0 - 48) + 10 * (bt s 1 - 48) + (bt s 2 - 48))
                  rw [h3] at this ⊢
                  rw [show 10 * (10 * (10 * 0 + (bt s 0 - 48)) + (bt s (0 + 1) - 48)) + (bt s (0 + 1 + 1) - 48) = 100 * (bt s 0 - 48) + 10 * (bt s 1 - 48) + (bt s 2 - 48) by show 10 * (10 * (10 * 0 + (bt s 0 - 48)) + (bt s 1 - 48)) + (bt s 2 - 48) = _; omega]
                  simpa using this
                · rw [if_neg (by omega)]
                  exact iparse_bad s _ _ (by omega) (by omega) (by show bt s 2 < 48 ∨ bt s 2 > 57; omega)
            · have : (if s.size = 2 then (if (49 ≤ bt s 0 ∧ bt s 0 ≤ 57) ∧ (48 ≤ bt s 1 ∧ bt s 1 ≤ 57) then (10 * (bt s 0 - 48) + (bt s 1 - 48), true) else (0, false))
                  else if s.size = 3 then (if (49 ≤ bt s 0 ∧ bt s 0 ≤ 57) ∧ (48 ≤ bt s 1 ∧ bt s 1 ≤ 57) ∧ (48 ≤ bt s 2 ∧ bt s 2 ≤ 57) then (100 * (bt s 0 - 48) + 10 * (bt s 1 - 48) + (bt s 2 - 48), true) else (0, false))
                  else (0, false)) = ((0, false) : Int × Bool) := by
                split
                · rw [if_neg (by omega)]
                · split
                  · rw [if_neg (by omega)]
                  · rfl
              rw [this]
              exact iparse_bad s _ _ (by omega) (by omega) (by show bt s 1 < 48 ∨ bt s 1 > 57; omega)
          · have : (if s.size = 2 then (if (49 ≤ bt s 0 ∧ bt s 0 ≤ 57) ∧ (48 ≤ bt s 1 ∧ bt s 1 ≤ 57) then (10 * (bt s 0 - 48) + (bt s 1 - 48), true) else (0, false))
                else if s.size = 3 then (if (49 ≤ bt s 0 ∧ bt s 0 ≤ 57) ∧ (48 ≤ bt s 1 ∧ bt s 1 ≤ 57) ∧ (48 ≤ bt s 2 ∧ bt s 2 ≤ 57) then (100 * (bt s 0 - 48) + 10 * (bt s 1 - 48) + (bt s 2 - 48), true) else (0, false))
                else (0, false)) = ((0, false) : Int × Bool) := by
              split
              · rw [if_neg (by omega)]
              · split
                · rw [if_neg (by omega)]
                · rfl
            rw [this]
            exact iparse_bad s _ _ (by omega) (by omega) (by omega)

theorem FnExactParseNumber : laws_FnExactParseNumber.Pure := by
  intro s hs
  refine Ev.rounds (r := true) ?_
  unfold laws_FnExactParseNumber.f
  split
  · exact Ev.now _
  · refine Ev.bind (sparse_ev s) (Ev.bind (iparse_ev s) ?_)
    simp only [bne_self_eq_false, if_true]
    exact Ev.now _

end Go.Proofs.Ytknonhamdjfmlaa.Pure
