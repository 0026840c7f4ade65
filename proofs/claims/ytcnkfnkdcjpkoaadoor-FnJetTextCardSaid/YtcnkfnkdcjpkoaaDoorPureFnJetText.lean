/- The plain law behind FnJetText: for every input that the row lets in, the printed function of the law answers true. No condition beyond the bounds that the statement names. -/
import Derived.Lib.Explode
import Derived.Test.YtcnkfnkdcjpkoaaDoorIFnJetTextx8
namespace Go.Proofs.YtcnkfnkdcjpkoaaDoor.Pure
open Go.RowKit Go.Proofs.YtcnkfnkdcjpkoaaDoor.PFnJetText Go.Proofs.YtcnkfnkdcjpkoaaDoorW.PrintWords Go.Proofs.YtcnkfnkdcjpkoaaDoorW.PrintLast
open Go.Proofs.YtcnkfnkdcjpkoaaDoorW.PrintMore
set_option linter.unusedVariables false
set_option linter.unusedSimpArgs false

theorem w64 {x : Int} (h0 : -9223372036854775808 ≤ x) (h1 : x ≤ 9223372036854775807) : wrap64 x = x := by unfold wrap64; omega
theorem wfb {a : Int} (h : (Lit.int .i64 a).wf = true) : -9223372036854775808 ≤ a ∧ a ≤ 9223372036854775807 := by
  simp [Lit.wf, IntKind.min, IntKind.max, IntKind.signed, IntKind.bits] at h
  omega
theorem Ev.succ' {α : Type} {g : Nat → Option α} {r : α} (h : Ev (fun k => g (k + 1)) r) : Ev g r := Ev.step (fun _ => rfl) h
theorem dec_congr {p q : Prop} [Decidable p] [Decidable q] (h : p ↔ q) : decide p = decide q := by simp [h]

theorem sIsMeasure (x : Int) : spec_IsMeasure.f x = some (decide (-4096 ≤ x ∧ x ≤ 4096)) := by
  unfold spec_IsMeasure.f
  split <;> simp <;> omega

theorem iWithin (a b c : Int) : impl_isWithin.f a b c = some (decide (b ≤ a ∧ a ≤ c)) := by
  unfold impl_isWithin.f
  split <;> simp <;> omega

theorem iIsMeasure (x : Int) : impl_IsMeasure.f x = some (decide (-4096 ≤ x ∧ x ≤ 4096)) := by
  unfold impl_IsMeasure.f
  rw [iWithin]
  rfl

theorem sIsHeading (x : Int) : spec_IsHeading.f x = some (decide (0 ≤ x ∧ x ≤ 3)) := by
  unfold spec_IsHeading.f
  split <;> simp <;> omega

theorem iIsHeading (x : Int) : impl_IsHeading.f x = some (decide (0 ≤ x ∧ x ≤ 3)) := by
  unfold impl_IsHeading.f
  rw [iWithin]
  rfl

theorem sIsPlace (x y : Int) : spec_IsPlace.f x y = some (decide ((-4096 ≤ x ∧ x ≤ 4096) ∧ (-4096 ≤ y ∧ y ≤ 4096))) := by
  unfold spec_IsPlace.f
  simp only [sIsMeasure, Option.bind_some]
  split <;> rename_i h <;> simp at h ⊢ <;> omega

theorem iIsPlace (x y : Int) : impl_IsPlace.f x y = some (decide ((-4096 ≤ x ∧ x ≤ 4096) ∧ (-4096 ≤ y ∧ y ≤ 4096))) := by
  unfold impl_IsPlace.f
  simp only [iIsMeasure, Option.bind_some]
  split <;> rename_i h <;> simp at h ⊢ <;> omega

def JetOK (x y h t l : Int) : Prop := (-1024 ≤ x ∧ x ≤ 1024) ∧ (-1024 ≤ y ∧ y ≤ 1024) ∧ (0 ≤ h ∧ h ≤ 3) ∧ (0 ≤ t ∧ t ≤ 16) ∧ (1 ≤ l ∧ l ≤ 32)
instance (x y h t l : Int) : Decidable (JetOK x y h t l) := by unfold JetOK; infer_instance

theorem sIn (a b c : Int) : spec_l1In.f a b c = some (decide (b ≤ a ∧ a ≤ c)) := by
  unfold spec_l1In.f
  split <;> simp <;> omega

theorem sIsJet (x y h t l : Int) : spec_IsJet.f x y h t l = some (decide (JetOK x y h t l)) := by
  unfold spec_IsJet.f
  simp only [JetOK]
  simp only [sIn, sIsHeading, Option.bind_some]
  by_cases h1 : -1024 ≤ x ∧ x ≤ 1024 <;> by_cases h2 : -1024 ≤ y ∧ y ≤ 1024 <;> by_cases h3 : 0 ≤ h ∧ h ≤ 3 <;> by_cases h4 : 0 ≤ t ∧ t ≤ 16 <;> simp [h1, h2, h3, h4]

theorem iIsJet (x y h t l : Int) : impl_IsJet.f x y h t l = some (decide (JetOK x y h t l)) := by
  unfold impl_IsJet.f
  simp only [JetOK]
  simp only [iWithin, iIsHeading, Option.bind_some]
  by_cases h1 : -1024 ≤ x ∧ x ≤ 1024 <;> by_cases h2 : -1024 ≤ y ∧ y ≤ 1024 <;> by_cases h3 : 0 ≤ h ∧ h ≤ 3 <;> by_cases h4 : 0 ≤ t ∧ t ≤ 16 <;> simp [h1, h2, h3, h4]

theorem tmod_pos {a b : Int} (h : 0 ≤ a) : Int.tmod a b = a % b := Int.tmod_eq_emod_of_nonneg h
theorem tmod_neg' (a b : Int) : Int.tmod (-a) b = -(Int.tmod a b) := Int.neg_tmod a b
theorem tdiv_pos {a b : Int} (h : 0 ≤ a) : Int.tdiv a b = a / b := Int.tdiv_eq_ediv_of_nonneg h
theorem tmod4 (n : Int) : (Int.tmod n 4 < 0 → Int.tmod n 4 + 4 = n % 4) ∧ (¬ Int.tmod n 4 < 0 → Int.tmod n 4 = n % 4) ∧ -3 ≤ Int.tmod n 4 ∧ Int.tmod n 4 ≤ 3 := by
  rcases Int.le_total 0 n with h | h
  · rw [tmod_pos h]; omega
  · obtain ⟨m, rfl⟩ : ∃ m, n = -m := ⟨-n, by omega⟩
    rw [tmod_neg', tmod_pos (by omega)]; omega

def IsBytes (l : List Int) : Prop := ∀ x ∈ l, 0 ≤ x ∧ x ≤ 255
theorem IsBytes.append {a b : List Int} (ha : IsBytes a) (hb : IsBytes b) : IsBytes (a ++ b) := fun x hx => by
  rcases List.mem_append.1 hx with h | h
  · exact ha x h
  · exact hb x h
theorem IsBytes.cons {x : Int} {b : List Int} (hx : 0 ≤ x ∧ x ≤ 255) (hb : IsBytes b) : IsBytes (x :: b) := fun y hy => by
  rcases List.mem_cons.1 hy with h | h
  · rw [h]; exact hx
  · exact hb y h
theorem IsBytes.nil : IsBytes [] := fun x hx => by cases hx
theorem bytesOf_isBytes (s : ByteArray) : IsBytes (bytesOf s) := fun x hx => by
  unfold bytesOf at hx
  obtain ⟨b, _, rfl⟩ := List.mem_map.1 hx
  have := b.toNat_lt
  omega
theorem str_bytesOf (s : ByteArray) : strOfNums (bytesOf s) = s := by
  apply ByteArray.ext
  apply Array.ext'
  rw [strOfNums_data]
  unfold bytesOf
  rw [List.map_map]
  conv => rhs; rw [← List.map_id s.data.toList]
  apply List.map_congr_left
  intro b _
  simp
theorem bytesOf_str {l : List Int} (h : IsBytes l) : bytesOf (strOfNums l) = l := by
  unfold bytesOf
  rw [strOfNums_data, List.map_map]
  conv => rhs; rw [← List.map_id l]
  apply List.map_congr_left
  intro x hx
  have := h x hx
  simp
  omega
theorem str_append (a b : List Int) : strOfNums a ++ strOfNums b = strOfNums (a ++ b) := by
  apply ByteArray.ext
  rw [ByteArray.data_append]
  apply Array.ext'
  simp [strOfNums]
theorem str_inj {a b : List Int} (ha : IsBytes a) (hb : IsBytes b) (h : strOfNums a = strOfNums b) : a = b := by
  rw [← bytesOf_str ha, ← bytesOf_str hb, h]
theorem toList_inj {s t : ByteArray} : s.toList = t.toList ↔ s = t := by
  constructor
  · intro h
    rw [ByteArray.toList_eq, ByteArray.toList_eq] at h
    apply ByteArray.ext
    exact Array.ext' h
  · intro h; rw [h]
theorem str_eq {l : List Int} (h : IsBytes l) (s : ByteArray) : (strOfNums l).toList = s.toList ↔ l = bytesOf s := by
  rw [toList_inj]
  constructor
  · intro e; rw [← e, bytesOf_str h]
  · intro e; rw [e, str_bytesOf]
theorem bt_rd (s : ByteArray) (i : Int) : bt s i = (bytesOf s).getD i.toNat 0 := by
  rw [← rd_bytesOf]; rfl

def dig (n : Nat) : List Int := if h : n < 10 then [48 + (n : Int)] else dig (n / 10) ++ [48 + ((n % 10 : Nat) : Int)]
termination_by n
decreasing_by omega
theorem dig_lt {n : Nat} (h : n < 10) : dig n = [48 + (n : Int)] := by rw [dig, dif_pos h]
theorem dig_ge {n : Nat} (h : ¬ n < 10) : dig n = dig (n / 10) ++ [48 + ((n % 10 : Nat) : Int)] := by rw [dig, dif_neg h]
theorem dig_digits : ∀ n, ∀ x ∈ dig n, 48 ≤ x ∧ x ≤ 57 := by
  intro n
  induction n using Nat.strongRecOn with
  | _ n ih =>
    by_cases h : n < 10
    · rw [dig_lt h]; intro x hx; simp at hx; omega
    · rw [dig_ge h]; intro x hx
      rcases List.mem_append.1 hx with h1 | h1
      · exact ih _ (by omega) x h1
      · simp at h1; omega
theorem dig_bytes (n : Nat) : IsBytes (dig n) := fun x hx => by have := dig_digits n x hx; omega
theorem dig_len : ∀ n, 1 ≤ (dig n).length ∧ (dig n).length ≤ n + 1 := by
  intro n
  induction n using Nat.strongRecOn with
  | _ n ih =>
    by_cases h : n < 10
    · rw [dig_lt h]; simp
    · rw [dig_ge h]; have := ih (n / 10) (by omega); simp; omega
theorem dig1 {n : Nat} (h : n ≤ 9) : dig n = [48 + (n : Int)] := dig_lt (by omega)
theorem dig2 {n : Nat} (h : 10 ≤ n) (h2 : n ≤ 99) : dig n = [48 + ((n / 10 : Nat) : Int), 48 + ((n % 10 : Nat) : Int)] := by
  rw [dig_ge (by omega), dig_lt (by omega)]; rfl
theorem dig3 {n : Nat} (h : 100 ≤ n) (h2 : n ≤ 999) : dig n = [48 + ((n / 100 : Nat) : Int), 48 + ((n / 10 % 10 : Nat) : Int), 48 + ((n % 10 : Nat) : Int)] := by
  rw [dig_ge (by omega), dig2 (by omega) (by omega), Nat.div_div_eq_div_mul]; rfl

theorem sfmt_ev : ∀ n : Nat, n ≤ 9223372036854775807 → Ev (fun k => spec_FormatNumber.f k (n : Int)) (strOfNums (dig n)) := by
  intro n
  induction n using Nat.strongRecOn with
  | _ n ih =>
    intro hn
    have e1 : wrap64 (48 + Int.tmod (n : Int) 10) % 256 = 48 + ((n % 10 : Nat) : Int) := by
      rw [tmod_pos (by omega), w64 (by omega) (by omega)]; omega
    have e2 : wrap64 (Int.tdiv (n : Int) 10) = ((n / 10 : Nat) : Int) := by
      rw [tdiv_pos (by omega), w64 (by omega) (by omega)]; omega
    by_cases h : n < 10
    · refine Ev.step (f := fun _ => some (strOfNums (dig n))) (fun k => ?_) (Ev.now _)
      simp only [spec_FormatNumber.f, e1, e2]
      rw [if_neg (by omega), if_neg (by omega)]
      simp only [Option.bind_some]
      rw [if_neg (by omega), dig_lt h]
      have : ((n % 10 : Nat) : Int) = (n : Int) := by omega
      rw [this]
    · have hb : Ev (fun k => (spec_FormatNumber.f k ((n / 10 : Nat) : Int)).bind fun t => if t.size + (strOfNums [48 + ((n % 10 : Nat) : Int)]).size ≤ 9223372036854775807 then some (t ++ strOfNums [48 + ((n % 10 : Nat) : Int)]) else none) (strOfNums (dig n)) := by
        refine Ev.bind (ih (n / 10) (by omega) (by omega)) ?_
        have := dig_len (n / 10)
        simp only [strOfNums_size, List.length_singleton]
        rw [if_pos (by omega), str_append, ← dig_ge h]
        exact Ev.now _
      refine Ev.step (fun k => ?_) hb
      simp only [spec_FormatNumber.f, e1, e2]
      rw [if_neg (by omega), if_neg (by omega)]
      simp only [Option.bind_some]
      rw [if_pos (by omega)]

/-- What the reference answers once n is read. -/
def numFin (s : ByteArray) (n : Int) : Int × Bool := if s.size = 0 ∨ n < 0 ∨ n > 999 then (0, false) else if dig n.toNat = bytesOf s then (n, true) else (0, false)
/-- What both answer. -/
def numOf (s : ByteArray) : Int × Bool :=
  if s.size = 1 then (if 48 ≤ bt s 0 ∧ bt s 0 ≤ 57 then (bt s 0 - 48, true) else (0, false))
  else if s.size = 2 then (if (49 ≤ bt s 0 ∧ bt s 0 ≤ 57) ∧ (48 ≤ bt s 1 ∧ bt s 1 ≤ 57) then (10 * (bt s 0 - 48) + (bt s 1 - 48), true) else (0, false))
  else if s.size = 3 then (if (49 ≤ bt s 0 ∧ bt s 0 ≤ 57) ∧ (48 ≤ bt s 1 ∧ bt s 1 ≤ 57) ∧ (48 ≤ bt s 2 ∧ bt s 2 ≤ 57) then (100 * (bt s 0 - 48) + 10 * (bt s 1 - 48) + (bt s 2 - 48), true) else (0, false))
  else (0, false)
theorem bytes1 {s : ByteArray} (h : s.size = 1) : bytesOf s = [bt s 0] := by
  have hl := bytesOf_length s
  rw [h] at hl
  rw [bt_rd]
  match bytesOf s, hl with
  | [a], _ => rfl
theorem bytes2 {s : ByteArray} (h : s.size = 2) : bytesOf s = [bt s 0, bt s 1] := by
  have hl := bytesOf_length s
  rw [h] at hl
  rw [bt_rd, bt_rd]
  match bytesOf s, hl with
  | [a, b], _ => rfl
theorem bytes3 {s : ByteArray} (h : s.size = 3) : bytesOf s = [bt s 0, bt s 1, bt s 2] := by
  have hl := bytesOf_length s
  rw [h] at hl
  rw [bt_rd, bt_rd, bt_rd]
  match bytesOf s, hl with
  | [a, b, c], _ => rfl
theorem fin_of_len {s : ByteArray} (n : Int) (h : s.size ≠ 0) (h2 : 0 ≤ n → n ≤ 999 → (dig n.toNat).length ≠ s.size) : numFin s n = (0, false) := by
  unfold numFin
  split
  · rfl
  · rw [if_neg]
    intro e
    exact h2 (by omega) (by omega) (by rw [e, bytesOf_length])
theorem dig_len999 {n : Nat} (h : n ≤ 999) : (dig n).length = if n ≤ 9 then 1 else if n ≤ 99 then 2 else 3 := by
  by_cases h1 : n ≤ 9
  · rw [dig1 h1, if_pos h1]; rfl
  · by_cases h2 : n ≤ 99
    · rw [dig2 (by omega) h2, if_neg h1, if_pos h2]; rfl
    · rw [dig3 (by omega) h, if_neg h1, if_neg h2]; rfl

theorem fin1 {s : ByteArray} (h : s.size = 1) : numFin s (10 * 0 + bt s 0 - 48) = numOf s := by
  have hb := bt_range s 0
  unfold numOf
  rw [if_pos h]
  by_cases hd : 48 ≤ bt s 0 ∧ bt s 0 ≤ 57
  · rw [if_pos hd]
    unfold numFin
    rw [if_neg (by omega), dig1 (by omega), bytes1 h, if_pos (by simp; omega)]
    simp
  · rw [if_neg hd]
    apply fin_of_len _ (by omega)
    intro h1 h2
    rw [dig_len999 (by omega), if_neg (by omega)]
    split <;> omega
theorem fin2 {s : ByteArray} (h : s.size = 2) : numFin s (10 * (10 * 0 + bt s 0 - 48) + bt s 1 - 48) = numOf s := by
  have hb := bt_range s 0
  have hc := bt_range s 1
  unfold numOf
  rw [if_neg (by omega), if_pos h]
  by_cases hd : (49 ≤ bt s 0 ∧ bt s 0 ≤ 57) ∧ (48 ≤ bt s 1 ∧ bt s 1 ≤ 57)
  · rw [if_pos hd]
    unfold numFin
    rw [if_neg (by omega), dig2 (by omega) (by omega), bytes2 h, if_pos (by simp only [List.cons.injEq, and_true]; omega)]
    simp only [Prod.mk.injEq, and_true]; omega
  · rw [if_neg hd]
    unfold numFin
    split
    · rfl
    · rw [if_neg]
      rw [bytes2 h]
      intro e
      have hl := congrArg List.length e
      rw [dig_len999 (by omega)] at hl
      simp only [List.length_cons, List.length_nil] at hl
      by_cases h9 : (10 * (10 * 0 + bt s 0 - 48) + bt s 1 - 48).toNat ≤ 9
      · rw [if_pos h9] at hl; omega
      · rw [if_neg h9] at hl
        by_cases h99 : (10 * (10 * 0 + bt s 0 - 48) + bt s 1 - 48).toNat ≤ 99
        · rw [dig2 (by omega) (by omega)] at e
          simp only [List.cons.injEq, and_true] at e
          omega
        · rw [if_neg h99] at hl; omega
theorem fin3 {s : ByteArray} (h : s.size = 3) : numFin s (10 * (10 * (10 * 0 + bt s 0 - 48) + bt s 1 - 48) + bt s 2 - 48) = numOf s := by
  have hb := bt_range s 0
  have hc := bt_range s 1
  have hd' := bt_range s 2
  unfold numOf
  rw [if_neg (by omega), if_neg (by omega), if_pos h]
  by_cases hd : (49 ≤ bt s 0 ∧ bt s 0 ≤ 57) ∧ (48 ≤ bt s 1 ∧ bt s 1 ≤ 57) ∧ (48 ≤ bt s 2 ∧ bt s 2 ≤ 57)
  · rw [if_pos hd]
    unfold numFin
    rw [if_neg (by omega), dig3 (by omega) (by omega), bytes3 h, if_pos (by simp only [List.cons.injEq, and_true]; omega)]
    simp only [Prod.mk.injEq, and_true]; omega
  · rw [if_neg hd]
    unfold numFin
    split
    · rfl
    · rw [if_neg]
      rw [bytes3 h]
      intro e
      have hl := congrArg List.length e
      rw [dig_len999 (by omega)] at hl
      simp only [List.length_cons, List.length_nil] at hl
      by_cases h9 : (10 * (10 * (10 * 0 + bt s 0 - 48) + bt s 1 - 48) + bt s 2 - 48).toNat ≤ 9
      · rw [if_pos h9] at hl; omega
      · rw [if_neg h9] at hl
        by_cases h99 : (10 * (10 * (10 * 0 + bt s 0 - 48) + bt s 1 - 48) + bt s 2 - 48).toNat ≤ 99
        · rw [if_pos h99] at hl; omega
        · rw [dig3 (by omega) (by omega)] at e
          simp only [List.cons.injEq, and_true] at e
          omega

theorem iparse_end (s : ByteArray) (n : Int) : Ev (fun k => impl_ParseNumber.l0 k s n (s.size : Int) (s.size : Int)) (n, true) := by
  refine Ev.step (f := fun _ => some (n, true)) (fun k => ?_) (Ev.now _)
  simp only [impl_ParseNumber.l0]
  rw [if_neg (by omega)]
theorem iparse_bad (s : ByteArray) (n i : Int) (h0 : 0 ≤ i) (h1 : i < (s.size : Int)) (hb : bt s i < 48 ∨ bt s i > 57) : Ev (fun k => impl_ParseNumber.l0 k s n (s.size : Int) i) (0, false) := by
  refine Ev.step (f := fun _ => some (0, false)) (fun k => ?_) (Ev.now _)
  simp only [impl_ParseNumber.l0]
  rw [if_pos h1, if_pos h0, if_pos h1]
  repeat' split
  all_goals first | rfl | omega
theorem iparse_step (s : ByteArray) (n i : Int) (r : Int × Bool) (h0 : 0 ≤ i) (h1 : i < (s.size : Int)) (hs : s.size ≤ 1000) (hn : -1000000 ≤ n ∧ n ≤ 1000000) (hb : 48 ≤ bt s i ∧ bt s i ≤ 57)
    (h : Ev (fun k => impl_ParseNumber.l0 k s (10 * n + (bt s i - 48)) (s.size : Int) (i + 1)) r) : Ev (fun k => impl_ParseNumber.l0 k s n (s.size : Int) i) r := by
  refine Ev.step (fun k => ?_) h
  simp only [impl_ParseNumber.l0]
  rw [if_pos h1, if_pos h0, if_pos h1, if_neg (by omega), if_neg (by omega), w64 (x := 10 * n) (by omega) (by omega), show (bt s i - 48) % 256 = bt s i - 48 by omega, w64 (x := _ + (bt s i - 48)) (by omega) (by omega), w64 (x := i + 1) (by omega) (by omega)]
theorem iparse_ev (s : ByteArray) : Ev (fun k => impl_ParseNumber.f k s) (numOf s) := by
  have hbad : ∀ b : Bool, b = true → Ev (fun k => impl_ParseNumber.j0 k s b) (0, false) := fun b hb => by
    refine Ev.step (f := fun _ => some (0, false)) (fun k => ?_) (Ev.now _)
    simp only [impl_ParseNumber.j0]
    rw [if_pos hb]
  have hgood : ∀ (b : Bool) (r : Int × Bool), b = false → Ev (fun k => impl_ParseNumber.l0 k s 0 (s.size : Int) 0) r → Ev (fun k => impl_ParseNumber.j0 k s b) r := fun b r hb h => by
    refine Ev.step (fun k => ?_) h
    simp only [impl_ParseNumber.j0]
    rw [if_neg (by simp [hb])]
  unfold impl_ParseNumber.f
  by_cases h0 : s.size = 0
  · simp only [if_pos (show (s.size : Int) = 0 by omega)]
    have : numOf s = (0, false) := by unfold numOf; rw [if_neg (by omega), if_neg (by omega), if_neg (by omega)]
    rw [this]
    exact hbad _ rfl
  · simp only [if_neg (show ¬ (s.size : Int) = 0 by omega)]
    by_cases h4 : s.size > 3
    · simp only [if_pos (show (s.size : Int) > 3 by omega)]
      have : numOf s = (0, false) := by unfold numOf; rw [if_neg (by omega), if_neg (by omega), if_neg (by omega)]
      rw [this]
      exact hbad _ rfl
    · simp only [if_neg (show ¬ (s.size : Int) > 3 by omega)]
      by_cases h1 : s.size = 1
      · simp only [if_neg (show ¬ (s.size : Int) > 1 by omega)]
        refine hgood _ _ rfl ?_
        unfold numOf
        rw [if_pos h1]
        by_cases hd : 48 ≤ bt s 0 ∧ bt s 0 ≤ 57
        · rw [if_pos hd]
          refine iparse_step s _ _ _ (by omega) (by omega) (by omega) (by omega) hd ?_
          have := iparse_end s (10 * 0 + (bt s 0 - 48))
          rw [h1] at this ⊢
          simpa using this
        · rw [if_neg hd]
          exact iparse_bad s _ _ (by omega) (by omega) (by omega)
      · simp only [if_pos (show (s.size : Int) > 1 by omega), if_pos (show 0 < (s.size : Int) by omega)]
        by_cases hz : bt s 0 = 48
        · have : numOf s = (0, false) := by
            unfold numOf
            rw [if_neg h1]
            split
            · rw [if_neg (by omega)]
            · split
              · rw [if_neg (by omega)]
              · rfl
          rw [this]
          exact hbad _ (by simp [hz])
        · refine hgood _ _ (by simp [hz]) ?_
          unfold numOf
          rw [if_neg h1]
          by_cases d0 : 48 ≤ bt s 0 ∧ bt s 0 ≤ 57
          · refine iparse_step s _ _ _ (by omega) (by omega) (by omega) (by omega) d0 ?_
            by_cases d1 : 48 ≤ bt s 1 ∧ bt s 1 ≤ 57
            · refine iparse_step s _ _ _ (by omega) (by omega) (by omega) (by omega) d1 ?_
              by_cases h2 : s.size = 2
              · rw [if_pos h2, if_pos (by omega)]
                have := iparse_end s (10 * (bt s 0 - 48) + (bt s 1 - 48))
                rw [h2] at this ⊢
                simpa using this
              · have h3 : s.size = 3 := by omega
                have hc' := bt_range s (0 + 1)
                rw [if_neg h2, if_pos h3]
                by_cases d2 : 48 ≤ bt s 2 ∧ bt s 2 ≤ 57
                · refine iparse_step s _ _ _ (by omega) (by omega) (by omega) (by omega) d2 ?_
                  rw [if_pos (by omega)]
                  have := iparse_end s (100 * (bt s 0 - 48) + 10 * (bt s 1 - 48) + (bt s 2 - 48))
                  rw [h3] at this ⊢
                  rw [show 10 * (10 * (10 * 0 + (bt s 0 - 48)) + (bt s (0 + 1) - 48)) + (bt s (0 + 1 + 1) - 48) = 100 * (bt s 0 - 48) + 10 * (bt s 1 - 48) + (bt s 2 - 48) by show 10 * (10 * (10 * 0 + (bt s 0 - 48)) + (bt s 1 - 48)) + (bt s 2 - 48) = _; omega]
                  simpa using this
                · rw [if_neg (by omega)]
                  exact iparse_bad s _ _ (by omega) (by omega) (by show bt s 2 < 48 ∨ bt s 2 > 57; omega)
            · have : (if s.size = 2 then (if (49 ≤ bt s 0 ∧ bt s 0 ≤ 57) ∧ (48 ≤ bt s 1 ∧ bt s 1 ≤ 57) then (10 * (bt s 0 - 48) + (bt s 1 - 48), true) else (0, false))
                  else if s.size = 3 then (if (49 ≤ bt s 0 ∧ bt s 0 ≤ 57) ∧ (48 ≤ bt s 1 ∧ bt s 1 ≤ 57) ∧ (48 ≤ bt s 2 ∧ bt s 2 ≤ 57) then (100 * (bt s 0 - 48) + 10 * (bt s 1 - 48) + (bt s 2 - 48), true) else (0, false))
                  else (0, false)) = ((0, false) : Int × Bool) := by
                split
                · rw [if_neg (by omega)]
                · split
                  · rw [if_neg (by omega)]
                  · rfl
              rw [this]
              exact iparse_bad s _ _ (by omega) (by omega) (by show bt s 1 < 48 ∨ bt s 1 > 57; omega)
          · have : (if s.size = 2 then (if (49 ≤ bt s 0 ∧ bt s 0 ≤ 57) ∧ (48 ≤ bt s 1 ∧ bt s 1 ≤ 57) then (10 * (bt s 0 - 48) + (bt s 1 - 48), true) else (0, false))
                else if s.size = 3 then (if (49 ≤ bt s 0 ∧ bt s 0 ≤ 57) ∧ (48 ≤ bt s 1 ∧ bt s 1 ≤ 57) ∧ (48 ≤ bt s 2 ∧ bt s 2 ≤ 57) then (100 * (bt s 0 - 48) + 10 * (bt s 1 - 48) + (bt s 2 - 48), true) else (0, false))
                else (0, false)) = ((0, false) : Int × Bool) := by
              split
              · rw [if_neg (by omega)]
              · split
                · rw [if_neg (by omega)]
                · rfl
            rw [this]
            exact iparse_bad s _ _ (by omega) (by omega) (by omega)

def PL (x y : Int) : Prop := (-4096 ≤ x ∧ x ≤ 4096) ∧ (-4096 ≤ y ∧ y ≤ 4096)
instance (x y : Int) : Decidable (PL x y) := by unfold PL; infer_instance

theorem sPL (x y : Int) : spec_IsPlace.f x y = some (decide (PL x y)) := sIsPlace x y

theorem iPL (x y : Int) : impl_IsPlace.f x y = some (decide (PL x y)) := iIsPlace x y

theorem getD_get {α : Type} (l : List α) (d : α) (i : Int) (h0 : 0 ≤ i) (h1 : i < l.length) : l[i.toNat]? = some (l.getD i.toNat d) := by
  rw [List.getD_eq_getElem?_getD]
  obtain ⟨v, hv⟩ : ∃ v, l[i.toNat]? = some v := ⟨_, List.getElem?_eq_getElem (by omega)⟩
  rw [hv]; rfl

theorem and255 (x : Int) : 0 ≤ bits .and .i64 x 255 ∧ bits .and .i64 x 255 ≤ 255 := by
  simp only [bits]
  have h : ((BitVec.ofInt IntKind.i64.bits x &&& BitVec.ofInt IntKind.i64.bits 255).toNat : Int) ≤ 255 := by
    rw [BitVec.toNat_and]
    have : (BitVec.ofInt IntKind.i64.bits x).toNat &&& (BitVec.ofInt IntKind.i64.bits 255).toNat ≤ 255 := Nat.le_trans Nat.and_le_right (by decide)
    omega
  have h0 : (0 : Int) ≤ ((BitVec.ofInt IntKind.i64.bits x &&& BitVec.ofInt IntKind.i64.bits 255).toNat : Int) := Int.natCast_nonneg _
  generalize ((BitVec.ofInt IntKind.i64.bits x &&& BitVec.ofInt IntKind.i64.bits 255).toNat : Int) = z at h h0
  have e : IntKind.i64.wrap z = z := by
    simp [IntKind.wrap, IntKind.bits, IntKind.signed]
    split <;> omega
  rw [e]
  exact ⟨h0, h⟩
theorem dByte {l : List Int} {i : Int} (h : Int) (hl : l.length ≤ 4096) (hi : 0 ≤ i) : ∃ x i' h', spec_l1Byte.f l i h = some (x, i', h') ∧ (0 ≤ x ∧ x ≤ 255) ∧ 0 ≤ i' := by
  unfold spec_l1Byte.f
  by_cases hlt : i < (l.length : Int)
  · rw [if_pos hlt, if_pos hi]
    exact ⟨_, _, _, rfl, and255 _, by rw [w64 (by omega) (by omega)]; omega⟩
  · rw [if_neg hlt]
    exact ⟨_, _, _, rfl, and255 _, hi⟩

theorem tmod_bd {a n : Int} (ha : 0 ≤ a) (hn : 0 < n) : 0 ≤ Int.tmod a n ∧ Int.tmod a n < n := by
  rw [tmod_pos ha]
  exact ⟨Int.emod_nonneg _ (by omega), Int.emod_lt_of_pos _ hn⟩
theorem dBelow {l : List Int} {i : Int} (h : Int) {n : Int} (hl : l.length ≤ 4096) (hi : 0 ≤ i) (hn : 0 < n) : ∃ x i' h', spec_l1Below.f l i h n = some (x, i', h') ∧ (0 ≤ x ∧ x < n) ∧ 0 ≤ i' := by
  unfold spec_l1Below.f
  rw [if_neg (by omega)]
  split
  · obtain ⟨x, i1, h1, e, hx, hi1⟩ := dByte h hl hi
    rw [e]
    simp only [Option.bind_some]
    rw [if_neg (by omega)]
    exact ⟨_, _, _, rfl, tmod_bd hx.1 hn, hi1⟩
  · obtain ⟨x, i1, h1, e1, hx, hi1⟩ := dByte h hl hi
    rw [e1]
    simp only [Option.bind_some]
    obtain ⟨y, i2, h2, e2, hy, hi2⟩ := dByte h1 hl hi1
    rw [e2]
    simp only [Option.bind_some]
    obtain ⟨z, i3, h3, e3, hz, hi3⟩ := dByte h2 hl hi2
    rw [e3]
    simp only [Option.bind_some]
    rw [if_neg (by omega)]
    refine ⟨_, _, _, rfl, tmod_bd ?_ hn, hi3⟩
    rw [w64 (x := x * 65536) (by omega) (by omega), w64 (x := y * 256) (by omega) (by omega), w64 (x := x * 65536 + y * 256) (by omega) (by omega), w64 (x := x * 65536 + y * 256 + z) (by omega) (by omega)]
    omega

theorem dSome {l : List Int} {i : Int} (h : Int) {a b : Int} (hl : l.length ≤ 4096) (hi : 0 ≤ i) (hab : -1000000 ≤ a ∧ a ≤ b ∧ b ≤ 1000000) : ∃ x i' h', spec_l1Some.f l i h a b = some (x, i', h') ∧ (a ≤ x ∧ x ≤ b) ∧ 0 ≤ i' := by
  unfold spec_l1Some.f
  rw [w64 (x := b - a) (by omega) (by omega), w64 (x := b - a + 1) (by omega) (by omega)]
  obtain ⟨x, i1, h1, e, hx, hi1⟩ := dBelow h hl hi (show 0 < b - a + 1 by omega)
  rw [e]
  simp only [Option.bind_some]
  refine ⟨_, _, _, rfl, ?_, hi1⟩
  rw [w64 (by omega) (by omega)]
  omega

theorem dOnce {l : List Int} {i : Int} (h : Int) {n : Int} (hl : l.length ≤ 4096) (hi : 0 ≤ i) (hn : 0 < n) : ∃ x i' h', spec_l1Once.f l i h n = some (x, i', h') ∧ 0 ≤ i' := by
  unfold spec_l1Once.f
  obtain ⟨x, i1, h1, e, hx, hi1⟩ := dBelow h hl hi hn
  rw [e]
  simp only [Option.bind_some]
  exact ⟨_, _, _, rfl, hi1⟩

theorem dInt {l : List Int} {i : Int} (h : Int) {m : List Int} (hl : l.length ≤ 4096) (hi : 0 ≤ i) (hm : 0 < m.length) : ∃ x i' h', spec_l1Int.f l i h m = some (x, i', h') ∧ x ∈ m ∧ 0 ≤ i' := by
  unfold spec_l1Int.f
  obtain ⟨x, i1, h1, e, hx, hi1⟩ := dBelow h hl hi (show 0 < (m.length : Int) by omega)
  rw [e]
  simp only [Option.bind_some]
  rw [if_pos hx.1, if_pos hx.2]
  refine ⟨_, _, _, rfl, ?_, hi1⟩
  unfold rd
  rw [List.getD_eq_getElem?_getD, List.getElem?_eq_getElem (by omega)]
  exact List.getElem_mem _

def I64 (x : Int) : Prop := -9223372036854775808 ≤ x ∧ x ≤ 9223372036854775807

theorem dOdd {l : List Int} {i : Int} (h : Int) (hl : l.length ≤ 4096) (hi : 0 ≤ i) : ∃ x i' h', spec_l1Odd.f l i h = some (x, i', h') ∧ I64 x ∧ 0 ≤ i' := by
  unfold spec_l1Odd.f
  obtain ⟨x, i1, h1, e, hx, hi1⟩ := dInt h (m := [(-1), 0, 1, 2, 3, 7, 8, 9, 15, 16, 17, 63, 64, 65, 999, 1000, 4096, 4097, 9223372036854775807, (-9223372036854775808)]) hl hi (by simp)
  rw [e]
  simp only [Option.bind_some]
  refine ⟨_, _, _, rfl, ?_, hi1⟩
  unfold I64
  simp only [List.mem_cons, List.not_mem_nil, or_false] at hx
  omega

theorem new_loop (l : List Int) (hl : l.length ≤ 4096) (d : Nat) : ∀ (i h : Int), 0 ≤ i → (l.length : Int) - i = d → ∃ h', Ev (fun k => spec_l1New.l0 k l h i) (l, 0, h') := by
  induction d with
  | zero =>
    intro i h h0 hd
    refine ⟨h, Ev.succ' ?_⟩
    simp only [spec_l1New.l0, if_neg (show ¬ i < (l.length : Int) by omega)]
    exact Ev.now _
  | succ d ih =>
    intro i h h0 hd
    by_cases h4 : i < 4000
    · obtain ⟨h', e⟩ := ih (i + 1) (bits .and .i64 (wrap64 ((wrap64 ((wrap64 (h * 167)) + (wrap64 (rd l i)))) + 29)) 1073741823) (by omega) (by omega)
      refine ⟨h', Ev.succ' ?_⟩
      simp only [spec_l1New.l0, if_pos (show i < (l.length : Int) by omega), if_pos h4, if_pos h0]
      rw [w64 (x := i + 1) (by omega) (by omega)]
      exact e
    · refine ⟨h, Ev.succ' ?_⟩
      simp only [spec_l1New.l0, if_pos (show i < (l.length : Int) by omega), if_neg h4]
      exact Ev.now _
theorem dNew (l : List Int) (hl : l.length ≤ 4096) : ∃ h, Ev (fun k => spec_l1New.f k l) (l, 0, h) := by
  unfold spec_l1New.f
  exact new_loop l hl l.length 0 _ (by omega) (by omega)

theorem lawBig (l : List Int) : laws_big.f l = some (decide ((l.length : Int) > 4096)) := rfl

theorem dPlace {l : List Int} {i : Int} (h : Int) (hl : l.length ≤ 4096) (hi : 0 ≤ i) : ∃ x y i' h', spec_l2Draw.f l i h = some (x, y, i', h') ∧ (-64 ≤ x ∧ x ≤ 64) ∧ (-64 ≤ y ∧ y ≤ 64) ∧ 0 ≤ i' := by
  unfold spec_l2Draw.f
  obtain ⟨x, i1, h1, e1, hx, hi1⟩ := dSome h (a := -64) (b := 64) hl hi (by omega)
  rw [e1]
  simp only [Option.bind_some]
  obtain ⟨y, i2, h2, e2, hy, hi2⟩ := dSome h1 (a := -64) (b := 64) hl hi1 (by omega)
  rw [e2]
  simp only [Option.bind_some]
  exact ⟨_, _, _, _, rfl, hx, hy, hi2⟩

theorem dJet {l : List Int} {i : Int} (h : Int) (hl : l.length ≤ 4096) (hi : 0 ≤ i) : ∃ x y hd t lf i' h', spec_l3Draw.f l i h = some (x, y, hd, t, lf, i', h') ∧ ((-64 ≤ x ∧ x ≤ 64) ∧ (-64 ≤ y ∧ y ≤ 64) ∧ (0 ≤ hd ∧ hd ≤ 3) ∧ (0 ≤ t ∧ t ≤ 16) ∧ (1 ≤ lf ∧ lf ≤ 32)) ∧ 0 ≤ i' := by
  unfold spec_l3Draw.f
  obtain ⟨x, y, i1, h1, e1, hx, hy, hi1⟩ := dPlace h hl hi
  rw [e1]
  simp only [Option.bind_some]
  obtain ⟨hd, i2, h2, e2, hhd, hi2⟩ := dBelow h1 hl hi1 (show (0 : Int) < 4 by omega)
  rw [e2]
  simp only [Option.bind_some]
  obtain ⟨t, i3, h3, e3, ht, hi3⟩ := dBelow h2 hl hi2 (show (0 : Int) < 17 by omega)
  rw [e3]
  simp only [Option.bind_some]
  obtain ⟨lf, i4, h4, e4, hlf, hi4⟩ := dSome h3 (a := 1) (b := 32) hl hi3 (by omega)
  rw [e4]
  simp only [Option.bind_some]
  exact ⟨_, _, _, _, _, _, _, rfl, ⟨hx, hy, ⟨hhd.1, by omega⟩, ⟨ht.1, by omega⟩, hlf⟩, hi4⟩

theorem dAny {l : List Int} {i : Int} (h : Int) (hl : l.length ≤ 4096) (hi : 0 ≤ i) : ∃ x y i' h', Ev (fun k => spec_l2Any.f k l i h) (x, y, i', h') ∧ I64 x ∧ (-5000 ≤ y ∧ y ≤ 5000) ∧ 0 ≤ i' := by
  unfold spec_l2Any.f
  obtain ⟨x, y, i1, h1, e1, hx, hy, hi1⟩ := dPlace h hl hi
  obtain ⟨o, i2, h2, e2, hi2⟩ := dOnce h1 (n := 9) hl hi1 (by omega)
  have hj : ∀ (x' i3 h3 : Int), I64 x' → 0 ≤ i3 → ∃ x y1 i' h', Ev (fun k => spec_l2Any.j0 k l i3 h3 x' y) (x, y1, i', h') ∧ I64 x ∧ (-5000 ≤ y1 ∧ y1 ≤ 5000) ∧ 0 ≤ i' := fun x' i3 h3 hx' hi3 => by
    obtain ⟨o, i4, h4, e4, hi4⟩ := dOnce h3 (n := 9) hl hi3 (by omega)
    cases o with
    | true =>
      obtain ⟨z, i5, h5, e5, hz, hi5⟩ := dInt h4 (m := [4096, (-4096), 4097, (-4097), 4090]) hl hi4 (by simp)
      refine ⟨x', z, i5, h5, Ev.succ' ?_, hx', ?_, hi5⟩
      · simp only [spec_l2Any.j0, e4, e5, Option.bind_some, if_true]
        exact Ev.now _
      · simp only [List.mem_cons, List.not_mem_nil, or_false] at hz
        omega
    | false =>
      refine ⟨x', y, i4, h4, Ev.succ' ?_, hx', by omega, hi4⟩
      simp only [spec_l2Any.j0, e4, Option.bind_some, Bool.false_eq_true, if_false]
      exact Ev.now _
  cases o with
  | true =>
    obtain ⟨x', i3, h3, e3, hx', hi3⟩ := dOdd h2 hl hi2
    obtain ⟨a, b, i', h', e, r⟩ := hj x' i3 h3 hx' hi3
    refine ⟨a, b, i', h', ?_, r⟩
    simp only [e1, e2, e3, Option.bind_some, if_true]
    exact e
  | false =>
    obtain ⟨a, b, i', h', e, r⟩ := hj x i2 h2 (by unfold I64; omega) hi2
    refine ⟨a, b, i', h', ?_, r⟩
    simp only [e1, e2, Option.bind_some, Bool.false_eq_true, if_false]
    exact e

theorem dAnyJet {l : List Int} {i : Int} (h : Int) (hl : l.length ≤ 4096) (hi : 0 ≤ i) : ∃ x y hd t lf i' h', Ev (fun k => spec_l3Any.f k l i h) (x, y, hd, t, lf, i', h') ∧ (I64 x ∧ I64 y ∧ I64 hd ∧ I64 t ∧ I64 lf) ∧ 0 ≤ i' := by
  unfold spec_l3Any.f
  obtain ⟨x, y, hd, t, lf, i1, h1, e1, hj, hi1⟩ := dJet h hl hi
  obtain ⟨c, i2, h2, e2, hc, hi2⟩ := dBelow h1 (n := 12) hl hi1 (by omega)
  simp only [e1, e2, Option.bind_some]
  by_cases c0 : c = 0
  · obtain ⟨a, b, i3, h3, e3, ha, hb, hi3⟩ := dAny h2 hl hi2
    refine ⟨a, b, hd, t, lf, i3, h3, ?_, ⟨ha, by unfold I64; omega, by unfold I64; omega, by unfold I64; omega, by unfold I64; omega⟩, hi3⟩
    simp only [if_pos c0]
    exact Ev.bind e3 (Ev.now _)
  · by_cases c1 : c = 1
    · obtain ⟨a, i3, h3, e3, ha, hi3⟩ := dOdd h2 hl hi2
      refine ⟨x, y, a, t, lf, i3, h3, ?_, ⟨by unfold I64; omega, by unfold I64; omega, ha, by unfold I64; omega, by unfold I64; omega⟩, hi3⟩
      simp only [if_neg c0, if_pos c1, e3, Option.bind_some]
      exact Ev.now _
    · by_cases c2 : c = 2
      · obtain ⟨a, i3, h3, e3, ha, hi3⟩ := dInt h2 (m := [(-1), 17, 16, 1000, 9223372036854775807]) hl hi2 (by simp)
        simp only [List.mem_cons, List.not_mem_nil, or_false] at ha
        refine ⟨x, y, hd, a, lf, i3, h3, ?_, ⟨by unfold I64; omega, by unfold I64; omega, by unfold I64; omega, by unfold I64; omega, by unfold I64; omega⟩, hi3⟩
        simp only [if_neg c0, if_neg c1, if_pos c2, e3, Option.bind_some]
        exact Ev.now _
      · by_cases c3 : c = 3
        · obtain ⟨a, i3, h3, e3, ha, hi3⟩ := dInt h2 (m := [0, (-1), 33, 32, 9223372036854775807, (-9223372036854775808)]) hl hi2 (by simp)
          simp only [List.mem_cons, List.not_mem_nil, or_false] at ha
          refine ⟨x, y, hd, t, a, i3, h3, ?_, ⟨by unfold I64; omega, by unfold I64; omega, by unfold I64; omega, by unfold I64; omega, by unfold I64; omega⟩, hi3⟩
          simp only [if_neg c0, if_neg c1, if_neg c2, if_pos c3, e3, Option.bind_some]
          exact Ev.now _
        · by_cases c4 : c = 4
          · obtain ⟨a, i3, h3, e3, ha, hi3⟩ := dInt h2 (m := [1024, 1025, (-1024), (-1025)]) hl hi2 (by simp)
            obtain ⟨b, i4, h4, e4, hb, hi4⟩ := dInt h3 (m := [0, 1024, (-1025)]) hl hi3 (by simp)
            simp only [List.mem_cons, List.not_mem_nil, or_false] at ha hb
            refine ⟨a, b, hd, t, lf, i4, h4, ?_, ⟨by unfold I64; omega, by unfold I64; omega, by unfold I64; omega, by unfold I64; omega, by unfold I64; omega⟩, hi4⟩
            simp only [if_neg c0, if_neg c1, if_neg c2, if_neg c3, if_pos c4, e3, e4, Option.bind_some]
            exact Ev.now _
          · refine ⟨x, y, hd, t, lf, i2, h2, ?_, ⟨by unfold I64; omega, by unfold I64; omega, by unfold I64; omega, by unfold I64; omega, by unfold I64; omega⟩, hi2⟩
            simp only [if_neg c0, if_neg c1, if_neg c2, if_neg c3, if_neg c4]
            exact Ev.now _

theorem dig_nums (n : Nat) : (dig n).map (fun x => UInt8.ofNat x.toNat) = Lib.decDigits n := by
  induction n using Nat.strongRecOn with
  | _ n ih =>
    by_cases h : n < 10
    · rw [dig_lt h, Lib.decDigits, dif_pos h]
      simp only [List.map_cons, List.map_nil]
      rw [show (48 + (n : Int)).toNat = 48 + n by omega]
    · rw [dig_ge h, Lib.decDigits, dif_neg h, List.map_append, ih (n / 10) (by omega)]
      simp only [List.map_cons, List.map_nil]
      rw [show (48 + ((n % 10 : Nat) : Int)).toNat = 48 + n % 10 by omega]
theorem str_dig (n : Nat) : strOfNums (dig n) = ⟨(Lib.decDigits n).toArray⟩ := by
  apply ByteArray.ext
  apply Array.ext'
  rw [strOfNums_data]
  exact dig_nums n
theorem dig_len2 (n : Nat) : (dig n).length ≤ n / 10 + 2 := by
  by_cases h : n < 10
  · rw [dig_lt h]; simp
  · rw [dig_ge h, List.length_append]
    have := (dig_len (n / 10)).2
    simp only [List.length_singleton]
    omega
def fmN (a : Int) : List Int := if a < 0 then 45 :: dig a.natAbs else dig a.toNat
theorem fmN_bytes (a : Int) : IsBytes (fmN a) := by
  unfold fmN
  split
  · exact IsBytes.cons (by omega) (dig_bytes _)
  · exact dig_bytes _
theorem str_fmN (a : Int) : strOfNums (fmN a) = ⟨(Lib.itoa a).toArray⟩ := by
  apply ByteArray.ext
  apply Array.ext'
  rw [strOfNums_data]
  unfold fmN Lib.itoa
  split
  · simp only [List.map_cons, dig_nums]
    rfl
  · exact dig_nums _
theorem sfmtI_ev (a : Int) (h0 : -9223372036854775808 ≤ a) (h1 : a ≤ 9223372036854775807) : Ev (fun k => spec_FormatNumber.f k a) (strOfNums (fmN a)) := by
  by_cases hn : a < 0
  · by_cases hm : a = -9223372036854775808
    · subst hm
      refine Ev.succ' ?_
      simp only [spec_FormatNumber.f, if_true]
      have e : (⟨#[45, 57, 50, 50, 51, 51, 55, 50, 48, 51, 54, 56, 53, 52, 55, 55, 53, 56, 48, 56]⟩ : ByteArray) = strOfNums (fmN (-9223372036854775808)) := by
        rw [str_fmN]
        have e2 : Lib.itoa (-9223372036854775808) = [45, 57, 50, 50, 51, 51, 55, 50, 48, 51, 54, 56, 53, 52, 55, 55, 53, 56, 48, 56] := by simp [Lib.itoa, Lib.decDigits]
        rw [e2]
      rw [e]
      exact Ev.now _
    · refine Ev.succ' ?_
      simp only [spec_FormatNumber.f, if_neg hm, if_pos hn]
      rw [w64 (by omega) (by omega)]
      have he := sfmt_ev (-a).toNat (by omega)
      rw [show (((-a).toNat : Nat) : Int) = -a by omega] at he
      refine Ev.bind he ?_
      have hl := dig_len2 (-a).toNat
      rw [strOfNums_size, if_pos (by omega)]
      have e : (⟨#[45]⟩ : ByteArray) ++ strOfNums (dig (-a).toNat) = strOfNums (fmN a) := by
        have e1 : (⟨#[45]⟩ : ByteArray) = strOfNums [45] := rfl
        rw [e1, str_append]
        unfold fmN
        rw [if_pos hn, show a.natAbs = (-a).toNat by omega]
        rfl
      rw [e]
      exact Ev.now _
  · have he := sfmt_ev a.toNat (by omega)
    rw [show ((a.toNat : Nat) : Int) = a by omega] at he
    unfold fmN
    rw [if_neg hn]
    exact he
theorem iItoa (a : Int) (h0 : -9223372036854775808 ≤ a) (h1 : a ≤ 9223372036854775807) : impl_FormatNumber.f a = some (strOfNums (fmN a)) := by
  unfold impl_FormatNumber.f Go.Proofs.YtcnkfnkdcjpkoaaDoorV.strconv_Itoa.f
  rw [if_pos ⟨h0, h1⟩, str_fmN]
  rfl

def splV (s p : ByteArray) : List ByteArray := Lib.splitB p 0 (Lib.countB s p) s
theorem splB_len (p : ByteArray) (hp : 1 ≤ p.size) : ∀ (n : Nat) (s : ByteArray), s.size ≤ n → (splV s p).length = Lib.countB s p + 1 := by
  intro n
  induction n with
  | zero =>
    intro s hs
    have hm : Lib.indexB s p = -1 := by
      refine Lib.index_none fun j _ => ?_
      cases hh : Lib.occAt s.data.toList p.data.toList j with
      | false => rfl
      | true =>
        rcases Lib.occAt_room hh with h | h
        · have : s.data.toList.length = s.size := rfl
          have : p.data.toList.length = p.size := rfl
          omega
        · have : p.data.toList.length = p.size := rfl
          rw [h] at this; simp at this; omega
    unfold splV
    rw [Lib.countB_miss s p hm, Lib.splitB_zero]
    rfl
  | succ n ih =>
    intro s hs
    rcases Int.lt_or_le (Lib.indexB s p) 0 with hm | hm
    · have h1 := Lib.index_ge s.data.toList p.data.toList
      have hm : Lib.indexB s p = -1 := by unfold Lib.indexB at hm ⊢; omega
      unfold splV
      rw [Lib.countB_miss s p hm, Lib.splitB_zero]
      rfl
    · obtain ⟨i, hi⟩ : ∃ i : Nat, Lib.indexB s p = i := ⟨(Lib.indexB s p).toNat, by omega⟩
      have hl : (s.extract (i + p.size) s.size).size ≤ n := by rw [ByteArray.size_extract]; omega
      have := ih _ hl
      unfold splV at this ⊢
      rw [Lib.countB_hit s p i hp hi, Nat.add_comm 1, Lib.splitB_hit p 0 _ s i hi, List.length_cons, this]
theorem whole (s : ByteArray) : s.extract 0 s.size = s := Lib.whole_piece s
theorem spl_count (s p : ByteArray) : Lib.countB s p ≤ s.size + 1 := Lib.count_le _ _
def splA (s p : ByteArray) : List ByteArray := if p.size = 0 then [s] else splV s p
theorem nil_iff (p : ByteArray) : p.toList = ([] : List UInt8) ↔ p.size = 0 := by
  have : p.toList.length = p.size := by rw [ByteArray.toList_eq]; rfl
  constructor
  · intro e; rw [e] at this; simp at this; omega
  · intro e; exact List.length_eq_zero_iff.1 (by omega)
theorem splA_len (s p : ByteArray) (hs : s.size ≤ 1048576) : (splA s p).length ≤ 1048578 := by
  unfold splA
  split
  · simp
  · have h1 := splB_len p (by omega) s.size s (Nat.le_refl _)
    have h2 := spl_count s p
    omega

theorem ispl (s p : ByteArray) (hs : s.size ≤ 1048576) : impl_SplitAt.f s p = some (splA s p) := by
  unfold impl_SplitAt.f splA
  by_cases hp : p.size = 0
  · rw [if_pos ((nil_iff p).2 hp), if_pos hp]
  · rw [if_neg (fun e => hp ((nil_iff p).1 e)), if_neg hp]
    unfold Go.Proofs.YtcnkfnkdcjpkoaaDoorV.strings_Split.f
    have h1 := splB_len p (by omega) s.size s (Nat.le_refl _)
    have h2 := spl_count s p
    rw [if_pos ⟨by omega, by omega, h1, by omega⟩]
    rfl

def frac (r : Int) : List Int := if r = 1 then [46, 49, 50, 53] else if r = 2 then [46, 50, 53] else if r = 3 then [46, 51, 55, 53] else if r = 4 then [46, 53] else if r = 5 then [46, 54, 50, 53] else if r = 6 then [46, 55, 53] else if r = 7 then [46, 56, 55, 53] else []
def fmB (x : Int) : List Int := dig (x / 8).toNat ++ frac (x % 8)
def fmM (a : Int) : List Int := if a < 0 then 45 :: fmB (-a) else fmB a
def fmT (a : Int) : List Int := if -4096 ≤ a ∧ a ≤ 4096 then fmM a else []
theorem frac_len (r : Int) : (frac r).length ≤ 4 := by
  unfold frac
  repeat' split
  all_goals simp
theorem frac_bytes (r : Int) : IsBytes (frac r) := by
  intro x hx
  unfold frac at hx
  repeat' split at hx
  all_goals (simp at hx; try omega)
theorem fmT_bytes (a : Int) : IsBytes (fmT a) := by
  unfold fmT fmM fmB
  split
  · split
    · exact IsBytes.cons (by omega) (IsBytes.append (dig_bytes _) (frac_bytes _))
    · exact IsBytes.append (dig_bytes _) (frac_bytes _)
  · exact IsBytes.nil
def fracTab : List ByteArray := [(⟨#[]⟩ : ByteArray), (⟨#[46, 49, 50, 53]⟩ : ByteArray), (⟨#[46, 50, 53]⟩ : ByteArray), (⟨#[46, 51, 55, 53]⟩ : ByteArray), (⟨#[46, 53]⟩ : ByteArray), (⟨#[46, 54, 50, 53]⟩ : ByteArray), (⟨#[46, 55, 53]⟩ : ByteArray), (⟨#[46, 56, 55, 53]⟩ : ByteArray)]
theorem frac_cases {r : Int} (h0 : 0 ≤ r) (h8 : r < 8) : r = 0 ∨ r = 1 ∨ r = 2 ∨ r = 3 ∨ r = 4 ∨ r = 5 ∨ r = 6 ∨ r = 7 := by omega
theorem frac_tab {r : Int} (h0 : 0 ≤ r) (h8 : r < 8) : rdOf ByteArray.empty fracTab r = strOfNums (frac r) := by
  rcases frac_cases h0 h8 with rfl | rfl | rfl | rfl | rfl | rfl | rfl | rfl <;> rfl
theorem str_cons1 (l : List Int) : (⟨#[45]⟩ : ByteArray) ++ strOfNums l = strOfNums (45 :: l) := by
  have e1 : (⟨#[45]⟩ : ByteArray) = strOfNums [45] := rfl
  rw [e1, str_append]
  rfl
theorem str_nil1 (l : List Int) : (⟨#[]⟩ : ByteArray) ++ strOfNums l = strOfNums l := by
  have e1 : (⟨#[]⟩ : ByteArray) = strOfNums [] := rfl
  rw [e1, str_append]
  rfl

theorem sFM_ev (a : Int) : Ev (fun k => spec_FormatMeasure.f k a) (strOfNums (fmT a)) := by
  unfold spec_FormatMeasure.f
  simp only [sIsMeasure, Option.bind_some, decide_eq_true_eq]
  by_cases hm : -4096 ≤ a ∧ a ≤ 4096
  · simp only [if_pos hm]
    unfold fmT fmM
    rw [if_pos hm]
    change Ev (fun k => if a < 0 then ((spec_FormatNumber.f k (wrap64 (Int.tdiv (wrap64 (-a)) 8))).bind fun t107 => (if 1 + t107.size ≤ 9223372036854775807 then (if 0 ≤ (Int.tmod (wrap64 (-a)) 8) then (if (Int.tmod (wrap64 (-a)) 8) < (fracTab.length : Int) then (if ((⟨#[45]⟩ : ByteArray) ++ t107).size + (rdOf ByteArray.empty fracTab (Int.tmod (wrap64 (-a)) 8)).size ≤ 9223372036854775807 then (some (((⟨#[45]⟩ : ByteArray) ++ t107) ++ (rdOf ByteArray.empty fracTab (Int.tmod (wrap64 (-a)) 8)))) else none) else none) else none) else none)) else ((spec_FormatNumber.f k (wrap64 (Int.tdiv a 8))).bind fun t112 => (if 0 + t112.size ≤ 9223372036854775807 then (if 0 ≤ (Int.tmod a 8) then (if (Int.tmod a 8) < (fracTab.length : Int) then (if ((⟨#[]⟩ : ByteArray) ++ t112).size + (rdOf ByteArray.empty fracTab (Int.tmod a 8)).size ≤ 9223372036854775807 then (some (((⟨#[]⟩ : ByteArray) ++ t112) ++ (rdOf ByteArray.empty fracTab (Int.tmod a 8)))) else none) else none) else none) else none))) _
    have hl : (fracTab.length : Int) = 8 := rfl
    by_cases hn : a < 0
    · simp only [if_pos hn]
      rw [w64 (x := -a) (by omega) (by omega), tdiv_pos (by omega), tmod_pos (by omega), w64 (by omega) (by omega)]
      have he := sfmt_ev (-a / 8).toNat (by omega)
      rw [show (((-a / 8).toNat : Nat) : Int) = -a / 8 by omega] at he
      refine Ev.bind he ?_
      have h1 := dig_len2 (-a / 8).toNat
      have h2 := frac_len (-a % 8)
      simp only [frac_tab (show 0 ≤ -a % 8 by omega) (show -a % 8 < 8 by omega), str_cons1, strOfNums_size, List.length_cons, str_append]
      rw [if_pos (by omega), if_pos (by omega), if_pos (by omega), if_pos (by omega)]
      exact Ev.now _
    · simp only [if_neg hn]
      rw [tdiv_pos (by omega), tmod_pos (by omega), w64 (by omega) (by omega)]
      have he := sfmt_ev (a / 8).toNat (by omega)
      rw [show (((a / 8).toNat : Nat) : Int) = a / 8 by omega] at he
      refine Ev.bind he ?_
      have h1 := dig_len2 (a / 8).toNat
      have h2 := frac_len (a % 8)
      simp only [frac_tab (show 0 ≤ a % 8 by omega) (show a % 8 < 8 by omega), str_nil1, strOfNums_size, str_append]
      rw [if_pos (by omega), if_pos (by omega), if_pos (by omega), if_pos (by omega)]
      exact Ev.now _
  · simp only [if_neg hm]
    unfold fmT
    rw [if_neg hm]
    exact Ev.now _

theorem trim7 {r : Int} (h1 : 1 ≤ r) (h8 : r < 8) : Go.Proofs.YtcnkfnkdcjpkoaaDoorV.strings_TrimRight.f ((strOfNums (fmN (1000 + r * 125))).extract 1 (strOfNums (fmN (1000 + r * 125))).size) ⟨#[48]⟩ = some (strOfNums ((frac r).drop 1)) ∧ (strOfNums (fmN (1000 + r * 125))).size = 4 := by
  have hc : r = 1 ∨ r = 2 ∨ r = 3 ∨ r = 4 ∨ r = 5 ∨ r = 6 ∨ r = 7 := by omega
  rcases hc with rfl | rfl | rfl | rfl | rfl | rfl | rfl
  · have e : fmN (1000 + 1 * 125) = [49, 49, 50, 53] := by simp [fmN, dig]
    rw [e]; exact ⟨rfl, rfl⟩
  · have e : fmN (1000 + 2 * 125) = [49, 50, 53, 48] := by simp [fmN, dig]
    rw [e]; exact ⟨rfl, rfl⟩
  · have e : fmN (1000 + 3 * 125) = [49, 51, 55, 53] := by simp [fmN, dig]
    rw [e]; exact ⟨rfl, rfl⟩
  · have e : fmN (1000 + 4 * 125) = [49, 53, 48, 48] := by simp [fmN, dig]
    rw [e]; exact ⟨rfl, rfl⟩
  · have e : fmN (1000 + 5 * 125) = [49, 54, 50, 53] := by simp [fmN, dig]
    rw [e]; exact ⟨rfl, rfl⟩
  · have e : fmN (1000 + 6 * 125) = [49, 55, 53, 48] := by simp [fmN, dig]
    rw [e]; exact ⟨rfl, rfl⟩
  · have e : fmN (1000 + 7 * 125) = [49, 56, 55, 53] := by simp [fmN, dig]
    rw [e]; exact ⟨rfl, rfl⟩
theorem frac_drop {r : Int} (h1 : 1 ≤ r) (h8 : r < 8) : 46 :: (frac r).drop 1 = frac r := by
  have hc : r = 1 ∨ r = 2 ∨ r = 3 ∨ r = 4 ∨ r = 5 ∨ r = 6 ∨ r = 7 := by omega
  rcases hc with rfl | rfl | rfl | rfl | rfl | rfl | rfl <;> rfl
theorem str_dot (l : List Int) : (⟨#[46]⟩ : ByteArray) ++ strOfNums l = strOfNums (46 :: l) := by
  have e1 : (⟨#[46]⟩ : ByteArray) = strOfNums [46] := rfl
  rw [e1, str_append]
  rfl
theorem fmN_nat {x : Int} (h : 0 ≤ x) : fmN x = dig x.toNat := by unfold fmN; rw [if_neg (by omega)]
theorem iFMj (x : Int) (sg : List Int) (h0 : 0 ≤ x) (h1 : x ≤ 4096) (hs : sg.length ≤ 1) : Ev (fun k => impl_FormatMeasure.j0 k x (strOfNums sg)) (strOfNums (sg ++ fmB x)) := by
  refine Ev.succ' ?_
  simp only [impl_FormatMeasure.j0]
  rw [tdiv_pos (by omega), tmod_pos (by omega), w64 (x := x / 8) (by omega) (by omega), iItoa (x / 8) (by omega) (by omega)]
  have hl := dig_len2 (x / 8).toNat
  simp only [Option.bind_some, fmN_nat (show 0 ≤ x / 8 by omega), strOfNums_size, str_append]
  rw [if_pos (by omega)]
  by_cases hr : x % 8 > 0
  · rw [if_pos hr, w64 (x := x % 8 * 125) (by omega) (by omega), w64 (x := 1000 + x % 8 * 125) (by omega) (by omega), iItoa (1000 + x % 8 * 125) (by omega) (by omega)]
    obtain ⟨t1, t2⟩ := trim7 (r := x % 8) (by omega) (by omega)
    rw [strOfNums_size] at t2
    have hf := frac_len (x % 8)
    have hd : ((frac (x % 8)).drop 1).length ≤ 4 := by rw [List.length_drop]; omega
    simp only [Option.bind_some]
    rw [strOfNums_size, t2, if_pos (by omega)]
    rw [strOfNums_size, t2] at t1
    rw [t1]
    simp only [Option.bind_some, strOfNums_size, str_dot, str_append, frac_drop (show 1 ≤ x % 8 by omega) (show x % 8 < 8 by omega)]
    rw [if_pos (by omega), if_pos (by rw [List.length_append]; omega)]
    unfold fmB
    rw [List.append_assoc]
    exact Ev.now _
  · rw [if_neg hr]
    unfold fmB
    rw [show x % 8 = 0 by omega]
    have hf0 : frac 0 = [] := rfl
    rw [hf0, List.append_nil]
    exact Ev.now _
theorem iFM_ev (a : Int) : Ev (fun k => impl_FormatMeasure.f k a) (strOfNums (fmT a)) := by
  unfold impl_FormatMeasure.f
  simp only [iIsMeasure, Option.bind_some, decide_eq_true_eq]
  by_cases hm : -4096 ≤ a ∧ a ≤ 4096
  · simp only [if_pos hm]
    unfold fmT fmM
    rw [if_pos hm]
    by_cases hn : a < 0
    · simp only [if_pos hn]
      rw [w64 (by omega) (by omega)]
      exact iFMj (-a) [45] (by omega) (by omega) (by simp)
    · simp only [if_neg hn]
      exact iFMj a [] (by omega) (by omega) (by simp)
  · simp only [if_neg hm]
    unfold fmT
    rw [if_neg hm]
    exact Ev.now _

def fmP (x y : Int) : List Int := if PL x y then fmM x ++ (if y < 0 then [] else [43]) ++ fmM y ++ [105] else []
theorem fmM_len (a : Int) (h : -4096 ≤ a ∧ a ≤ 4096) : (fmM a).length ≤ 600 := by
  unfold fmM fmB
  have h1 := dig_len2 (-a / 8).toNat
  have h2 := dig_len2 (a / 8).toNat
  have h3 := frac_len (-a % 8)
  have h4 := frac_len (a % 8)
  split
  · simp only [List.length_cons, List.length_append]; omega
  · simp only [List.length_append]; omega
theorem str_i (l : List Int) : strOfNums l ++ (⟨#[105]⟩ : ByteArray) = strOfNums (l ++ [105]) := by
  have e1 : (⟨#[105]⟩ : ByteArray) = strOfNums [105] := rfl
  rw [e1, str_append]
theorem str_p (l : List Int) : strOfNums l ++ (⟨#[43]⟩ : ByteArray) = strOfNums (l ++ [43]) := by
  have e1 : (⟨#[43]⟩ : ByteArray) = strOfNums [43] := rfl
  rw [e1, str_append]
theorem str_e (l : List Int) : strOfNums l ++ (⟨#[]⟩ : ByteArray) = strOfNums l := by
  have e1 : (⟨#[]⟩ : ByteArray) = strOfNums [] := rfl
  rw [e1, str_append, List.append_nil]
theorem fmT_pos {a : Int} (h : -4096 ≤ a ∧ a ≤ 4096) : fmT a = fmM a := if_pos h

theorem sFP_ev (x y : Int) : Ev (fun k => spec_FormatPlace.f k x y) (strOfNums (fmP x y)) := by
  unfold spec_FormatPlace.f
  simp only [sPL, Option.bind_some, decide_eq_true_eq]
  unfold fmP
  by_cases hp : PL x y
  · rw [if_pos hp]
    simp only [if_pos hp]
    have l1 := fmM_len x hp.1
    have l2 := fmM_len y hp.2
    have h1 := sFM_ev x
    have h2 := sFM_ev y
    rw [fmT_pos hp.1] at h1
    rw [fmT_pos hp.2] at h2
    refine Ev.bind h1 ?_
    by_cases hy : y < 0
    · simp only [if_neg (show ¬ y ≥ 0 by omega), if_pos hy, List.append_nil]
      refine Ev.bind h2 ?_
      simp only [strOfNums_size, str_append, str_i, List.length_append]
      rw [if_pos (by omega), if_pos (by omega)]
      exact Ev.now _
    · simp only [if_pos (show y ≥ 0 by omega), if_neg hy, strOfNums_size, if_pos (show (fmM x).length + 1 ≤ 9223372036854775807 by omega)]
      refine Ev.bind h2 ?_
      simp only [str_p, strOfNums_size, str_append, str_i, List.length_append, List.length_singleton]
      rw [if_pos (by omega), if_pos (by omega)]
      exact Ev.now _
  · rw [if_neg hp]
    simp only [if_neg hp]
    exact Ev.now _

theorem iFP_ev (x y : Int) : Ev (fun k => impl_FormatPlace.f k x y) (strOfNums (fmP x y)) := by
  unfold impl_FormatPlace.f
  simp only [iPL, Option.bind_some, decide_eq_true_eq]
  unfold fmP
  by_cases hp : PL x y
  · rw [if_pos hp]
    simp only [if_pos hp]
    have l1 := fmM_len x hp.1
    have l2 := fmM_len y hp.2
    have h1 := iFM_ev x
    have h2 := iFM_ev y
    rw [fmT_pos hp.1] at h1
    rw [fmT_pos hp.2] at h2
    by_cases hy : y < 0
    · simp only [if_pos hy, List.append_nil]
      refine Ev.bind h1 ?_
      simp only [strOfNums_size, str_e, if_pos (show (fmM x).length + 0 ≤ 9223372036854775807 by omega)]
      refine Ev.bind h2 ?_
      simp only [strOfNums_size, str_append, str_i, List.length_append]
      rw [if_pos (by omega), if_pos (by omega)]
      exact Ev.now _
    · simp only [if_neg hy]
      refine Ev.bind h1 ?_
      simp only [strOfNums_size, if_pos (show (fmM x).length + 1 ≤ 9223372036854775807 by omega)]
      refine Ev.bind h2 ?_
      simp only [str_p, strOfNums_size, str_append, str_i, List.length_append, List.length_singleton]
      rw [if_pos (by omega), if_pos (by omega)]
      exact Ev.now _
  · rw [if_neg hp]
    simp only [if_neg hp]
    exact Ev.now _

def fmJ (p n t l : ByteArray) : ByteArray := (((((((⟨#[97, 116, 32]⟩ : ByteArray) ++ p) ++ (⟨#[32, 104, 101, 97, 100, 105, 110, 103, 32]⟩ : ByteArray)) ++ n) ++ (⟨#[32, 116, 105, 108, 116, 32]⟩ : ByteArray)) ++ t) ++ (⟨#[32, 108, 105, 102, 116, 32]⟩ : ByteArray)) ++ l
def fmJet (x y h t l : Int) : ByteArray := if JetOK x y h t l then fmJ (strOfNums (fmP x y)) (strOfNums (fmN h)) (strOfNums (fmT t)) (strOfNums (fmT l)) else ⟨#[]⟩
theorem fmP_size (x y : Int) : (strOfNums (fmP x y)).size ≤ 1300 := by
  rw [strOfNums_size]
  unfold fmP
  split
  · next hp =>
    have l1 := fmM_len x hp.1
    have l2 := fmM_len y hp.2
    simp only [List.length_append, List.length_singleton]
    split <;> simp <;> omega
  · simp
theorem fmT_size (a : Int) : (strOfNums (fmT a)).size ≤ 600 := by
  rw [strOfNums_size]
  by_cases hm : -4096 ≤ a ∧ a ≤ 4096
  · rw [fmT_pos hm]; exact fmM_len a hm
  · unfold fmT; rw [if_neg hm]; simp
theorem fmN_size {a : Int} (h0 : 0 ≤ a) (h1 : a ≤ 1000) : (strOfNums (fmN a)).size ≤ 200 := by
  rw [strOfNums_size]
  unfold fmN
  rw [if_neg (by omega)]
  have := dig_len2 a.toNat
  omega

theorem sFJ_ev (x y h t l : Int) : Ev (fun k => spec_FormatJet.f k x y h t l) (fmJet x y h t l) := by
  unfold spec_FormatJet.f
  simp only [sIsJet, Option.bind_some, decide_eq_true_eq]
  unfold fmJet
  by_cases hj : JetOK x y h t l
  · rw [if_pos hj]
    simp only [if_pos hj]
    have hh : 0 ≤ h ∧ h ≤ 1000 := by unfold JetOK at hj; omega
    have b1 := fmP_size x y
    have b2 := fmN_size hh.1 hh.2
    have b3 := fmT_size t
    have b4 := fmT_size l
    have h1 := sFP_ev x y
    have h2 := sfmtI_ev h (by omega) (by omega)
    have h3 := sFM_ev t
    have h4 := sFM_ev l
    generalize strOfNums (fmP x y) = p at b1 h1 ⊢
    generalize strOfNums (fmN h) = n at b2 h2 ⊢
    generalize strOfNums (fmT t) = u at b3 h3 ⊢
    generalize strOfNums (fmT l) = v at b4 h4 ⊢
    have s1 : (⟨#[97, 116, 32]⟩ : ByteArray).size = 3 := rfl
    have s2 : (⟨#[32, 104, 101, 97, 100, 105, 110, 103, 32]⟩ : ByteArray).size = 9 := rfl
    have s3 : (⟨#[32, 116, 105, 108, 116, 32]⟩ : ByteArray).size = 6 := rfl
    have s4 : (⟨#[32, 108, 105, 102, 116, 32]⟩ : ByteArray).size = 6 := rfl
    refine Ev.bind h1 ?_
    simp only [ByteArray.size_append, if_pos (show 3 + p.size ≤ 9223372036854775807 by omega), if_pos (show (⟨#[97, 116, 32]⟩ : ByteArray).size + p.size + 9 ≤ 9223372036854775807 by omega)]
    refine Ev.bind h2 ?_
    simp only [if_pos (show (⟨#[97, 116, 32]⟩ : ByteArray).size + p.size + (⟨#[32, 104, 101, 97, 100, 105, 110, 103, 32]⟩ : ByteArray).size + n.size ≤ 9223372036854775807 by omega), if_pos (show (⟨#[97, 116, 32]⟩ : ByteArray).size + p.size + (⟨#[32, 104, 101, 97, 100, 105, 110, 103, 32]⟩ : ByteArray).size + n.size + 6 ≤ 9223372036854775807 by omega)]
    refine Ev.bind h3 ?_
    simp only [if_pos (show (⟨#[97, 116, 32]⟩ : ByteArray).size + p.size + (⟨#[32, 104, 101, 97, 100, 105, 110, 103, 32]⟩ : ByteArray).size + n.size + (⟨#[32, 116, 105, 108, 116, 32]⟩ : ByteArray).size + u.size ≤ 9223372036854775807 by omega), if_pos (show (⟨#[97, 116, 32]⟩ : ByteArray).size + p.size + (⟨#[32, 104, 101, 97, 100, 105, 110, 103, 32]⟩ : ByteArray).size + n.size + (⟨#[32, 116, 105, 108, 116, 32]⟩ : ByteArray).size + u.size + 6 ≤ 9223372036854775807 by omega)]
    refine Ev.bind h4 ?_
    simp only [if_pos (show (⟨#[97, 116, 32]⟩ : ByteArray).size + p.size + (⟨#[32, 104, 101, 97, 100, 105, 110, 103, 32]⟩ : ByteArray).size + n.size + (⟨#[32, 116, 105, 108, 116, 32]⟩ : ByteArray).size + u.size + (⟨#[32, 108, 105, 102, 116, 32]⟩ : ByteArray).size + v.size ≤ 9223372036854775807 by omega)]
    exact Ev.now _
  · rw [if_neg hj]
    simp only [if_neg hj]
    exact Ev.now _

theorem iFJ_ev (x y h t l : Int) : Ev (fun k => impl_FormatJet.f k x y h t l) (fmJet x y h t l) := by
  unfold impl_FormatJet.f
  simp only [iIsJet, Option.bind_some, decide_eq_true_eq]
  unfold fmJet
  by_cases hj : JetOK x y h t l
  · rw [if_pos hj]
    simp only [if_pos hj]
    have hh : 0 ≤ h ∧ h ≤ 1000 := by unfold JetOK at hj; omega
    have b1 := fmP_size x y
    have b2 := fmN_size hh.1 hh.2
    have b3 := fmT_size t
    have b4 := fmT_size l
    have h1 := iFP_ev x y
    have h2 := iItoa h (by omega) (by omega)
    have h3 := iFM_ev t
    have h4 := iFM_ev l
    generalize strOfNums (fmP x y) = p at b1 h1 ⊢
    generalize strOfNums (fmN h) = n at b2 h2 ⊢
    generalize strOfNums (fmT t) = u at b3 h3 ⊢
    generalize strOfNums (fmT l) = v at b4 h4 ⊢
    have s1 : (⟨#[97, 116, 32]⟩ : ByteArray).size = 3 := rfl
    have s2 : (⟨#[32, 104, 101, 97, 100, 105, 110, 103, 32]⟩ : ByteArray).size = 9 := rfl
    have s3 : (⟨#[32, 116, 105, 108, 116, 32]⟩ : ByteArray).size = 6 := rfl
    have s4 : (⟨#[32, 108, 105, 102, 116, 32]⟩ : ByteArray).size = 6 := rfl
    refine Ev.bind h1 ?_
    simp only [ByteArray.size_append, if_pos (show 3 + p.size ≤ 9223372036854775807 by omega), if_pos (show (⟨#[97, 116, 32]⟩ : ByteArray).size + p.size + 9 ≤ 9223372036854775807 by omega), h2, Option.bind_some]
    simp only [if_pos (show (⟨#[97, 116, 32]⟩ : ByteArray).size + p.size + (⟨#[32, 104, 101, 97, 100, 105, 110, 103, 32]⟩ : ByteArray).size + n.size ≤ 9223372036854775807 by omega), if_pos (show (⟨#[97, 116, 32]⟩ : ByteArray).size + p.size + (⟨#[32, 104, 101, 97, 100, 105, 110, 103, 32]⟩ : ByteArray).size + n.size + 6 ≤ 9223372036854775807 by omega)]
    refine Ev.bind h3 ?_
    simp only [if_pos (show (⟨#[97, 116, 32]⟩ : ByteArray).size + p.size + (⟨#[32, 104, 101, 97, 100, 105, 110, 103, 32]⟩ : ByteArray).size + n.size + (⟨#[32, 116, 105, 108, 116, 32]⟩ : ByteArray).size + u.size ≤ 9223372036854775807 by omega), if_pos (show (⟨#[97, 116, 32]⟩ : ByteArray).size + p.size + (⟨#[32, 104, 101, 97, 100, 105, 110, 103, 32]⟩ : ByteArray).size + n.size + (⟨#[32, 116, 105, 108, 116, 32]⟩ : ByteArray).size + u.size + 6 ≤ 9223372036854775807 by omega)]
    refine Ev.bind h4 ?_
    simp only [if_pos (show (⟨#[97, 116, 32]⟩ : ByteArray).size + p.size + (⟨#[32, 104, 101, 97, 100, 105, 110, 103, 32]⟩ : ByteArray).size + n.size + (⟨#[32, 116, 105, 108, 116, 32]⟩ : ByteArray).size + u.size + (⟨#[32, 108, 105, 102, 116, 32]⟩ : ByteArray).size + v.size ≤ 9223372036854775807 by omega)]
    exact Ev.now _
  · rw [if_neg hj]
    simp only [if_neg hj]
    exact Ev.now _

/-- The number that digits tell. -/
def dval (l : List Int) : Int := l.foldl (fun a d => 10 * a + (d - 48)) 0
theorem dval_dig : ∀ n : Nat, dval (dig n) = n := by
  intro n
  induction n using Nat.strongRecOn with
  | _ n ih =>
    by_cases h : n < 10
    · rw [dig_lt h]; simp [dval]; omega
    · rw [dig_ge h]
      have := ih (n / 10) (by omega)
      unfold dval at this ⊢
      rw [List.foldl_append, this]
      simp only [List.foldl_cons, List.foldl_nil]
      omega
theorem digits_cut (l : List Int) (hl : ∀ x ∈ l, x ≠ 46) (rest : List Int) (hr : rest = [] ∨ ∃ t, rest = 46 :: t) : (l ++ rest).takeWhile (fun x => decide (x ≠ 46)) = l ∧ (l ++ rest).dropWhile (fun x => decide (x ≠ 46)) = rest := by
  induction l with
  | nil =>
    rcases hr with rfl | ⟨t, rfl⟩
    · simp
    · simp
  | cons a l ih =>
    have ha : a ≠ 46 := hl a (List.mem_cons_self ..)
    have := ih (fun x hx => hl x (List.mem_cons_of_mem _ hx))
    simp only [List.cons_append, List.takeWhile_cons, List.dropWhile_cons, decide_eq_true ha, if_true]
    exact ⟨by rw [this.1], this.2⟩
theorem frac_dot (r : Int) : frac r = [] ∨ ∃ t, frac r = 46 :: t := by
  unfold frac
  repeat' split
  all_goals first | exact Or.inl rfl | exact Or.inr ⟨_, rfl⟩
theorem frac_inj {r r' : Int} (h0 : 0 ≤ r) (h8 : r < 8) (h0' : 0 ≤ r') (h8' : r' < 8) (h : frac r = frac r') : r = r' := by
  rcases frac_cases h0 h8 with rfl | rfl | rfl | rfl | rfl | rfl | rfl | rfl <;> rcases frac_cases h0' h8' with rfl | rfl | rfl | rfl | rfl | rfl | rfl | rfl <;> first | rfl | (exfalso; revert h; decide)
theorem dig_ne (n : Nat) : ∀ x ∈ dig n, x ≠ 46 := fun x hx => by have := dig_digits n x hx; omega
theorem fmB_inj {x y : Int} (hx : 0 ≤ x) (hy : 0 ≤ y) (h : fmB x = fmB y) : x = y := by
  unfold fmB at h
  have h1 := digits_cut (dig (x / 8).toNat) (dig_ne _) (frac (x % 8)) (frac_dot _)
  have h2 := digits_cut (dig (y / 8).toNat) (dig_ne _) (frac (y % 8)) (frac_dot _)
  rw [h] at h1
  have e1 : dig (x / 8).toNat = dig (y / 8).toNat := h1.1.symm.trans h2.1
  have e2 : frac (x % 8) = frac (y % 8) := h1.2.symm.trans h2.2
  have e3 : dval (dig (x / 8).toNat) = dval (dig (y / 8).toNat) := by rw [e1]
  rw [dval_dig, dval_dig] at e3
  have e4 := frac_inj (by omega) (by omega) (by omega) (by omega) e2
  omega
theorem fmB_head (x : Int) : ∃ d t, fmB x = d :: t ∧ 48 ≤ d ∧ d ≤ 57 := by
  have hl := (dig_len (x / 8).toNat).1
  unfold fmB
  match h : dig (x / 8).toNat with
  | [] => rw [h] at hl; simp at hl
  | d :: t =>
    have := dig_digits (x / 8).toNat d (by rw [h]; exact List.mem_cons_self ..)
    exact ⟨d, t ++ frac (x % 8), rfl, this⟩
theorem fmM_inj {a b : Int} (h : fmM a = fmM b) : a = b := by
  unfold fmM at h
  split at h <;> split at h
  · have := fmB_inj (by omega) (by omega) (List.cons.inj h).2
    omega
  · obtain ⟨d, t, e, h1, h2⟩ := fmB_head b
    rw [e] at h
    have := (List.cons.inj h).1
    omega
  · obtain ⟨d, t, e, h1, h2⟩ := fmB_head a
    rw [e] at h
    have := (List.cons.inj h).1
    omega
  · exact fmB_inj (by omega) (by omega) h
theorem fmM_bytes (a : Int) : IsBytes (fmM a) := by
  unfold fmM fmB
  split
  · exact IsBytes.cons (by omega) (IsBytes.append (dig_bytes _) (frac_bytes _))
  · exact IsBytes.append (dig_bytes _) (frac_bytes _)
/-- s is the text of the measure y. -/
def Rep (s : ByteArray) (y : Int) : Prop := -4096 ≤ y ∧ y ≤ 4096 ∧ s = strOfNums (fmM y)
theorem Rep.inj {s : ByteArray} {y z : Int} (h : Rep s y) (k : Rep s z) : y = z := fmM_inj (str_inj (fmM_bytes _) (fmM_bytes _) (h.2.2.symm.trans k.2.2))
theorem Rep.of {s : ByteArray} {y : Int} (h : (strOfNums (fmT y)).toList = s.toList) (hs : s.size ≠ 0) : Rep s y := by
  have e := toList_inj.1 h
  unfold fmT at e
  split at e
  · next hm => exact ⟨hm.1, hm.2, e.symm⟩
  · rw [← e, strOfNums_size] at hs
    exact absurd rfl hs
theorem Rep.to {s : ByteArray} {y : Int} (h : Rep s y) : (strOfNums (fmT y)).toList = s.toList := by
  unfold fmT
  rw [if_pos ⟨h.1, h.2.1⟩, h.2.2]
noncomputable def pmV (s : ByteArray) : Int × Bool := open Classical in if h : ∃ y, Rep s y then (Classical.choose h, true) else (0, false)
theorem pmV_pos {s : ByteArray} {y : Int} (h : Rep s y) : pmV s = (y, true) := by
  unfold pmV
  have hx : ∃ y, Rep s y := ⟨y, h⟩
  rw [dif_pos hx, Rep.inj (Classical.choose_spec hx) h]
theorem pmV_neg {s : ByteArray} (h : ∀ y, ¬ Rep s y) : pmV s = (0, false) := by
  unfold pmV
  rw [dif_neg (fun ⟨y, hy⟩ => h y hy)]

theorem bt_str (l : List Int) (h : IsBytes l) (i : Int) : bt (strOfNums l) i = l.getD i.toNat 0 := by rw [bt_rd, bytesOf_str h]
theorem numOf_dig {n : Nat} (h : n ≤ 999) : numOf (strOfNums (dig n)) = ((n : Int), true) := by
  unfold numOf
  have hs : (strOfNums (dig n)).size = (dig n).length := strOfNums_size _
  by_cases h1 : n ≤ 9
  · have e := dig1 h1
    rw [hs, bt_str _ (dig_bytes n), e]
    rw [if_pos (show ([48 + (n : Int)] : List Int).length = 1 from rfl)]
    simp only [Int.toNat_zero, List.getD_cons_zero]
    rw [if_pos (by omega)]
    simp only [Prod.mk.injEq, and_true]; omega
  · by_cases h2 : n ≤ 99
    · have e := dig2 (by omega) h2
      rw [hs, bt_str _ (dig_bytes n), bt_str _ (dig_bytes n), bt_str _ (dig_bytes n), e]
      rw [if_neg (by simp), if_pos (show ([48 + ((n / 10 : Nat) : Int), 48 + ((n % 10 : Nat) : Int)] : List Int).length = 2 from rfl)]
      show (if (49 ≤ 48 + ((n / 10 : Nat) : Int) ∧ 48 + ((n / 10 : Nat) : Int) ≤ 57) ∧ (48 ≤ 48 + ((n % 10 : Nat) : Int) ∧ 48 + ((n % 10 : Nat) : Int) ≤ 57) then (10 * (48 + ((n / 10 : Nat) : Int) - 48) + (48 + ((n % 10 : Nat) : Int) - 48), true) else (0, false)) = _
      rw [if_pos (by omega)]
      simp only [Prod.mk.injEq, and_true]; omega
    · have e := dig3 (by omega) h
      rw [hs, bt_str _ (dig_bytes n), bt_str _ (dig_bytes n), bt_str _ (dig_bytes n), e]
      rw [if_neg (by simp), if_neg (by simp), if_pos (show ([48 + ((n / 100 : Nat) : Int), 48 + ((n / 10 % 10 : Nat) : Int), 48 + ((n % 10 : Nat) : Int)] : List Int).length = 3 from rfl)]
      show (if (49 ≤ 48 + ((n / 100 : Nat) : Int) ∧ 48 + ((n / 100 : Nat) : Int) ≤ 57) ∧ (48 ≤ 48 + ((n / 10 % 10 : Nat) : Int) ∧ 48 + ((n / 10 % 10 : Nat) : Int) ≤ 57) ∧ (48 ≤ 48 + ((n % 10 : Nat) : Int) ∧ 48 + ((n % 10 : Nat) : Int) ≤ 57) then (100 * (48 + ((n / 100 : Nat) : Int) - 48) + 10 * (48 + ((n / 10 % 10 : Nat) : Int) - 48) + (48 + ((n % 10 : Nat) : Int) - 48), true) else (0, false)) = _
      rw [if_pos (by omega)]
      simp only [Prod.mk.injEq, and_true]; omega
theorem numOf_range (s : ByteArray) : 0 ≤ (numOf s).1 ∧ (numOf s).1 ≤ 999 := by
  unfold numOf
  repeat' split
  all_goals (simp only; omega)
theorem numOf_empty {s : ByteArray} (h : s.size = 0) : numOf s = (0, false) := by
  unfold numOf
  rw [if_neg (by omega), if_neg (by omega), if_neg (by omega)]

theorem idx_dot (l rest : List UInt8) (h : ∀ b ∈ l, b ≠ 46) : Lib.index (l ++ 46 :: rest) [46] = l.length ∧ Lib.index l [46] = -1 := by
  induction l with
  | nil => exact ⟨rfl, rfl⟩
  | cons b l ih =>
    have hb : b ≠ 46 := h b (List.mem_cons_self ..)
    obtain ⟨h1, h2⟩ := ih (fun x hx => h x (List.mem_cons_of_mem _ hx))
    have hp : ∀ t : List UInt8, List.isPrefixOf [46] (b :: t) = false := fun t => by
      simp only [List.isPrefixOf, Bool.and_true, beq_eq_false_iff_ne]
      exact fun e => hb e.symm
    constructor
    · rw [List.cons_append]
      unfold Lib.index
      rw [hp, h1]
      simp only [Bool.false_eq_true, if_false]
      rw [if_neg (by simp only [beq_iff_eq]; omega)]
      simp only [List.length_cons]; omega
    · unfold Lib.index
      rw [hp, h2]
      rfl
def u8 (l : List Int) : List UInt8 := l.map fun n => UInt8.ofNat n.toNat
theorem u8_ne (l : List Int) (h : ∀ x ∈ l, 47 ≤ x ∧ x ≤ 57 ∨ x = 45) : ∀ b ∈ u8 l, b ≠ 46 := by
  intro b hb
  obtain ⟨x, hx, rfl⟩ := List.mem_map.1 hb
  intro e
  have h1 := congrArg UInt8.toNat e
  have h2 := h x hx
  simp at h1
  omega
theorem u8_rest (r : Int) : u8 (frac r) = [] ∨ ∃ t, u8 (frac r) = 46 :: t := by
  rcases frac_dot r with h | ⟨t, h⟩
  · rw [h]; exact Or.inl rfl
  · rw [h]; exact Or.inr ⟨u8 t, rfl⟩
theorem rep_data {s : ByteArray} {y : Int} (h : Rep s y) : s.data.toList = u8 ((if y < 0 then [45] else []) ++ dig (y.natAbs / 8)) ++ u8 (frac (((y.natAbs % 8 : Nat) : Int))) := by
  rw [h.2.2, strOfNums_data]
  unfold fmM fmB u8
  rw [← List.map_append]
  congr 1
  split
  · rw [show (-y / 8).toNat = y.natAbs / 8 by omega, show -y % 8 = ((y.natAbs % 8 : Nat) : Int) by omega]
    simp
  · rw [show (y / 8).toNat = y.natAbs / 8 by omega, show y % 8 = ((y.natAbs % 8 : Nat) : Int) by omega]
    simp

theorem iPMloop (s : ByteArray) (hs : s.size ≠ 0) (x : Int) (h0 : 0 ≤ x) (h9 : x ≤ 7992) (d : Nat) : ∀ i : Int, 0 ≤ i → 8 - i = d →
    ∃ r, Ev (fun k => impl_ParseMeasure.l0 k s x i) r ∧ ((r = (0, false) ∧ ∀ j, i ≤ j → j < 8 → ¬ Rep s (x + j) ∧ ¬ Rep s (-(x + j))) ∨ ∃ y, r = (y, true) ∧ Rep s y) := by
  induction d with
  | zero =>
    intro i hi hd
    refine ⟨(0, false), Ev.succ' ?_, Or.inl ⟨rfl, fun j h1 h2 => by omega⟩⟩
    simp only [impl_ParseMeasure.l0, if_neg (show ¬ i < 8 by omega)]
    exact Ev.now _
  | succ d ih =>
    intro i hi hd
    have hx : wrap64 (x + i) = x + i := w64 (by omega) (by omega)
    have hnx : wrap64 (wrap64 (-x) - i) = -(x + i) := by rw [w64 (x := -x) (by omega) (by omega), w64 (by omega) (by omega)]; omega
    have r0 : rd [x + i, -(x + i)] 0 = x + i := rfl
    have r1 : rd [x + i, -(x + i)] 1 = -(x + i) := rfl
    have hl : (([x + i, -(x + i)] : List Int).length : Int) = 2 := rfl
    have hw1 : wrap64 (0 + 1) = 1 := w64 (x := 0 + 1) (by omega) (by omega)
    have hw2 : wrap64 (1 + 1) = 2 := w64 (x := 1 + 1) (by omega) (by omega)
    by_cases hc : (strOfNums (fmT (x + i))).toList = s.toList
    · refine ⟨(x + i, true), Ev.succ' ?_, Or.inr ⟨_, rfl, Rep.of hc hs⟩⟩
      simp only [impl_ParseMeasure.l0, if_pos (show i < 8 by omega), Option.bind_some, hx, hnx]
      refine Ev.succ' ?_
      simp only [impl_ParseMeasure.l1, hl, r0, if_pos (show (0 : Int) < 2 by omega), if_pos (show (0 : Int) ≤ 0 by omega), hw1]
      refine Ev.bind (iFM_ev _) ?_
      simp only [if_pos hc]
      exact Ev.now _
    · by_cases hc2 : (strOfNums (fmT (-(x + i)))).toList = s.toList
      · refine ⟨(-(x + i), true), Ev.succ' ?_, Or.inr ⟨_, rfl, Rep.of hc2 hs⟩⟩
        simp only [impl_ParseMeasure.l0, if_pos (show i < 8 by omega), Option.bind_some, hx, hnx]
        refine Ev.succ' ?_
        simp only [impl_ParseMeasure.l1, hl, r0, if_pos (show (0 : Int) < 2 by omega), if_pos (show (0 : Int) ≤ 0 by omega), hw1]
        refine Ev.bind (iFM_ev _) ?_
        simp only [if_neg hc]
        refine Ev.succ' ?_
        simp only [impl_ParseMeasure.l1, hl, r1, if_pos (show (1 : Int) < 2 by omega), if_pos (show (0 : Int) ≤ 1 by omega), hw2]
        refine Ev.bind (iFM_ev _) ?_
        simp only [if_pos hc2]
        exact Ev.now _
      · obtain ⟨r, h1, h2⟩ := ih (i + 1) (by omega) (by omega)
        refine ⟨r, Ev.succ' ?_, ?_⟩
        · simp only [impl_ParseMeasure.l0, if_pos (show i < 8 by omega), Option.bind_some, hx, hnx]
          refine Ev.succ' ?_
          simp only [impl_ParseMeasure.l1, hl, r0, if_pos (show (0 : Int) < 2 by omega), if_pos (show (0 : Int) ≤ 0 by omega), hw1]
          refine Ev.bind (iFM_ev _) ?_
          simp only [if_neg hc]
          refine Ev.succ' ?_
          simp only [impl_ParseMeasure.l1, hl, r1, if_pos (show (1 : Int) < 2 by omega), if_pos (show (0 : Int) ≤ 1 by omega), hw2]
          refine Ev.bind (iFM_ev _) ?_
          simp only [if_neg hc2]
          refine Ev.succ' ?_
          simp only [impl_ParseMeasure.l1, if_neg (show ¬ (2 : Int) < 2 by omega)]
          rw [w64 (x := i + 1) (by omega) (by omega)]
          exact h1
        · rcases h2 with ⟨h2, h3⟩ | h2
          · refine Or.inl ⟨h2, fun j hj1 hj2 => ?_⟩
            by_cases hji : j = i
            · rw [hji]; exact ⟨fun hr => hc hr.to, fun hr => hc2 hr.to⟩
            · exact h3 j (by omega) hj2
          · exact Or.inr h2
def tp (s : ByteArray) : List UInt8 := Lib.trimPrefix s.data.toList [45]
def whole1 (s : ByteArray) : ByteArray := ⟨(Lib.cut (tp s) [46]).1.toArray⟩
def part1 (s : ByteArray) : ByteArray := ⟨(Lib.cut (tp s) [46]).2.1.toArray⟩
theorem iPM_gen (s : ByteArray) (hs : s.size ≤ 1048576) (hn : s.size ≠ 0 ∨ (numOf (whole1 s)).2 = false) : ∃ r, Ev (fun k => impl_ParseMeasure.f k s) r ∧
    ((r = (0, false) ∧ ((numOf (whole1 s)).2 = true → (part1 s).size ≤ 3 → ∀ j, 0 ≤ j → j < 8 → ¬ Rep s (8 * (numOf (whole1 s)).1 + j) ∧ ¬ Rep s (-(8 * (numOf (whole1 s)).1 + j)))) ∨ ∃ y, r = (y, true) ∧ Rep s y) := by
  have hr := numOf_range (whole1 s)
  have htl : (tp s).length ≤ s.size := by
    unfold tp Lib.trimPrefix
    have : s.data.toList.length = s.size := rfl
    split
    · rw [List.length_drop]; omega
    · omega
  have e1 : Go.Proofs.YtcnkfnkdcjpkoaaDoorV.strings_TrimPrefix.f s ⟨#[45]⟩ = some ⟨(tp s).toArray⟩ := rfl
  have e2 : Go.Proofs.YtcnkfnkdcjpkoaaDoorV.strings_Cut.f ⟨(tp s).toArray⟩ ⟨#[46]⟩ = some (whole1 s, part1 s, (Lib.cut (tp s) [46]).2.2) := by
    unfold Go.Proofs.YtcnkfnkdcjpkoaaDoorV.strings_Cut.f
    rw [if_pos (by show (tp s).toArray.size < 4294967281; rw [List.size_toArray]; omega)]
    rfl
  cases hk : (numOf (whole1 s)).2 with
  | true =>
    by_cases hp : (part1 s).size ≤ 3
    · obtain ⟨r, h1, h2⟩ := iPMloop s (by rcases hn with h | h; exact h; rw [hk] at h; cases h) (8 * (numOf (whole1 s)).1) (by omega) (by omega) 8 0 (by omega) (by omega)
      refine ⟨r, ?_, ?_⟩
      · unfold impl_ParseMeasure.f
        simp only [e1, e2, Option.bind_some]
        refine Ev.bind (iparse_ev _) ?_
        simp only [hk, if_true, decide_eq_false (show ¬ ((part1 s).size : Int) > 3 by omega)]
        refine Ev.succ' ?_
        simp only [impl_ParseMeasure.j0, Bool.false_eq_true, if_false]
        rw [w64 (by omega) (by omega)]
        exact h1
      · rcases h2 with ⟨h2, h3⟩ | h2
        · exact Or.inl ⟨h2, fun _ _ => h3⟩
        · exact Or.inr h2
    · refine ⟨(0, false), ?_, Or.inl ⟨rfl, fun _ h => absurd h hp⟩⟩
      unfold impl_ParseMeasure.f
      simp only [e1, e2, Option.bind_some]
      refine Ev.bind (iparse_ev _) ?_
      simp only [hk, if_true, decide_eq_true (show ((part1 s).size : Int) > 3 by omega)]
      refine Ev.succ' ?_
      simp only [impl_ParseMeasure.j0, if_true]
      exact Ev.now _
  | false =>
    refine ⟨(0, false), ?_, Or.inl ⟨rfl, fun h => by cases h⟩⟩
    unfold impl_ParseMeasure.f
    simp only [e1, e2, Option.bind_some]
    refine Ev.bind (iparse_ev _) ?_
    simp only [hk, Bool.false_eq_true, if_false]
    refine Ev.succ' ?_
    simp only [impl_ParseMeasure.j0, if_true]
    exact Ev.now _
theorem rep_tp {s : ByteArray} {y : Int} (h : Rep s y) : tp s = u8 (dig (y.natAbs / 8)) ++ u8 (frac (((y.natAbs % 8 : Nat) : Int))) := by
  unfold tp
  rw [rep_data h]
  unfold Lib.trimPrefix Lib.hasPrefix
  by_cases hn : y < 0
  · rw [if_pos hn]
    have e : u8 ([45] ++ dig (y.natAbs / 8)) = 45 :: u8 (dig (y.natAbs / 8)) := rfl
    rw [e, List.cons_append, if_pos (by simp [List.isPrefixOf])]
    rfl
  · rw [if_neg hn, List.nil_append]
    have hd := dig_len (y.natAbs / 8)
    match hg : dig (y.natAbs / 8) with
    | [] => rw [hg] at hd; simp at hd
    | d :: t =>
      have := dig_digits (y.natAbs / 8) d (by rw [hg]; exact List.mem_cons_self ..)
      have e : u8 (d :: t) = UInt8.ofNat d.toNat :: u8 t := rfl
      rw [e, List.cons_append, if_neg]
      simp only [List.isPrefixOf, Bool.and_true, beq_iff_eq]
      intro e
      have h1 := congrArg UInt8.toNat e
      simp at h1
      omega
theorem rep_whole {s : ByteArray} {y : Int} (h : Rep s y) : whole1 s = strOfNums (dig (y.natAbs / 8)) ∧ (part1 s).size ≤ 3 := by
  have hu : ∀ b ∈ u8 (dig (y.natAbs / 8)), b ≠ 46 := u8_ne _ (fun x hx => by left; have := dig_digits _ x hx; omega)
  have hf := frac_len ((y.natAbs % 8 : Nat) : Int)
  unfold whole1 part1
  rw [rep_tp h]
  rcases frac_dot ((y.natAbs % 8 : Nat) : Int) with e | ⟨t, e⟩
  · rw [e]
    have e0 : u8 [] = [] := rfl
    rw [e0, List.append_nil]
    unfold Lib.cut
    rw [if_neg (by rw [(idx_dot _ [] hu).2]; omega)]
    exact ⟨rfl, by show 0 ≤ 3; omega⟩
  · rw [e] at hf ⊢
    have e0 : u8 (46 :: t) = 46 :: u8 t := rfl
    rw [e0]
    unfold Lib.cut
    rw [(idx_dot _ (u8 t) hu).1, if_pos (by omega)]
    simp only [Int.toNat_natCast]
    constructor
    · rw [List.take_left]; rfl
    · show (List.drop _ _).toArray.size ≤ 3
      rw [List.size_toArray, List.length_drop, List.length_append, List.length_cons]
      simp only [u8, List.length_map, List.length_cons, List.length_nil] at hf ⊢
      omega
theorem iPM_ev (s : ByteArray) (hs : s.size ≤ 1048576) : Ev (fun k => impl_ParseMeasure.f k s) (pmV s) := by
  by_cases hz : s.size = 0
  · have hl : s.data.toList = [] := by
      have : s.data.toList.length = s.size := rfl
      rw [hz] at this
      exact List.length_eq_zero_iff.1 this
    have hw : (whole1 s).size = 0 := by
      unfold whole1 tp
      rw [hl]
      rfl
    obtain ⟨r, h1, h2⟩ := iPM_gen s hs (Or.inr (by rw [numOf_empty hw]))
    have hno : ∀ y, ¬ Rep s y := fun y hy => by
      have := hy.2.2
      have h3 : s.size = (fmM y).length := by rw [this, strOfNums_size]
      unfold fmM fmB at h3
      have := (dig_len (-y / 8).toNat).1
      have := (dig_len (y / 8).toNat).1
      split at h3 <;> simp only [List.length_cons, List.length_append] at h3 <;> omega
    rw [pmV_neg hno]
    rcases h2 with ⟨h2, _⟩ | ⟨y, _, hy⟩
    · rw [← h2]; exact h1
    · exact absurd hy (hno y)
  · obtain ⟨r, h1, h2⟩ := iPM_gen s hs (Or.inl hz)
    rcases h2 with ⟨h2, h3⟩ | ⟨y, h2, hy⟩
    · have hno : ∀ y, ¬ Rep s y := fun y hy => by
        obtain ⟨e1, e2⟩ := rep_whole hy
        rw [e1, numOf_dig (by have := hy.1; have := hy.2.1; omega)] at h3
        have h4 := h3 rfl e2 ((y.natAbs % 8 : Nat) : Int) (by omega) (by omega)
        by_cases hn : y < 0
        · refine h4.2 ?_
          rw [show -(8 * ((y.natAbs / 8 : Nat) : Int) + ((y.natAbs % 8 : Nat) : Int)) = y by omega]
          exact hy
        · refine h4.1 ?_
          rw [show 8 * ((y.natAbs / 8 : Nat) : Int) + ((y.natAbs % 8 : Nat) : Int) = y by omega]
          exact hy
      rw [pmV_neg hno, ← h2]
      exact h1
    · rw [pmV_pos hy, ← h2]
      exact h1

theorem dStr {l : List Int} {i : Int} (h : Int) {m : List ByteArray} (hl : l.length ≤ 4096) (hi : 0 ≤ i) (hm : 0 < m.length) : ∃ x i' h', spec_l1Str.f l i h m = some (x, i', h') ∧ x ∈ m ∧ 0 ≤ i' := by
  unfold spec_l1Str.f
  obtain ⟨x, i1, h1, e, hx, hi1⟩ := dBelow h hl hi (show (0 : Int) < (m.length : Int) by omega)
  rw [e]
  simp only [Option.bind_some]
  rw [if_pos hx.1, if_pos hx.2]
  refine ⟨_, _, _, rfl, ?_, hi1⟩
  have h2 := getD_get m ByteArray.empty x hx.1 hx.2
  exact List.mem_of_getElem? h2

theorem Rep.ne {s : ByteArray} {y : Int} (h : Rep s y) : s.size ≠ 0 := by
  intro hz
  have h3 : s.size = (fmM y).length := by rw [h.2.2, strOfNums_size]
  unfold fmM fmB at h3
  have := (dig_len (-y / 8).toNat).1
  have := (dig_len (y / 8).toNat).1
  split at h3 <;> simp only [List.length_cons, List.length_append] at h3 <;> omega
theorem pmT (x : Int) : pmV (strOfNums (fmT x)) = if -4096 ≤ x ∧ x ≤ 4096 then (x, true) else (0, false) := by
  by_cases hm : -4096 ≤ x ∧ x ≤ 4096
  · rw [if_pos hm]
    refine pmV_pos ⟨hm.1, hm.2, ?_⟩
    unfold fmT
    rw [if_pos hm]
  · rw [if_neg hm]
    refine pmV_neg fun y hy => hy.ne ?_
    unfold fmT
    rw [if_neg hm]
    rfl
theorem pmV_cases (s : ByteArray) : pmV s = (0, false) ∨ ∃ y, Rep s y ∧ pmV s = (y, true) := by
  by_cases h : ∃ y, Rep s y
  · obtain ⟨y, hy⟩ := h
    exact Or.inr ⟨y, hy, pmV_pos hy⟩
  · exact Or.inl (pmV_neg fun y hy => h ⟨y, hy⟩)

theorem numFin_true {s : ByteArray} {n : Int} (h : (numFin s n).2 = true) : dig (numFin s n).1.toNat = bytesOf s ∧ 0 ≤ (numFin s n).1 ∧ (numFin s n).1 ≤ 999 := by
  unfold numFin at h ⊢
  split at h
  · cases h
  · next h1 =>
    split at h
    · next h2 => rw [if_neg h1, if_pos h2]; exact ⟨h2, by show 0 ≤ n; omega, by show n ≤ 999; omega⟩
    · cases h
theorem numOf_true {s : ByteArray} (h : (numOf s).2 = true) : s = strOfNums (fmN (numOf s).1) ∧ 0 ≤ (numOf s).1 ∧ (numOf s).1 ≤ 999 := by
  have key : dig (numOf s).1.toNat = bytesOf s ∧ 0 ≤ (numOf s).1 ∧ (numOf s).1 ≤ 999 := by
    by_cases h1 : s.size = 1
    · have e := fin1 h1; rw [← e] at h ⊢; exact numFin_true h
    · by_cases h2 : s.size = 2
      · have e := fin2 h2; rw [← e] at h ⊢; exact numFin_true h
      · by_cases h3 : s.size = 3
        · have e := fin3 h3; rw [← e] at h ⊢; exact numFin_true h
        · unfold numOf at h
          rw [if_neg h1, if_neg h2, if_neg h3] at h
          cases h
  refine ⟨?_, key.2⟩
  unfold fmN
  rw [if_neg (by omega), key.1, str_bytesOf]
theorem numOf_false {s : ByteArray} (h : (numOf s).2 = false) : (numOf s).1 = 0 := by
  unfold numOf at h ⊢
  by_cases h1 : s.size = 1
  · rw [if_pos h1] at h ⊢
    split
    · next c => rw [if_pos c] at h; cases h
    · rfl
  · by_cases h2 : s.size = 2
    · rw [if_neg h1, if_pos h2] at h ⊢
      split
      · next c => rw [if_pos c] at h; cases h
      · rfl
    · by_cases h3 : s.size = 3
      · rw [if_neg h1, if_neg h2, if_pos h3] at h ⊢
        split
        · next c => rw [if_pos c] at h; cases h
        · rfl
      · rw [if_neg h1, if_neg h2, if_neg h3]
theorem dig_inj {m n : Nat} (h : dig m = dig n) : m = n := by
  have := congrArg dval h
  rw [dval_dig, dval_dig] at this
  omega
theorem numOf_fmN (n : Int) : numOf (strOfNums (fmN n)) = if 0 ≤ n ∧ n ≤ 999 then (n, true) else (0, false) := by
  by_cases hn : 0 ≤ n ∧ n ≤ 999
  · rw [if_pos hn]
    unfold fmN
    rw [if_neg (by omega), numOf_dig (by omega)]
    simp only [Prod.mk.injEq, and_true]; omega
  · rw [if_neg hn]
    cases hk : (numOf (strOfNums (fmN n))).2 with
    | false =>
      have := numOf_false hk
      exact Prod.ext this hk
    | true =>
      exfalso
      obtain ⟨e, h0, h9⟩ := numOf_true hk
      have e2 := str_inj (fmN_bytes _) (fmN_bytes _) e
      generalize (numOf (strOfNums (fmN n))).1 = m at e2 h0 h9
      unfold fmN at e2
      rw [if_neg (show ¬ m < 0 by omega)] at e2
      by_cases h1 : n < 0
      · rw [if_pos h1] at e2
        have := dig_digits m.toNat 45 (by rw [← e2]; exact List.mem_cons_self ..)
        omega
      · rw [if_neg h1] at e2
        have := dig_inj e2
        omega

theorem str_extract (l : List Int) (i j : Nat) : (strOfNums l).extract i j = strOfNums ((l.drop i).take (j - i)) := by
  apply ByteArray.ext
  apply Array.ext'
  rw [Lib.extract_data, strOfNums_data, strOfNums_data, List.map_take, List.map_drop]
theorem fmB_nosign (x : Int) : ∀ a ∈ fmB x, a ≠ 43 ∧ a ≠ 45 := by
  intro a ha
  unfold fmB at ha
  rcases List.mem_append.1 ha with h | h
  · have := dig_digits _ a h; omega
  · unfold frac at h
    repeat' split at h
    all_goals (simp at h; try omega)
/-- The text of a place: what stands ahead of the sign between, the sign, the rest. -/
theorem fmP_cut {x y : Int} (h : PL x y) : ∃ c B, fmP x y = fmM x ++ c :: (B ++ [105]) ∧ (c = 43 ∧ 0 ≤ y ∧ B = fmM y ∨ c = 45 ∧ y < 0 ∧ c :: B = fmM y) ∧ (∀ b ∈ B, b ≠ 43 ∧ b ≠ 45) := by
  unfold fmP
  rw [if_pos h]
  by_cases hy : y < 0
  · have e : fmM y = 45 :: fmB (-y) := by unfold fmM; rw [if_pos hy]
    refine ⟨45, fmB (-y), ?_, Or.inr ⟨rfl, hy, e.symm⟩, fmB_nosign _⟩
    rw [if_pos hy, e]
    simp
  · have e : fmM y = fmB y := by unfold fmM; rw [if_neg hy]
    refine ⟨43, fmB y, ?_, Or.inl ⟨rfl, by omega, e.symm⟩, fmB_nosign _⟩
    rw [if_neg hy, e]
    simp
theorem u8_len (l : List Int) : (u8 l).length = l.length := by unfold u8; rw [List.length_map]
theorem u8_getD (l : List Int) (j : Nat) : (u8 l).getD j 0 = UInt8.ofNat (l.getD j 0).toNat := by
  unfold u8
  rw [List.getD_eq_getElem?_getD, List.getD_eq_getElem?_getD, List.getElem?_map]
  cases l[j]? <;> rfl
theorem pm_no {x : Int} (h0 : 0 ≤ x) (h1 : x < 256) (h : x ≠ 43 ∧ x ≠ 45) : Go.Proofs.YtcnkfnkdcjpkoaaDoorV.pmB (UInt8.ofNat x.toNat) = false := by
  unfold Go.Proofs.YtcnkfnkdcjpkoaaDoorV.pmB
  have e1 : UInt8.ofNat x.toNat ≠ 43 := fun e => by have := congrArg UInt8.toNat e; simp at this; omega
  have e2 : UInt8.ofNat x.toNat ≠ 45 := fun e => by have := congrArg UInt8.toNat e; simp at this; omega
  simp [e1, e2]
theorem last_at (A B : List Int) (c : Int) (hc : c = 43 ∨ c = 45) (hB : ∀ b ∈ B, 0 ≤ b ∧ b < 256 ∧ b ≠ 43 ∧ b ≠ 45) : Go.Proofs.YtcnkfnkdcjpkoaaDoorV.lastUpto (u8 (A ++ c :: B)) (A ++ c :: B).length = A.length := by
  have hg : (u8 (A ++ c :: B)).getD A.length 0 = UInt8.ofNat c.toNat := by
    rw [u8_getD]; simp [List.getD_eq_getElem?_getD]
  have hskip := Go.Proofs.YtcnkfnkdcjpkoaaDoorV.lastUpto_skip (u8 (A ++ c :: B)) (A ++ c :: B).length (A.length + 1) (by simp) (fun j h1 h2 => by
    obtain ⟨k, rfl⟩ : ∃ k, j = A.length + 1 + k := ⟨j - (A.length + 1), by omega⟩
    have hk : k < B.length := by rw [List.length_append, List.length_cons] at h2; omega
    have e : (A ++ c :: B).getD (A.length + 1 + k) 0 = B[k] := by
      rw [List.getD_eq_getElem?_getD, List.getElem?_append_right (by omega), show A.length + 1 + k - A.length = k + 1 by omega, List.getElem?_cons_succ, List.getElem?_eq_getElem hk]
      rfl
    have hb := hB B[k] (List.getElem_mem hk)
    rw [u8_getD, e]
    exact pm_no hb.1 hb.2.1 hb.2.2)
  rw [hskip]
  show (if Go.Proofs.YtcnkfnkdcjpkoaaDoorV.pmB ((u8 (A ++ c :: B)).getD A.length 0) then ((A.length : Nat) : Int) else _) = _
  rw [hg, if_pos (by rcases hc with rfl | rfl <;> rfl)]
theorem fmB_range (x : Int) : ∀ a ∈ fmB x, 0 ≤ a ∧ a < 256 := by
  intro a ha
  unfold fmB at ha
  rcases List.mem_append.1 ha with h | h
  · have := dig_digits _ a h; omega
  · unfold frac at h
    repeat' split at h
    all_goals (simp at h; try omega)
/-- s is the text of the place (x, y). -/
def RepP (s : ByteArray) (x y : Int) : Prop := PL x y ∧ s = strOfNums (fmP x y)
theorem fmP_cut' {x y : Int} (h : PL x y) : ∃ c B, fmP x y = fmM x ++ c :: (B ++ [105]) ∧ (c = 43 ∧ 0 ≤ y ∧ B = fmM y ∨ c = 45 ∧ y < 0 ∧ c :: B = fmM y) ∧ Go.Proofs.YtcnkfnkdcjpkoaaDoorV.lastUpto (u8 (fmP x y)) (fmP x y).length = (fmM x).length ∧ 0 < B.length := by
  obtain ⟨c, B, h1, h2, h3⟩ := fmP_cut h
  have hr : ∀ b ∈ B, 0 ≤ b ∧ b < 256 := by
    rcases h2 with ⟨_, h4, h5⟩ | ⟨hc, h4, h5⟩
    · rw [h5]; unfold fmM; rw [if_neg (by omega)]; exact fmB_range _
    · unfold fmM at h5; rw [if_pos h4] at h5
      rw [(List.cons.inj h5).2]; exact fmB_range _
  refine ⟨c, B, h1, h2, ?_, ?_⟩
  · rw [h1]
    refine last_at _ _ c (by rcases h2 with h | h <;> omega) (fun b hb => ?_)
    rcases List.mem_append.1 hb with h | h
    · exact ⟨(hr b h).1, (hr b h).2, h3 b h⟩
    · rw [List.mem_singleton.1 h]; omega
  · rcases h2 with ⟨_, h4, h5⟩ | ⟨hc, h4, h5⟩
    · obtain ⟨d, t, e, _⟩ := fmB_head y
      unfold fmM at h5; rw [if_neg (by omega), e] at h5
      rw [h5]; simp
    · obtain ⟨d, t, e, _⟩ := fmB_head (-y)
      unfold fmM at h5; rw [if_pos h4, e] at h5
      rw [(List.cons.inj h5).2]; simp
theorem fmM_pos (x : Int) : 0 < (fmM x).length := by
  unfold fmM
  obtain ⟨d, t, e, _⟩ := fmB_head x
  split
  · simp
  · rw [e]; simp
theorem fmP_bytes (x y : Int) : IsBytes (fmP x y) := by
  unfold fmP
  split
  · refine IsBytes.append (IsBytes.append (IsBytes.append (fmM_bytes x) ?_) (fmM_bytes y)) (IsBytes.cons (by omega) IsBytes.nil)
    split
    · exact IsBytes.nil
    · exact IsBytes.cons (by omega) IsBytes.nil
  · exact IsBytes.nil
theorem fmP_inj {x y x' y' : Int} (h : PL x y) (h' : PL x' y') (e : fmP x y = fmP x' y') : x = x' ∧ y = y' := by
  obtain ⟨c, B, h1, h2, h3, _⟩ := fmP_cut' h
  obtain ⟨c', B', h1', h2', h3', _⟩ := fmP_cut' h'
  rw [e, h3'] at h3
  rw [h1, h1'] at e
  obtain ⟨e1, e2⟩ := List.append_inj e (by omega)
  have e3 := (List.cons.inj e2).1
  have e4 : B = B' := List.append_cancel_right (List.cons.inj e2).2
  refine ⟨fmM_inj e1, fmM_inj ?_⟩
  rcases h2 with ⟨k1, k2, k3⟩ | ⟨k1, k2, k3⟩ <;> rcases h2' with ⟨m1, m2, m3⟩ | ⟨m1, m2, m3⟩
  · rw [← k3, ← m3, e4]
  · omega
  · omega
  · rw [← k3, ← m3, e4, e3]
theorem RepP.inj {s : ByteArray} {x y x' y' : Int} (h : RepP s x y) (h' : RepP s x' y') : x = x' ∧ y = y' := fmP_inj h.1 h'.1 (str_inj (fmP_bytes _ _) (fmP_bytes _ _) (h.2.symm.trans h'.2))
theorem RepP.of {s : ByteArray} {x y : Int} (h : PL x y) (e : (strOfNums (fmP x y)).toList = s.toList) : RepP s x y := ⟨h, (toList_inj.1 e).symm⟩
theorem RepP.to {s : ByteArray} {x y : Int} (h : RepP s x y) : (strOfNums (fmP x y)).toList = s.toList := by rw [← h.2]
noncomputable def ppV (s : ByteArray) : Int × Int × Bool := open Classical in if h : ∃ q : Int × Int, RepP s q.1 q.2 then ((Classical.choose h).1, (Classical.choose h).2, true) else (0, 0, false)
theorem ppV_pos {s : ByteArray} {x y : Int} (h : RepP s x y) : ppV s = (x, y, true) := by
  unfold ppV
  have hx : ∃ q : Int × Int, RepP s q.1 q.2 := ⟨(x, y), h⟩
  obtain ⟨e1, e2⟩ := RepP.inj (Classical.choose_spec hx) h
  rw [dif_pos hx, e1, e2]
theorem ppV_neg {s : ByteArray} (h : ∀ x y, ¬ RepP s x y) : ppV s = (0, 0, false) := by
  unfold ppV
  rw [dif_neg (fun ⟨q, hq⟩ => h _ _ hq)]
theorem ppV_cases (s : ByteArray) : ((∀ x y, ¬ RepP s x y) ∧ ppV s = (0, 0, false)) ∨ ∃ x y, RepP s x y ∧ ppV s = (x, y, true) := by
  by_cases h : ∃ q : Int × Int, RepP s q.1 q.2
  · obtain ⟨q, hq⟩ := h
    exact Or.inr ⟨q.1, q.2, hq, ppV_pos hq⟩
  · exact Or.inl ⟨fun x y hy => h ⟨(x, y), hy⟩, ppV_neg fun x y hy => h ⟨(x, y), hy⟩⟩
/-- The parts of a place's text, as both programs cut them. -/
theorem RepP.parts {s : ByteArray} {x y : Int} (h : RepP s x y) : ∃ p : Nat, Go.Proofs.YtcnkfnkdcjpkoaaDoorV.lastUpto s.data.toList s.size = p ∧ 1 ≤ p ∧ p + 2 < s.size ∧ Rep (s.extract 0 p) x ∧ bt s ((s.size : Int) - 1) = 105 ∧
    Rep (s.extract (if bt s p = 43 then p + 1 else p) (s.size - 1)) y ∧ (⟨(Lib.trimPrefix (s.extract p (s.size - 1)).data.toList [43]).toArray⟩ : ByteArray) = s.extract (if bt s p = 43 then p + 1 else p) (s.size - 1) := by
  obtain ⟨hpl, rfl⟩ := h
  obtain ⟨c, B, h1, h2, h3, h4⟩ := fmP_cut' hpl
  have hb := fmP_bytes x y
  have hx : -4096 ≤ x ∧ x ≤ 4096 := hpl.1
  have hy : -4096 ≤ y ∧ y ≤ 4096 := hpl.2
  have hlen : (fmP x y).length = (fmM x).length + B.length + 2 := by rw [h1]; simp; omega
  have hbt : bt (strOfNums (fmP x y)) ((fmM x).length : Nat) = c := by
    rw [bt_str _ hb, h1]; simp [List.getD_eq_getElem?_getD]
  have hpos := fmM_pos x
  refine ⟨(fmM x).length, ?_, by omega, ?_, ⟨hx.1, hx.2, ?_⟩, ?_, ?_⟩
  · rw [strOfNums_size, strOfNums_data]; exact h3
  · rw [strOfNums_size]; omega
  · rw [str_extract, h1]; simp
  · rw [bt_str _ hb, strOfNums_size, h1]
    have e : (fmM x ++ c :: (B ++ [105])) = (fmM x ++ c :: B) ++ [105] := by simp
    have hh : ((((fmM x ++ c :: B ++ [105] : List Int).length : Nat) : Int) - 1).toNat = (fmM x ++ c :: B).length := by rw [List.length_append, List.length_singleton]; omega
    rw [e, hh]
    simp [List.getD_eq_getElem?_getD]
  · rw [hbt, strOfNums_size]
    have ecut : ∀ k, k ≤ 1 → (strOfNums (fmP x y)).extract ((fmM x).length + k) ((fmP x y).length - 1) = strOfNums ((c :: B).drop k) := fun k hk => by
      rw [str_extract, hlen, h1, show fmM x ++ c :: (B ++ [105]) = fmM x ++ ((c :: B) ++ [105]) by simp, List.drop_append, List.drop_eq_nil_of_le (by omega), show (fmM x).length + k - (fmM x).length = k by omega, List.nil_append]
      have : ((c :: B) ++ [105]).drop k = (c :: B).drop k ++ [105] := by
        rw [List.drop_append_of_le_length (by simp; omega)]
      rw [this, show (fmM x).length + B.length + 2 - 1 - ((fmM x).length + k) = ((c :: B).drop k).length by rw [List.length_drop, List.length_cons]; omega, List.take_left]
    have e0 := ecut 0 (by omega)
    have e1 := ecut 1 (by omega)
    rw [Nat.add_zero, List.drop_zero] at e0
    rw [e0]
    rcases h2 with ⟨hc, k2, k3⟩ | ⟨hc, k2, k3⟩
    · subst hc
      rw [if_pos rfl, e1]
      refine ⟨⟨hy.1, hy.2, by rw [← k3]; rfl⟩, ?_⟩
      apply ByteArray.ext
      apply Array.ext'
      rw [strOfNums_data, strOfNums_data]
      rfl
    · subst hc
      rw [if_neg (by omega), e0]
      refine ⟨⟨hy.1, hy.2, by rw [← k3]⟩, ?_⟩
      apply ByteArray.ext
      apply Array.ext'
      rw [strOfNums_data]
      rfl

def spB : ByteArray := ⟨#[32]⟩
theorem idx_sp (l rest : List UInt8) (h : ∀ b ∈ l, b ≠ 32) : Lib.index (l ++ 32 :: rest) [32] = l.length ∧ Lib.index l [32] = -1 := by
  induction l with
  | nil => exact ⟨rfl, rfl⟩
  | cons b l ih =>
    have hb : b ≠ 32 := h b (List.mem_cons_self ..)
    obtain ⟨h1, h2⟩ := ih (fun x hx => h x (List.mem_cons_of_mem _ hx))
    have hp : ∀ t : List UInt8, List.isPrefixOf [32] (b :: t) = false := fun t => by
      simp only [List.isPrefixOf, Bool.and_true, beq_eq_false_iff_ne]
      exact fun e => hb e.symm
    constructor
    · rw [List.cons_append]
      unfold Lib.index
      rw [hp, h1]
      simp only [Bool.false_eq_true, if_false]
      rw [if_neg (by simp only [beq_iff_eq]; omega)]
      simp only [List.length_cons]; omega
    · unfold Lib.index
      rw [hp, h2]
      rfl
theorem ba_app (a b : ByteArray) : (a ++ b).data.toList = a.data.toList ++ b.data.toList := by simp
theorem splV_one (A : ByteArray) (h : ∀ b ∈ A.data.toList, b ≠ 32) : splV A spB = [A] := by
  have hm : Lib.indexB A spB = -1 := (idx_sp A.data.toList [] h).2
  unfold splV
  rw [Lib.countB_miss A spB hm, Lib.splitB_zero]
theorem splV_cons (A R : ByteArray) (h : ∀ b ∈ A.data.toList, b ≠ 32) : splV (A ++ spB ++ R) spB = A :: splV R spB := by
  have hd : (A ++ spB ++ R).data.toList = A.data.toList ++ 32 :: R.data.toList := by
    rw [ba_app, ba_app]
    have : spB.data.toList = [32] := rfl
    rw [this]; simp
  have hA : A.data.toList.length = A.size := rfl
  have hR : R.data.toList.length = R.size := rfl
  have hi : Lib.indexB (A ++ spB ++ R) spB = A.size := by
    show Lib.index (A ++ spB ++ R).data.toList [32] = _
    rw [hd, (idx_sp A.data.toList R.data.toList h).1, hA]
  have hs1 : spB.size = 1 := rfl
  have hsz : (A ++ spB ++ R).size = A.size + 1 + R.size := by rw [ByteArray.size_append, ByteArray.size_append]; rfl
  have e1 : (A ++ spB ++ R).extract (A.size + spB.size) (A ++ spB ++ R).size = R := by
    apply ByteArray.ext
    apply Array.ext'
    rw [Lib.extract_data, hd, hs1, ← List.drop_drop, ← hA, List.drop_left, List.drop_one, List.tail_cons, hsz, hA, List.take_of_length_le (by omega)]
  have e2 : (A ++ spB ++ R).extract 0 (A.size + 0) = A := by
    apply ByteArray.ext
    apply Array.ext'
    rw [Lib.extract_from_zero, hd, Nat.add_zero, ← hA, List.take_left]
  unfold splV
  rw [Lib.countB_hit _ spB _ (by rw [hs1]; omega) hi, e1, Nat.add_comm 1, Lib.splitB_hit spB 0 _ _ _ hi, e1, e2]
theorem u8_nosp (l : List Int) (h : ∀ x ∈ l, 33 ≤ x ∧ x < 256) : ∀ b ∈ (strOfNums l).data.toList, b ≠ 32 := by
  intro b hb
  rw [strOfNums_data] at hb
  obtain ⟨x, hx, rfl⟩ := List.mem_map.1 hb
  intro e
  have h1 := congrArg UInt8.toNat e
  have h2 := h x hx
  simp at h1
  omega
theorem fmB_hi (x : Int) : ∀ a ∈ fmB x, 33 ≤ a ∧ a < 256 := by
  intro a ha
  unfold fmB at ha
  rcases List.mem_append.1 ha with h | h
  · have := dig_digits _ a h; omega
  · unfold frac at h
    repeat' split at h
    all_goals (simp at h; try omega)
theorem fmM_hi (x : Int) : ∀ a ∈ fmM x, 33 ≤ a ∧ a < 256 := by
  intro a ha
  unfold fmM at ha
  split at ha
  · rcases List.mem_cons.1 ha with h | h
    · omega
    · exact fmB_hi _ a h
  · exact fmB_hi _ a ha
theorem fmP_hi (x y : Int) : ∀ a ∈ fmP x y, 33 ≤ a ∧ a < 256 := by
  intro a ha
  unfold fmP at ha
  split at ha
  · rcases List.mem_append.1 ha with h | h
    · rcases List.mem_append.1 h with h | h
      · rcases List.mem_append.1 h with h | h
        · exact fmM_hi _ a h
        · split at h
          · cases h
          · have := List.mem_singleton.1 h; omega
      · exact fmM_hi _ a h
    · have := List.mem_singleton.1 h; omega
  · cases ha
theorem fmN_hi {x : Int} (h : 0 ≤ x) : ∀ a ∈ fmN x, 33 ≤ a ∧ a < 256 := by
  intro a ha
  unfold fmN at ha
  rw [if_neg (by omega)] at ha
  have := dig_digits _ a ha; omega
theorem fmT_hi (x : Int) : ∀ a ∈ fmT x, 33 ≤ a ∧ a < 256 := by
  intro a ha
  unfold fmT at ha
  split at ha
  · exact fmM_hi _ a ha
  · cases ha
theorem fmJ_spl (p n t l : ByteArray) (hp : ∀ b ∈ p.data.toList, b ≠ 32) (hn : ∀ b ∈ n.data.toList, b ≠ 32) (ht : ∀ b ∈ t.data.toList, b ≠ 32) (hl : ∀ b ∈ l.data.toList, b ≠ 32) :
    splA (fmJ p n t l) spB = [⟨#[97, 116]⟩, p, ⟨#[104, 101, 97, 100, 105, 110, 103]⟩, n, ⟨#[116, 105, 108, 116]⟩, t, ⟨#[108, 105, 102, 116]⟩, l] := by
  have e : fmJ p n t l = (⟨#[97, 116]⟩ : ByteArray) ++ spB ++ (p ++ spB ++ ((⟨#[104, 101, 97, 100, 105, 110, 103]⟩ : ByteArray) ++ spB ++ (n ++ spB ++ ((⟨#[116, 105, 108, 116]⟩ : ByteArray) ++ spB ++ (t ++ spB ++ ((⟨#[108, 105, 102, 116]⟩ : ByteArray) ++ spB ++ l)))))) := by
    apply ByteArray.ext
    apply Array.ext'
    unfold fmJ spB
    simp only [ba_app, List.append_assoc, List.cons_append, List.nil_append]
  have d1 : ∀ b ∈ (⟨#[97, 116]⟩ : ByteArray).data.toList, b ≠ 32 := by decide
  have d2 : ∀ b ∈ (⟨#[104, 101, 97, 100, 105, 110, 103]⟩ : ByteArray).data.toList, b ≠ 32 := by decide
  have d3 : ∀ b ∈ (⟨#[116, 105, 108, 116]⟩ : ByteArray).data.toList, b ≠ 32 := by decide
  have d4 : ∀ b ∈ (⟨#[108, 105, 102, 116]⟩ : ByteArray).data.toList, b ≠ 32 := by decide
  unfold splA
  rw [if_neg (by decide), e, splV_cons _ _ d1, splV_cons _ _ hp, splV_cons _ _ d2, splV_cons _ _ hn, splV_cons _ _ d3, splV_cons _ _ ht, splV_cons _ _ d4, splV_one _ hl]
/-- s is the text of the jet. -/
def RepJ (s : ByteArray) (x y h t l : Int) : Prop := JetOK x y h t l ∧ s = fmJet x y h t l
theorem RepJ.parts {s : ByteArray} {x y h t l : Int} (k : RepJ s x y h t l) : ∃ p n u v a b c d : ByteArray, splA s spB = [a, p, b, n, c, u, d, v] ∧ ppV p = (x, y, true) ∧ numOf n = (h, true) ∧ pmV u = (t, true) ∧ pmV v = (l, true) ∧ p.size ≤ 1048576 ∧ u.size ≤ 1048576 ∧ v.size ≤ 1048576 := by
  obtain ⟨hj, rfl⟩ := k
  unfold fmJet
  rw [if_pos hj]
  have hj' := hj
  unfold JetOK at hj'
  have b1 := fmP_size x y
  have b3 := fmT_size t
  have b4 := fmT_size l
  refine ⟨_, _, _, _, _, _, _, _, fmJ_spl _ _ _ _ (u8_nosp _ (fmP_hi x y)) (u8_nosp _ (fmN_hi (by omega))) (u8_nosp _ (fmT_hi t)) (u8_nosp _ (fmT_hi l)), ppV_pos ⟨⟨by omega, by omega⟩, rfl⟩, ?_, ?_, ?_, by omega, by omega, by omega⟩
  · rw [numOf_fmN, if_pos (by omega)]
  · rw [pmT, if_pos (by omega)]
  · rw [pmT, if_pos (by omega)]
theorem RepJ.inj {s : ByteArray} {x y h t l x' y' h' t' l' : Int} (k : RepJ s x y h t l) (k' : RepJ s x' y' h' t' l') : x = x' ∧ y = y' ∧ h = h' ∧ t = t' ∧ l = l' := by
  obtain ⟨p, n, u, v, a, b, c, d, e, e1, e2, e3, e4, _⟩ := k.parts
  obtain ⟨p', n', u', v', a', b', c', d', e', e1', e2', e3', e4', _⟩ := k'.parts
  rw [e] at e'
  simp only [List.cons.injEq, and_true] at e'
  obtain ⟨_, rfl, _, rfl, _, rfl, _, rfl⟩ := e'
  rw [e1] at e1'; rw [e2] at e2'; rw [e3] at e3'; rw [e4] at e4'
  simp only [Prod.mk.injEq, and_true] at e1' e2' e3' e4'
  exact ⟨e1'.1, e1'.2, e2', e3', e4'⟩
noncomputable def jV (s : ByteArray) : Int × Int × Int × Int × Int × Bool := open Classical in if h : ∃ q : Int × Int × Int × Int × Int, RepJ s q.1 q.2.1 q.2.2.1 q.2.2.2.1 q.2.2.2.2 then ((Classical.choose h).1, (Classical.choose h).2.1, (Classical.choose h).2.2.1, (Classical.choose h).2.2.2.1, (Classical.choose h).2.2.2.2, true) else (0, 0, 0, 0, 0, false)
theorem jV_pos {s : ByteArray} {x y h t l : Int} (k : RepJ s x y h t l) : jV s = (x, y, h, t, l, true) := by
  unfold jV
  have hx : ∃ q : Int × Int × Int × Int × Int, RepJ s q.1 q.2.1 q.2.2.1 q.2.2.2.1 q.2.2.2.2 := ⟨(x, y, h, t, l), k⟩
  obtain ⟨e1, e2, e3, e4, e5⟩ := RepJ.inj (Classical.choose_spec hx) k
  rw [dif_pos hx, e1, e2, e3, e4, e5]
theorem jV_neg {s : ByteArray} (k : ∀ x y h t l, ¬ RepJ s x y h t l) : jV s = (0, 0, 0, 0, 0, false) := by
  unfold jV
  rw [dif_neg (fun ⟨q, hq⟩ => k _ _ _ _ _ hq)]
theorem jV_cases (s : ByteArray) : ((∀ x y h t l, ¬ RepJ s x y h t l) ∧ jV s = (0, 0, 0, 0, 0, false)) ∨ ∃ x y h t l, RepJ s x y h t l ∧ jV s = (x, y, h, t, l, true) := by
  by_cases h : ∃ q : Int × Int × Int × Int × Int, RepJ s q.1 q.2.1 q.2.2.1 q.2.2.2.1 q.2.2.2.2
  · obtain ⟨q, hq⟩ := h
    exact Or.inr ⟨_, _, _, _, _, hq, jV_pos hq⟩
  · exact Or.inl ⟨fun x y h' t l hy => h ⟨(x, y, h', t, l), hy⟩, jV_neg fun x y h' t l hy => h ⟨(x, y, h', t, l), hy⟩⟩

theorem fmJet_size (x y h t l : Int) : (fmJet x y h t l).size ≤ 4000 := by
  unfold fmJet
  split
  · next hj =>
    unfold JetOK at hj
    have b1 := fmP_size x y
    have b2 := fmN_size (a := h) (by omega) (by omega)
    have b3 := fmT_size t
    have b4 := fmT_size l
    unfold fmJ
    simp only [ByteArray.size_append]
    have s1 : (⟨#[97, 116, 32]⟩ : ByteArray).size = 3 := rfl
    have s2 : (⟨#[32, 104, 101, 97, 100, 105, 110, 103, 32]⟩ : ByteArray).size = 9 := rfl
    have s3 : (⟨#[32, 116, 105, 108, 116, 32]⟩ : ByteArray).size = 6 := rfl
    have s4 : (⟨#[32, 108, 105, 102, 116, 32]⟩ : ByteArray).size = 6 := rfl
    omega
  · show 0 ≤ 4000; omega

theorem drawFJ (l : List Int) (hl : l.length ≤ 4096) : ∃ x y hd t lf, Ev (fun k => spec_DrawFormatJet.f k l) (x, y, hd, t, lf) := by
  obtain ⟨h, hn⟩ := dNew l hl
  obtain ⟨x, y, hd, t, lf, i1, h1, e1, _⟩ := dAnyJet h hl (Int.le_refl 0)
  refine ⟨x, y, hd, t, lf, ?_⟩
  unfold spec_DrawFormatJet.f
  refine Ev.bind hn (Ev.bind e1 ?_)
  exact Ev.now _

theorem drawPJ (l : List Int) (hl : l.length ≤ 4096) : ∃ s, Ev (fun k => spec_DrawParseJet.f k l) s ∧ s.size ≤ 1048576 := by
  obtain ⟨h, hn⟩ := dNew l hl
  obtain ⟨x, y, hd, t, lf, i1, h1, e1, hx, hi1⟩ := dJet h hl (Int.le_refl 0)
  obtain ⟨c, i2, h2, e2, hc, hi2⟩ := dBelow h1 (n := 6) hl hi1 (by omega)
  have hs := sFJ_ev x y hd t lf
  have hz := fmJet_size x y hd t lf
  generalize fmJet x y hd t lf = txt at hs hz
  by_cases c0 : c = 0
  · obtain ⟨y', i3, h3, e3, hy', _⟩ := dStr h2 (m := [(⟨#[32]⟩ : ByteArray), (⟨#[48]⟩ : ByteArray), (⟨#[46, 53]⟩ : ByteArray), (⟨#[32, 117, 112]⟩ : ByteArray)]) hl hi2 (by simp)
    have hyz : y'.size ≤ 40 := (show ∀ z ∈ ([(⟨#[32]⟩ : ByteArray), (⟨#[48]⟩ : ByteArray), (⟨#[46, 53]⟩ : ByteArray), (⟨#[32, 117, 112]⟩ : ByteArray)] : List ByteArray), z.size ≤ 40 by decide) y' hy'
    refine ⟨txt ++ y', ?_, by rw [ByteArray.size_append]; omega⟩
    unfold spec_DrawParseJet.f
    refine Ev.bind hn ?_
    simp only [e1, Option.bind_some]
    refine Ev.bind hs ?_
    simp only [e2, Option.bind_some, if_pos c0, e3, if_pos (show txt.size + y'.size ≤ 9223372036854775807 by omega)]
    exact Ev.now _
  · by_cases c1 : c = 1
    · obtain ⟨y', i3, h3, e3, hy', _⟩ := dStr h2 (m := [(⟨#[]⟩ : ByteArray), (⟨#[97, 116]⟩ : ByteArray), (⟨#[97, 116, 32, 48, 43, 48, 105, 32, 104, 101, 97, 100, 105, 110, 103, 32, 52, 32, 116, 105, 108, 116, 32, 49, 32, 108, 105, 102, 116, 32, 49]⟩ : ByteArray), (⟨#[97, 116, 32, 48, 43, 48, 105, 32, 104, 101, 97, 100, 105, 110, 103, 32, 48, 32, 116, 105, 108, 116, 32, 48, 32, 108, 105, 102, 116, 32, 48]⟩ : ByteArray), (⟨#[97, 116, 32, 48, 43, 48, 105, 32, 104, 101, 97, 100, 105, 110, 103, 32, 51, 32, 116, 105, 108, 116, 32, 48, 32, 108, 105, 102, 116, 32, 52]⟩ : ByteArray), (⟨#[97, 116, 32, 48, 43, 48, 105, 32, 104, 101, 97, 100, 105, 110, 103, 32, 51, 32, 116, 105, 108, 116, 32, 50, 46, 49, 50, 53, 32, 108, 105, 102, 116, 32, 52]⟩ : ByteArray), (⟨#[97, 116, 32, 48, 43, 48, 105, 32, 32, 104, 101, 97, 100, 105, 110, 103, 32, 51, 32, 116, 105, 108, 116, 32, 50, 32, 108, 105, 102, 116]⟩ : ByteArray), (⟨#[105, 110, 32, 48, 43, 48, 105, 32, 104, 101, 97, 100, 105, 110, 103, 32, 51, 32, 116, 105, 108, 116, 32, 50, 32, 108, 105, 102, 116, 32, 52]⟩ : ByteArray)]) hl hi2 (by simp)
      have hyz : y'.size ≤ 40 := (show ∀ z ∈ ([(⟨#[]⟩ : ByteArray), (⟨#[97, 116]⟩ : ByteArray), (⟨#[97, 116, 32, 48, 43, 48, 105, 32, 104, 101, 97, 100, 105, 110, 103, 32, 52, 32, 116, 105, 108, 116, 32, 49, 32, 108, 105, 102, 116, 32, 49]⟩ : ByteArray), (⟨#[97, 116, 32, 48, 43, 48, 105, 32, 104, 101, 97, 100, 105, 110, 103, 32, 48, 32, 116, 105, 108, 116, 32, 48, 32, 108, 105, 102, 116, 32, 48]⟩ : ByteArray), (⟨#[97, 116, 32, 48, 43, 48, 105, 32, 104, 101, 97, 100, 105, 110, 103, 32, 51, 32, 116, 105, 108, 116, 32, 48, 32, 108, 105, 102, 116, 32, 52]⟩ : ByteArray), (⟨#[97, 116, 32, 48, 43, 48, 105, 32, 104, 101, 97, 100, 105, 110, 103, 32, 51, 32, 116, 105, 108, 116, 32, 50, 46, 49, 50, 53, 32, 108, 105, 102, 116, 32, 52]⟩ : ByteArray), (⟨#[97, 116, 32, 48, 43, 48, 105, 32, 32, 104, 101, 97, 100, 105, 110, 103, 32, 51, 32, 116, 105, 108, 116, 32, 50, 32, 108, 105, 102, 116]⟩ : ByteArray), (⟨#[105, 110, 32, 48, 43, 48, 105, 32, 104, 101, 97, 100, 105, 110, 103, 32, 51, 32, 116, 105, 108, 116, 32, 50, 32, 108, 105, 102, 116, 32, 52]⟩ : ByteArray)] : List ByteArray), z.size ≤ 40 by decide) y' hy'
      refine ⟨y', ?_, by omega⟩
      unfold spec_DrawParseJet.f
      refine Ev.bind hn ?_
      simp only [e1, Option.bind_some]
      refine Ev.bind hs ?_
      simp only [e2, Option.bind_some, if_neg c0, if_pos c1, e3]
      exact Ev.now _
    · refine ⟨txt, ?_, by omega⟩
      unfold spec_DrawParseJet.f
      refine Ev.bind hn ?_
      simp only [e1, Option.bind_some]
      refine Ev.bind hs ?_
      simp only [e2, Option.bind_some, if_neg c0, if_neg c1]
      exact Ev.now _

theorem lastUpto_bd (l : List UInt8) (n : Nat) : -1 ≤ Go.Proofs.YtcnkfnkdcjpkoaaDoorV.lastUpto l n ∧ Go.Proofs.YtcnkfnkdcjpkoaaDoorV.lastUpto l n < n := by
  induction n with
  | zero => exact ⟨Int.le_refl _, by show (-1 : Int) < ((0 : Nat) : Int); omega⟩
  | succ n ih =>
    show -1 ≤ (if Go.Proofs.YtcnkfnkdcjpkoaaDoorV.pmB (l.getD n 0) then (n : Int) else Go.Proofs.YtcnkfnkdcjpkoaaDoorV.lastUpto l n) ∧ (if Go.Proofs.YtcnkfnkdcjpkoaaDoorV.pmB (l.getD n 0) then (n : Int) else Go.Proofs.YtcnkfnkdcjpkoaaDoorV.lastUpto l n) < _
    split <;> omega
theorem iPP_ev (s : ByteArray) (hs : s.size ≤ 1048576) : Ev (fun k => impl_ParsePlace.f k s) (ppV s) := by
  have hL : Go.Proofs.YtcnkfnkdcjpkoaaDoorV.strings_LastIndexAny.f s (⟨#[43, 45]⟩ : ByteArray) = some (Go.Proofs.YtcnkfnkdcjpkoaaDoorV.lastUpto s.data.toList s.size) := by
    unfold Go.Proofs.YtcnkfnkdcjpkoaaDoorV.strings_LastIndexAny.f
    rw [if_pos ⟨rfl, by omega⟩]
  have hbd := lastUpto_bd s.data.toList s.size
  unfold impl_ParsePlace.f
  simp only [hL, Option.bind_some]
  have jt : ∀ A, (∀ x y, ¬ RepP s x y) → Ev (fun k => impl_ParsePlace.j0 k s A true) (ppV s) := fun A hn => by
    rw [ppV_neg hn]
    refine Ev.succ' ?_
    simp only [impl_ParsePlace.j0, if_true]
    exact Ev.now _
  by_cases hA : Go.Proofs.YtcnkfnkdcjpkoaaDoorV.lastUpto s.data.toList s.size < 1
  · simp only [if_pos hA]
    refine jt _ fun x y hp => ?_
    obtain ⟨p, p0, p1, _⟩ := hp.parts
    omega
  · simp only [if_neg hA]
    obtain ⟨p, hp⟩ : ∃ p : Nat, Go.Proofs.YtcnkfnkdcjpkoaaDoorV.lastUpto s.data.toList s.size = p := ⟨(Go.Proofs.YtcnkfnkdcjpkoaaDoorV.lastUpto s.data.toList s.size).toNat, by omega⟩
    rw [hp] at hA hbd ⊢
    have hw2 : wrap64 ((s.size : Int) - 1) = ((s.size - 1 : Nat) : Int) := by rw [w64 (by omega) (by omega)]; omega
    have hz : ((s.size : Int) - 1) = ((s.size - 1 : Nat) : Int) := by omega
    simp only [hw2, if_pos (show (0 : Int) ≤ ((s.size - 1 : Nat) : Int) by omega), if_pos (show ((s.size - 1 : Nat) : Int) < (s.size : Int) by omega)]
    cases hi : (bt s ((s.size - 1 : Nat) : Int) != 105) with
    | true =>
      refine jt _ fun x y hr => ?_
      obtain ⟨p', _, _, _, _, p4, _⟩ := hr.parts
      rw [hz] at p4
      rw [p4] at hi
      simp at hi
    | false =>
      have hT : Go.Proofs.YtcnkfnkdcjpkoaaDoorV.strings_TrimPrefix.f (s.extract p (s.size - 1)) (⟨#[43]⟩ : ByteArray) = some ⟨(Lib.trimPrefix (s.extract p (s.size - 1)).data.toList [43]).toArray⟩ := rfl
      have htl : (Lib.trimPrefix (s.extract p (s.size - 1)).data.toList [43]).length ≤ s.size := by
        unfold Lib.trimPrefix
        have : (s.extract p (s.size - 1)).data.toList.length = (s.extract p (s.size - 1)).size := rfl
        rw [ByteArray.size_extract] at this
        split
        · rw [List.length_drop]; omega
        · omega
      have hx := iPM_ev (s.extract 0 p) (by rw [ByteArray.size_extract]; omega)
      have hparts : ∀ x y, RepP s x y → Rep (s.extract 0 p) x ∧ Rep ⟨(Lib.trimPrefix (s.extract p (s.size - 1)).data.toList [43]).toArray⟩ y := fun x y hr => by
        obtain ⟨p', p0, _, _, p3, _, p5, p6⟩ := hr.parts
        have : p' = p := by omega
        rw [this] at p3 p5 p6
        exact ⟨p3, p6 ▸ p5⟩
      generalize hTT : (⟨(Lib.trimPrefix (s.extract p (s.size - 1)).data.toList [43]).toArray⟩ : ByteArray) = T at hT hparts
      have hTz : T.size ≤ 1048576 := by rw [← hTT]; show (List.toArray _).size ≤ _; rw [List.size_toArray]; omega
      have hy := iPM_ev T hTz
      refine Ev.succ' ?_
      simp only [impl_ParsePlace.j0, Bool.false_eq_true, if_false, hw2, if_pos (show (0 : Int) ≤ (p : Int) by omega), if_pos (show (p : Int) ≤ (s.size : Int) by omega), if_pos (show (p : Int) ≤ ((s.size - 1 : Nat) : Int) by omega), if_pos (show ((s.size - 1 : Nat) : Int) ≤ (s.size : Int) by omega), Int.toNat_natCast, hT, Option.bind_some]
      refine Ev.bind hx (Ev.bind hy ?_)
      rcases pmV_cases (s.extract 0 p) with e | ⟨x, hX, e⟩
      · rw [e, ppV_neg (fun x y hr => by rw [pmV_pos (hparts x y hr).1] at e; simp at e)]
        simp only [Bool.false_eq_true, if_false]
        exact Ev.now _
      · rcases pmV_cases T with e' | ⟨y, hY, e'⟩
        · rw [e, e', ppV_neg (fun x y hr => by rw [pmV_pos (hparts x y hr).2] at e'; simp at e')]
          simp only [Bool.false_eq_true, if_false, if_true]
          exact Ev.now _
        · rw [e, e']
          simp only [if_true]
          refine Ev.bind (iFP_ev x y) ?_
          by_cases hc : (strOfNums (fmP x y)).toList = s.toList
          · simp only [if_pos hc]
            rw [ppV_pos (RepP.of ⟨⟨hX.1, hX.2.1⟩, ⟨hY.1, hY.2.1⟩⟩ hc)]
            exact Ev.now _
          · simp only [if_neg hc]
            rw [ppV_neg (fun x' y' hr => by
              obtain ⟨a1, a2⟩ := hparts x' y' hr
              rw [Rep.inj a1 hX, Rep.inj a2 hY] at hr
              exact hc hr.to)]
            exact Ev.now _

theorem jetFalse {s : ByteArray} (h : (splA s spB).length ≠ 8) : jV s = (0, 0, 0, 0, 0, false) := by
  rcases jV_cases s with ⟨_, e⟩ | ⟨x, y, hd, t, l, k, e⟩
  · exact e
  · obtain ⟨p, n, u, v, a, b, c, d, e', _⟩ := k.parts
    rw [e'] at h
    exact absurd rfl h
theorem splA_size (s : ByteArray) (w : ByteArray) (h : w ∈ splA s spB) (hs : s.size ≤ 1048576) : w.size ≤ 1048576 := by
  have hj : ∀ (n : Nat) (s : ByteArray), s.size ≤ n → ∀ w ∈ splV s spB, w.size ≤ s.size := by
    intro n
    have one : ∀ s : ByteArray, Lib.indexB s spB = -1 → ∀ w ∈ splV s spB, w.size ≤ s.size := fun s hm w hw => by
      unfold splV at hw
      rw [Lib.countB_miss s spB hm, Lib.splitB_zero] at hw
      rw [List.mem_singleton.1 hw]
      exact Nat.le_refl _
    induction n with
    | zero =>
      intro s hs
      refine one s (Lib.index_none fun j _ => ?_)
      cases hh : Lib.occAt s.data.toList spB.data.toList j with
      | false => rfl
      | true =>
        rcases Lib.occAt_room hh with h | h
        · have : s.data.toList.length = s.size := rfl
          have : spB.data.toList.length = 1 := rfl
          omega
        · exact absurd h (by decide)
    | succ n ih =>
      intro s hs w hw
      rcases Int.lt_or_le (Lib.indexB s spB) 0 with hm | hm
      · have h1 := Lib.index_ge s.data.toList spB.data.toList
        exact one s (by unfold Lib.indexB at hm ⊢; omega) w hw
      · obtain ⟨i, hi⟩ : ∃ i : Nat, Lib.indexB s spB = i := ⟨(Lib.indexB s spB).toNat, by omega⟩
        have h1 : spB.size = 1 := rfl
        have hl : (s.extract (i + spB.size) s.size).size ≤ n := by rw [ByteArray.size_extract]; omega
        unfold splV at hw
        rw [Lib.countB_hit s spB i (by omega) hi, Nat.add_comm 1, Lib.splitB_hit spB 0 _ s i hi] at hw
        rcases List.mem_cons.1 hw with e | e
        · rw [e, ByteArray.size_extract]; omega
        · have := ih _ hl w e
          rw [ByteArray.size_extract] at this
          omega
  have h8 : splA s spB = splV s spB := by unfold splA; rw [if_neg (by decide)]
  rw [h8] at h
  have := hj s.size s (Nat.le_refl _) w h
  omega
theorem list8 {α : Type} (l : List α) (h : l.length = 8) : ∃ a b c d e f g i, l = [a, b, c, d, e, f, g, i] := by
  match l, h with
  | [a, b, c, d, e, f, g, i], _ => exact ⟨a, b, c, d, e, f, g, i, rfl⟩
theorem jet_same {s : ByteArray} {a p b n c u d v : ByteArray} (hs : splA s spB = [a, p, b, n, c, u, d, v]) :
    (∃ x y h t l, RepJ s x y h t l ∧ ppV p = (x, y, true) ∧ numOf n = (h, true) ∧ pmV u = (t, true) ∧ pmV v = (l, true) ∧ fmJet (ppV p).1 (ppV p).2.1 (numOf n).1 (pmV u).1 (pmV v).1 = s) ∨
    ((∀ x y h t l, ¬ RepJ s x y h t l) ∧ ¬ (fmJet (ppV p).1 (ppV p).2.1 (numOf n).1 (pmV u).1 (pmV v).1).toList = s.toList) := by
  rcases jV_cases s with ⟨hn, _⟩ | ⟨x, y, h, t, l, k, _⟩
  · refine Or.inr ⟨hn, fun e => ?_⟩
    have e := toList_inj.1 e
    by_cases hj : JetOK (ppV p).1 (ppV p).2.1 (numOf n).1 (pmV u).1 (pmV v).1
    · exact hn _ _ _ _ _ ⟨hj, e.symm⟩
    · unfold fmJet at e
      rw [if_neg hj] at e
      rw [← e] at hs
      have : splA (⟨#[]⟩ : ByteArray) spB = [⟨#[]⟩] := by
        unfold splA
        rw [if_neg (by decide)]
        exact splV_one _ (by intro b hb; cases hb)
      rw [this] at hs
      simp at hs
  · obtain ⟨p', n', u', v', a', b', c', d', e, e1, e2, e3, e4, _⟩ := k.parts
    rw [hs] at e
    simp only [List.cons.injEq, and_true] at e
    obtain ⟨_, rfl, _, rfl, _, rfl, _, rfl⟩ := e
    refine Or.inl ⟨x, y, h, t, l, k, e1, e2, e3, e4, ?_⟩
    rw [e1, e2, e3, e4]
    exact k.2.symm

theorem iPJ_ev (s : ByteArray) (hs : s.size ≤ 1048576) : Ev (fun k => impl_ParseJet.f k s) (jV s) := by
  have hsp : impl_SplitAt.f s (⟨#[32]⟩ : ByteArray) = some (splA s spB) := ispl s spB hs
  unfold impl_ParseJet.f
  simp only [hsp, Option.bind_some]
  by_cases h8 : (splA s spB).length = 8
  · obtain ⟨a, p, b, n, c, u, d, v, e⟩ := list8 _ h8
    have z : ∀ w ∈ splA s spB, w.size ≤ 1048576 := fun w hw => splA_size s w hw hs
    have r1 : rdOf ByteArray.empty (splA s spB) 1 = p := by rw [e]; rfl
    have r3 : rdOf ByteArray.empty (splA s spB) 3 = n := by rw [e]; rfl
    have r5 : rdOf ByteArray.empty (splA s spB) 5 = u := by rw [e]; rfl
    have r7 : rdOf ByteArray.empty (splA s spB) 7 = v := by rw [e]; rfl
    simp only [r1, r3, r5, r7, h8, if_pos (show ((8 : Nat) : Int) = 8 from rfl), if_pos (show (1 : Int) < ((8 : Nat) : Int) by decide), if_pos (show (3 : Int) < ((8 : Nat) : Int) by decide), if_pos (show (5 : Int) < ((8 : Nat) : Int) by decide), if_pos (show (7 : Int) < ((8 : Nat) : Int) by decide)]
    refine Ev.bind (iPP_ev p (z p (by rw [e]; simp))) (Ev.bind (iparse_ev n) (Ev.bind (iPM_ev u (z u (by rw [e]; simp))) (Ev.bind (iPM_ev v (z v (by rw [e]; simp))) ?_)))
    rcases jet_same e with ⟨x, y, h, t, l, k, e1, e2, e3, e4, e5⟩ | ⟨hn, hne⟩
    · rw [jV_pos k]
      rw [e1, e2, e3, e4] at e5 ⊢
      simp only [if_true]
      refine Ev.bind (iFJ_ev x y h t l) ?_
      rw [e5]
      simp only [if_true]
      exact Ev.now _
    · rw [jV_neg hn]
      by_cases k1 : (ppV p).2.2 = true
      · by_cases k2 : (numOf n).2 = true
        · by_cases k3 : (pmV u).2 = true
          · by_cases k4 : (pmV v).2 = true
            · simp only [if_pos k1, if_pos k2, if_pos k3, if_pos k4]
              refine Ev.bind (iFJ_ev _ _ _ _ _) ?_
              simp only [if_neg hne]
              exact Ev.now _
            · simp only [if_pos k1, if_pos k2, if_pos k3, if_neg k4]
              exact Ev.now _
          · simp only [if_pos k1, if_pos k2, if_neg k3]
            exact Ev.now _
        · simp only [if_pos k1, if_neg k2]
          exact Ev.now _
      · simp only [if_neg k1]
        exact Ev.now _
  · rw [jetFalse h8]
    simp only [if_neg (show ¬ ((splA s spB).length : Int) = 8 by omega)]
    exact Ev.now _

theorem jT (x y h t l : Int) : jV (fmJet x y h t l) = if JetOK x y h t l then (x, y, h, t, l, true) else (0, 0, 0, 0, 0, false) := by
  by_cases hp : JetOK x y h t l
  · rw [if_pos hp]
    exact jV_pos ⟨hp, rfl⟩
  · rw [if_neg hp]
    refine jV_neg fun x' y' h' t' l' hr => ?_
    obtain ⟨p, n, u, v, a, b, c, d, e, _⟩ := hr.parts
    unfold fmJet at e
    rw [if_neg hp] at e
    have : splA (⟨#[]⟩ : ByteArray) spB = [⟨#[]⟩] := by
      unfold splA
      rw [if_neg (by decide)]
      exact splV_one _ (by intro b hb; cases hb)
    rw [this] at e
    simp at e

theorem FnJetText : ∀ (l0 : List Int), l0.length ≤ maxLen → l0.length * 1 ≤ 140737488351232 → (∀ x ∈ l0, (Lit.int .u8 x).wf = true) → ∃ k, laws_FnJetText.f k l0 = some true := by
  intro l _ _ _
  refine Ev.rounds (r := true) ?_
  unfold laws_FnJetText.f
  simp only [lawBig, Option.bind_some, decide_eq_true_eq]
  by_cases hb : (l.length : Int) > 4096
  · simp only [if_pos hb]
    exact Ev.now _
  · simp only [if_neg hb]
    obtain ⟨x, y, h, t, lf, hxy⟩ := drawFJ l (by omega)
    obtain ⟨s, hs, hsz⟩ := drawPJ l (by omega)
    have hj : Ev (fun k => laws_FnJetText.j0 k l false) true := by
      refine Ev.succ' ?_
      simp only [laws_FnJetText.j0, Bool.false_eq_true, if_false]
      refine Ev.bind hs (Ev.bind (iPJ_ev s hsz) ?_)
      rcases jV_cases s with ⟨_, e⟩ | ⟨a, b, c, d, e', hr, e⟩
      · rw [e]
        simp only [Bool.false_eq_true, if_false]
        exact Ev.now _
      · rw [e]
        simp only [if_true]
        refine Ev.bind (iFJ_ev a b c d e') ?_
        rw [← hr.2]
        simp only [beq_self_eq_true]
        exact Ev.now _
    have hz := fmJet_size x y h t lf
    refine Ev.bind hxy (Ev.bind (iFJ_ev x y h t lf) (Ev.bind (iPJ_ev _ (by omega)) ?_))
    simp only [iIsJet, sIsJet, Option.bind_some, bne_self_eq_false, Bool.false_eq_true, if_false, jT]
    by_cases hm : JetOK x y h t lf
    · simp only [if_pos hm, decide_eq_true hm, bne_self_eq_false, Bool.false_eq_true, if_false, if_true, beq_self_eq_true, Bool.not_true, Bool.or_false]
      exact hj
    · simp only [if_neg hm, decide_eq_false hm, bne_self_eq_false, Bool.false_eq_true, if_false]
      exact hj

end Go.Proofs.YtcnkfnkdcjpkoaaDoor.Pure
