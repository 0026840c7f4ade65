/- The plain law behind FnExactFormatNumber: for every input that the row lets in, the printed function of the law answers true. No condition beyond the bounds that the statement names. -/
import Derived.Test.YtcnkfnkdcjpkoaaDoorIFnExactFormatNumberx1
namespace Go.Proofs.YtcnkfnkdcjpkoaaDoor.Pure
open Go.RowKit Go.Proofs.YtcnkfnkdcjpkoaaDoor.PFnExactFormatNumber Go.Proofs.YtcnkfnkdcjpkoaaDoorW.PrintWords Go.Proofs.YtcnkfnkdcjpkoaaDoorW.PrintLast
open Go.Proofs.YtcnkfnkdcjpkoaaDoorW.PrintMore
set_option linter.unusedVariables false
set_option linter.unusedSimpArgs false

theorem w64 {x : Int} (h0 : -9223372036854775808 ≤ x) (h1 : x ≤ 9223372036854775807) : wrap64 x = x := by unfold wrap64; omega
theorem wfb {a : Int} (h : (Lit.int .i64 a).wf = true) : -9223372036854775808 ≤ a ∧ a ≤ 9223372036854775807 := by
  simp [Lit.wf, IntKind.min, IntKind.max, IntKind.signed, IntKind.bits] at h
  omega
theorem Ev.succ' {α : Type} {g : Nat → Option α} {r : α} (h : Ev (fun k => g (k + 1)) r) : Ev g r := Ev.step (fun _ => rfl) h
theorem dec_congr {p q : Prop} [Decidable p] [Decidable q] (h : p ↔ q) : decide p = decide q := by simp [h]

theorem tmod_pos {a b : Int} (h : 0 ≤ a) : Int.tmod a b = a % b := Int.tmod_eq_emod_of_nonneg h
theorem tmod_neg' (a b : Int) : Int.tmod (-a) b = -(Int.tmod a b) := Int.neg_tmod a b
theorem tdiv_pos {a b : Int} (h : 0 ≤ a) : Int.tdiv a b = a / b := Int.tdiv_eq_ediv_of_nonneg h
theorem tmod4 (n : Int) : (Int.tmod n 4 < 0 → Int.tmod n 4 + 4 = n % 4) ∧ (¬ Int.tmod n 4 < 0 → Int.tmod n 4 = n % 4) ∧ -3 ≤ Int.tmod n 4 ∧ Int.tmod n 4 ≤ 3 := by
  rcases Int.le_total 0 n with h | h
  · rw [tmod_pos h]; omega
  · obtain ⟨m, rfl⟩ : ∃ m, n = -m := ⟨-n, by omega⟩
    rw [tmod_neg', tmod_pos (by omega)]; omega

def IsBytes (l : List Int) : Prop := ∀ x ∈ l, 0 ≤ x ∧ x ≤ 255
theorem IsBytes.append {a b : List Int} (ha : IsBytes a) (hb : IsBytes b) : IsBytes (a ++ b) := fun x hx => by
  rcases List.mem_append.1 hx with h | h
  · exact ha x h
  · exact hb x h
theorem IsBytes.cons {x : Int} {b : List Int} (hx : 0 ≤ x ∧ x ≤ 255) (hb : IsBytes b) : IsBytes (x :: b) := fun y hy => by
  rcases List.mem_cons.1 hy with h | h
  · rw [h]; exact hx
  · exact hb y h
theorem IsBytes.nil : IsBytes [] := fun x hx => by cases hx
theorem bytesOf_isBytes (s : ByteArray) : IsBytes (bytesOf s) := fun x hx => by
  unfold bytesOf at hx
  obtain ⟨b, _, rfl⟩ := List.mem_map.1 hx
  have := b.toNat_lt
  omega
theorem str_bytesOf (s : ByteArray) : strOfNums (bytesOf s) = s := by
  apply ByteArray.ext
  apply Array.ext'
  rw [strOfNums_data]
  unfold bytesOf
  rw [List.map_map]
  conv => rhs; rw [← List.map_id s.data.toList]
  apply List.map_congr_left
  intro b _
  simp
theorem bytesOf_str {l : List Int} (h : IsBytes l) : bytesOf (strOfNums l) = l := by
  unfold bytesOf
  rw [strOfNums_data, List.map_map]
  conv => rhs; rw [← List.map_id l]
  apply List.map_congr_left
  intro x hx
  have := h x hx
  simp
  omega
theorem str_append (a b : List Int) : strOfNums a ++ strOfNums b = strOfNums (a ++ b) := by
  apply ByteArray.ext
  rw [ByteArray.data_append]
  apply Array.ext'
  simp [strOfNums]
theorem str_inj {a b : List Int} (ha : IsBytes a) (hb : IsBytes b) (h : strOfNums a = strOfNums b) : a = b := by
  rw [← bytesOf_str ha, ← bytesOf_str hb, h]
theorem toList_inj {s t : ByteArray} : s.toList = t.toList ↔ s = t := by
  constructor
  · intro h
    rw [ByteArray.toList_eq, ByteArray.toList_eq] at h
    apply ByteArray.ext
    exact Array.ext' h
  · intro h; rw [h]
theorem str_eq {l : List Int} (h : IsBytes l) (s : ByteArray) : (strOfNums l).toList = s.toList ↔ l = bytesOf s := by
  rw [toList_inj]
  constructor
  · intro e; rw [← e, bytesOf_str h]
  · intro e; rw [e, str_bytesOf]
theorem bt_rd (s : ByteArray) (i : Int) : bt s i = (bytesOf s).getD i.toNat 0 := by
  rw [← rd_bytesOf]; rfl

def dig (n : Nat) : List Int := if h : n < 10 then [48 + (n : Int)] else dig (n / 10) ++ [48 + ((n % 10 : Nat) : Int)]
termination_by n
decreasing_by omega
theorem dig_lt {n : Nat} (h : n < 10) : dig n = [48 + (n : Int)] := by rw [dig, dif_pos h]
theorem dig_ge {n : Nat} (h : ¬ n < 10) : dig n = dig (n / 10) ++ [48 + ((n % 10 : Nat) : Int)] := by rw [dig, dif_neg h]
theorem dig_digits : ∀ n, ∀ x ∈ dig n, 48 ≤ x ∧ x ≤ 57 := by
  intro n
  induction n using Nat.strongRecOn with
  | _ n ih =>
    by_cases h : n < 10
    · rw [dig_lt h]; intro x hx; simp at hx; omega
    · rw [dig_ge h]; intro x hx
      rcases List.mem_append.1 hx with h1 | h1
      · exact ih _ (by omega) x h1
      · simp at h1; omega
theorem dig_bytes (n : Nat) : IsBytes (dig n) := fun x hx => by have := dig_digits n x hx; omega
theorem dig_len : ∀ n, 1 ≤ (dig n).length ∧ (dig n).length ≤ n + 1 := by
  intro n
  induction n using Nat.strongRecOn with
  | _ n ih =>
    by_cases h : n < 10
    · rw [dig_lt h]; simp
    · rw [dig_ge h]; have := ih (n / 10) (by omega); simp; omega
theorem dig1 {n : Nat} (h : n ≤ 9) : dig n = [48 + (n : Int)] := dig_lt (by omega)
theorem dig2 {n : Nat} (h : 10 ≤ n) (h2 : n ≤ 99) : dig n = [48 + ((n / 10 : Nat) : Int), 48 + ((n % 10 : Nat) : Int)] := by
  rw [dig_ge (by omega), dig_lt (by omega)]; rfl
theorem dig3 {n : Nat} (h : 100 ≤ n) (h2 : n ≤ 999) : dig n = [48 + ((n / 100 : Nat) : Int), 48 + ((n / 10 % 10 : Nat) : Int), 48 + ((n % 10 : Nat) : Int)] := by
  rw [dig_ge (by omega), dig2 (by omega) (by omega), Nat.div_div_eq_div_mul]; rfl

theorem sfmt_ev : ∀ n : Nat, n ≤ 9223372036854775807 → Ev (fun k => spec_FormatNumber.f k (n : Int)) (strOfNums (dig n)) := by
  intro n
  induction n using Nat.strongRecOn with
  | _ n ih =>
    intro hn
    have e1 : wrap64 (48 + Int.tmod (n : Int) 10) % 256 = 48 + ((n % 10 : Nat) : Int) := by
      rw [tmod_pos (by omega), w64 (by omega) (by omega)]; omega
    have e2 : wrap64 (Int.tdiv (n : Int) 10) = ((n / 10 : Nat) : Int) := by
      rw [tdiv_pos (by omega), w64 (by omega) (by omega)]; omega
    by_cases h : n < 10
    · refine Ev.step (f := fun _ => some (strOfNums (dig n))) (fun k => ?_) (Ev.now _)
      simp only [spec_FormatNumber.f, e1, e2]
      rw [if_neg (by omega), if_neg (by omega)]
      simp only [Option.bind_some]
      rw [if_neg (by omega), dig_lt h]
      have : ((n % 10 : Nat) : Int) = (n : Int) := by omega
      rw [this]
    · have hb : Ev (fun k => (spec_FormatNumber.f k ((n / 10 : Nat) : Int)).bind fun t => if t.size + (strOfNums [48 + ((n % 10 : Nat) : Int)]).size ≤ 9223372036854775807 then some (t ++ strOfNums [48 + ((n % 10 : Nat) : Int)]) else none) (strOfNums (dig n)) := by
        refine Ev.bind (ih (n / 10) (by omega) (by omega)) ?_
        have := dig_len (n / 10)
        simp only [strOfNums_size, List.length_singleton]
        rw [if_pos (by omega), str_append, ← dig_ge h]
        exact Ev.now _
      refine Ev.step (fun k => ?_) hb
      simp only [spec_FormatNumber.f, e1, e2]
      rw [if_neg (by omega), if_neg (by omega)]
      simp only [Option.bind_some]
      rw [if_pos (by omega)]

theorem dig_nums (n : Nat) : (dig n).map (fun x => UInt8.ofNat x.toNat) = Lib.decDigits n := by
  induction n using Nat.strongRecOn with
  | _ n ih =>
    by_cases h : n < 10
    · rw [dig_lt h, Lib.decDigits, dif_pos h]
      simp only [List.map_cons, List.map_nil]
      rw [show (48 + (n : Int)).toNat = 48 + n by omega]
    · rw [dig_ge h, Lib.decDigits, dif_neg h, List.map_append, ih (n / 10) (by omega)]
      simp only [List.map_cons, List.map_nil]
      rw [show (48 + ((n % 10 : Nat) : Int)).toNat = 48 + n % 10 by omega]
theorem str_dig (n : Nat) : strOfNums (dig n) = ⟨(Lib.decDigits n).toArray⟩ := by
  apply ByteArray.ext
  apply Array.ext'
  rw [strOfNums_data]
  exact dig_nums n
theorem dig_len2 (n : Nat) : (dig n).length ≤ n / 10 + 2 := by
  by_cases h : n < 10
  · rw [dig_lt h]; simp
  · rw [dig_ge h, List.length_append]
    have := (dig_len (n / 10)).2
    simp only [List.length_singleton]
    omega
def fmN (a : Int) : List Int := if a < 0 then 45 :: dig a.natAbs else dig a.toNat
theorem fmN_bytes (a : Int) : IsBytes (fmN a) := by
  unfold fmN
  split
  · exact IsBytes.cons (by omega) (dig_bytes _)
  · exact dig_bytes _
theorem str_fmN (a : Int) : strOfNums (fmN a) = ⟨(Lib.itoa a).toArray⟩ := by
  apply ByteArray.ext
  apply Array.ext'
  rw [strOfNums_data]
  unfold fmN Lib.itoa
  split
  · simp only [List.map_cons, dig_nums]
    rfl
  · exact dig_nums _
theorem sfmtI_ev (a : Int) (h0 : -9223372036854775808 ≤ a) (h1 : a ≤ 9223372036854775807) : Ev (fun k => spec_FormatNumber.f k a) (strOfNums (fmN a)) := by
  by_cases hn : a < 0
  · by_cases hm : a = -9223372036854775808
    · subst hm
      refine Ev.succ' ?_
      simp only [spec_FormatNumber.f, if_true]
      have e : (⟨#[45, 57, 50, 50, 51, 51, 55, 50, 48, 51, 54, 56, 53, 52, 55, 55, 53, 56, 48, 56]⟩ : ByteArray) = strOfNums (fmN (-9223372036854775808)) := by
        rw [str_fmN]
        have e2 : Lib.itoa (-9223372036854775808) = [45, 57, 50, 50, 51, 51, 55, 50, 48, 51, 54, 56, 53, 52, 55, 55, 53, 56, 48, 56] := by simp [Lib.itoa, Lib.decDigits]
        rw [e2]
      rw [e]
      exact Ev.now _
    · refine Ev.succ' ?_
      simp only [spec_FormatNumber.f, if_neg hm, if_pos hn]
      rw [w64 (by omega) (by omega)]
      have he := sfmt_ev (-a).toNat (by omega)
      rw [show (((-a).toNat : Nat) : Int) = -a by omega] at he
      refine Ev.bind he ?_
      have hl := dig_len2 (-a).toNat
      rw [strOfNums_size, if_pos (by omega)]
      have e : (⟨#[45]⟩ : ByteArray) ++ strOfNums (dig (-a).toNat) = strOfNums (fmN a) := by
        have e1 : (⟨#[45]⟩ : ByteArray) = strOfNums [45] := rfl
        rw [e1, str_append]
        unfold fmN
        rw [if_pos hn, show a.natAbs = (-a).toNat by omega]
        rfl
      rw [e]
      exact Ev.now _
  · have he := sfmt_ev a.toNat (by omega)
    rw [show ((a.toNat : Nat) : Int) = a by omega] at he
    unfold fmN
    rw [if_neg hn]
    exact he
theorem iItoa (a : Int) (h0 : -9223372036854775808 ≤ a) (h1 : a ≤ 9223372036854775807) : impl_FormatNumber.f a = some (strOfNums (fmN a)) := by
  unfold impl_FormatNumber.f Go.Proofs.YtcnkfnkdcjpkoaaDoorVN.strconv_Itoa.f
  rw [if_pos ⟨h0, h1⟩, str_fmN]
  rfl

theorem FnExactFormatNumber : ∀ (a0 : Int), (Lit.int .i64 a0).wf = true → ∃ k, laws_FnExactFormatNumber.f k a0 = some true := by
  intro a ha
  have hw := wfb ha
  refine Ev.rounds (r := true) ?_
  unfold laws_FnExactFormatNumber.f
  refine Ev.bind (sfmtI_ev a hw.1 hw.2) ?_
  rw [iItoa a hw.1 hw.2]
  simp only [Option.bind_some, if_true]
  exact Ev.now _

end Go.Proofs.YtcnkfnkdcjpkoaaDoor.Pure
