/- The plain law behind FnExactFormatMeasure: for every input that the row lets in, the printed function of the law answers true. No condition beyond the bounds that the statement names. -/
import Derived.Test.YtcnkfnkdcjpkoaaDoorIFnExactFormatMeasurex2
namespace Go.Proofs.YtcnkfnkdcjpkoaaDoor.Pure
open Go.RowKit Go.Proofs.YtcnkfnkdcjpkoaaDoor.PFnExactFormatMeasure Go.Proofs.YtcnkfnkdcjpkoaaDoorW.PrintWords Go.Proofs.YtcnkfnkdcjpkoaaDoorW.PrintLast
open Go.Proofs.YtcnkfnkdcjpkoaaDoorW.PrintMore
set_option linter.unusedVariables false
set_option linter.unusedSimpArgs false

theorem w64 {x : Int} (h0 : -9223372036854775808 ≤ x) (h1 : x ≤ 9223372036854775807) : wrap64 x = x := by unfold wrap64; omega
theorem wfb {a : Int} (h : (Lit.int .i64 a).wf = true) : -9223372036854775808 ≤ a ∧ a ≤ 9223372036854775807 := by
  simp [Lit.wf, IntKind.min, IntKind.max, IntKind.signed, IntKind.bits] at h
  omega
theorem Ev.succ' {α : Type} {g : Nat → Option α} {r : α} (h : Ev (fun k => g (k + 1)) r) : Ev g r := Ev.step (fun _ => rfl) h
theorem dec_congr {p q : Prop} [Decidable p] [Decidable q] (h : p ↔ q) : decide p = decide q := by simp [h]

theorem sIsMeasure (x : Int) : spec_IsMeasure.f x = some (decide (-4096 ≤ x ∧ x ≤ 4096)) := by
  unfold spec_IsMeasure.f
  split <;> simp <;> omega

theorem iWithin (a b c : Int) : impl_isWithin.f a b c = some (decide (b ≤ a ∧ a ≤ c)) := by
  unfold impl_isWithin.f
  split <;> simp <;> omega

theorem iIsMeasure (x : Int) : impl_IsMeasure.f x = some (decide (-4096 ≤ x ∧ x ≤ 4096)) := by
  unfold impl_IsMeasure.f
  rw [iWithin]
  rfl

theorem tmod_pos {a b : Int} (h : 0 ≤ a) : Int.tmod a b = a % b := Int.tmod_eq_emod_of_nonneg h
theorem tmod_neg' (a b : Int) : Int.tmod (-a) b = -(Int.tmod a b) := Int.neg_tmod a b
theorem tdiv_pos {a b : Int} (h : 0 ≤ a) : Int.tdiv a b = a / b := Int.tdiv_eq_ediv_of_nonneg h
theorem tmod4 (n : Int) : (Int.tmod n 4 < 0 → Int.tmod n 4 + 4 = n % 4) ∧ (¬ Int.tmod n 4 < 0 → Int.tmod n 4 = n % 4) ∧ -3 ≤ Int.tmod n 4 ∧ Int.tmod n 4 ≤ 3 := by
  rcases Int.le_total 0 n with h | h
  · rw [tmod_pos h]; omega
  · obtain ⟨m, rfl⟩ : ∃ m, n = -m := ⟨-n, by omega⟩
    rw [tmod_neg', tmod_pos (by omega)]; omega

def IsBytes (l : List Int) : Prop := ∀ x ∈ l, 0 ≤ x ∧ x ≤ 255
theorem IsBytes.append {a b : List Int} (ha : IsBytes a) (hb : IsBytes b) : IsBytes (a ++ b) := fun x hx => by
  rcases List.mem_append.1 hx with h | h
  · exact ha x h
  · exact hb x h
theorem IsBytes.cons {x : Int} {b : List Int} (hx : 0 ≤ x ∧ x ≤ 255) (hb : IsBytes b) : IsBytes (x :: b) := fun y hy => by
  rcases List.mem_cons.1 hy with h | h
  · rw [h]; exact hx
  · exact hb y h
theorem IsBytes.nil : IsBytes [] := fun x hx => by cases hx
theorem bytesOf_isBytes (s : ByteArray) : IsBytes (bytesOf s) := fun x hx => by
  unfold bytesOf at hx
  obtain ⟨b, _, rfl⟩ := List.mem_map.1 hx
  have := b.toNat_lt
  omega
theorem str_bytesOf (s : ByteArray) : strOfNums (bytesOf s) = s := by
  apply ByteArray.ext
  apply Array.ext'
  rw [strOfNums_data]
  unfold bytesOf
  rw [List.map_map]
  conv => rhs; rw [← List.map_id s.data.toList]
  apply List.map_congr_left
  intro b _
  simp
theorem bytesOf_str {l : List Int} (h : IsBytes l) : bytesOf (strOfNums l) = l := by
  unfold bytesOf
  rw [strOfNums_data, List.map_map]
  conv => rhs; rw [← List.map_id l]
  apply List.map_congr_left
  intro x hx
  have := h x hx
  simp
  omega
theorem str_append (a b : List Int) : strOfNums a ++ strOfNums b = strOfNums (a ++ b) := by
  apply ByteArray.ext
  rw [ByteArray.data_append]
  apply Array.ext'
  simp [strOfNums]
theorem str_inj {a b : List Int} (ha : IsBytes a) (hb : IsBytes b) (h : strOfNums a = strOfNums b) : a = b := by
  rw [← bytesOf_str ha, ← bytesOf_str hb, h]
theorem toList_inj {s t : ByteArray} : s.toList = t.toList ↔ s = t := by
  constructor
  · intro h
    rw [ByteArray.toList_eq, ByteArray.toList_eq] at h
    apply ByteArray.ext
    exact Array.ext' h
  · intro h; rw [h]
theorem str_eq {l : List Int} (h : IsBytes l) (s : ByteArray) : (strOfNums l).toList = s.toList ↔ l = bytesOf s := by
  rw [toList_inj]
  constructor
  · intro e; rw [← e, bytesOf_str h]
  · intro e; rw [e, str_bytesOf]
theorem bt_rd (s : ByteArray) (i : Int) : bt s i = (bytesOf s).getD i.toNat 0 := by
  rw [← rd_bytesOf]; rfl

def dig (n : Nat) : List Int := if h : n < 10 then [48 + (n : Int)] else dig (n / 10) ++ [48 + ((n % 10 : Nat) : Int)]
termination_by n
decreasing_by omega
theorem dig_lt {n : Nat} (h : n < 10) : dig n = [48 + (n : Int)] := by rw [dig, dif_pos h]
theorem dig_ge {n : Nat} (h : ¬ n < 10) : dig n = dig (n / 10) ++ [48 + ((n % 10 : Nat) : Int)] := by rw [dig, dif_neg h]
theorem dig_digits : ∀ n, ∀ x ∈ dig n, 48 ≤ x ∧ x ≤ 57 := by
  intro n
  induction n using Nat.strongRecOn with
  | _ n ih =>
    by_cases h : n < 10
    · rw [dig_lt h]; intro x hx; simp at hx; omega
    · rw [dig_ge h]; intro x hx
      rcases List.mem_append.1 hx with h1 | h1
      · exact ih _ (by omega) x h1
      · simp at h1; omega
theorem dig_bytes (n : Nat) : IsBytes (dig n) := fun x hx => by have := dig_digits n x hx; omega
theorem dig_len : ∀ n, 1 ≤ (dig n).length ∧ (dig n).length ≤ n + 1 := by
  intro n
  induction n using Nat.strongRecOn with
  | _ n ih =>
    by_cases h : n < 10
    · rw [dig_lt h]; simp
    · rw [dig_ge h]; have := ih (n / 10) (by omega); simp; omega
theorem dig1 {n : Nat} (h : n ≤ 9) : dig n = [48 + (n : Int)] := dig_lt (by omega)
theorem dig2 {n : Nat} (h : 10 ≤ n) (h2 : n ≤ 99) : dig n = [48 + ((n / 10 : Nat) : Int), 48 + ((n % 10 : Nat) : Int)] := by
  rw [dig_ge (by omega), dig_lt (by omega)]; rfl
theorem dig3 {n : Nat} (h : 100 ≤ n) (h2 : n ≤ 999) : dig n = [48 + ((n / 100 : Nat) : Int), 48 + ((n / 10 % 10 : Nat) : Int), 48 + ((n % 10 : Nat) : Int)] := by
  rw [dig_ge (by omega), dig2 (by omega) (by omega), Nat.div_div_eq_div_mul]; rfl

theorem sfmt_ev : ∀ n : Nat, n ≤ 9223372036854775807 → Ev (fun k => spec_FormatNumber.f k (n : Int)) (strOfNums (dig n)) := by
  intro n
  induction n using Nat.strongRecOn with
  | _ n ih =>
    intro hn
    have e1 : wrap64 (48 + Int.tmod (n : Int) 10) % 256 = 48 + ((n % 10 : Nat) : Int) := by
      rw [tmod_pos (by omega), w64 (by omega) (by omega)]; omega
    have e2 : wrap64 (Int.tdiv (n : Int) 10) = ((n / 10 : Nat) : Int) := by
      rw [tdiv_pos (by omega), w64 (by omega) (by omega)]; omega
    by_cases h : n < 10
    · refine Ev.step (f := fun _ => some (strOfNums (dig n))) (fun k => ?_) (Ev.now _)
      simp only [spec_FormatNumber.f, e1, e2]
      rw [if_neg (by omega), if_neg (by omega)]
      simp only [Option.bind_some]
      rw [if_neg (by omega), dig_lt h]
      have : ((n % 10 : Nat) : Int) = (n : Int) := by omega
      rw [this]
    · have hb : Ev (fun k => (spec_FormatNumber.f k ((n / 10 : Nat) : Int)).bind fun t => if t.size + (strOfNums [48 + ((n % 10 : Nat) : Int)]).size ≤ 9223372036854775807 then some (t ++ strOfNums [48 + ((n % 10 : Nat) : Int)]) else none) (strOfNums (dig n)) := by
        refine Ev.bind (ih (n / 10) (by omega) (by omega)) ?_
        have := dig_len (n / 10)
        simp only [strOfNums_size, List.length_singleton]
        rw [if_pos (by omega), str_append, ← dig_ge h]
        exact Ev.now _
      refine Ev.step (fun k => ?_) hb
      simp only [spec_FormatNumber.f, e1, e2]
      rw [if_neg (by omega), if_neg (by omega)]
      simp only [Option.bind_some]
      rw [if_pos (by omega)]

theorem dig_nums (n : Nat) : (dig n).map (fun x => UInt8.ofNat x.toNat) = Lib.decDigits n := by
  induction n using Nat.strongRecOn with
  | _ n ih =>
    by_cases h : n < 10
    · rw [dig_lt h, Lib.decDigits, dif_pos h]
      simp only [List.map_cons, List.map_nil]
      rw [show (48 + (n : Int)).toNat = 48 + n by omega]
    · rw [dig_ge h, Lib.decDigits, dif_neg h, List.map_append, ih (n / 10) (by omega)]
      simp only [List.map_cons, List.map_nil]
      rw [show (48 + ((n % 10 : Nat) : Int)).toNat = 48 + n % 10 by omega]
theorem str_dig (n : Nat) : strOfNums (dig n) = ⟨(Lib.decDigits n).toArray⟩ := by
  apply ByteArray.ext
  apply Array.ext'
  rw [strOfNums_data]
  exact dig_nums n
theorem dig_len2 (n : Nat) : (dig n).length ≤ n / 10 + 2 := by
  by_cases h : n < 10
  · rw [dig_lt h]; simp
  · rw [dig_ge h, List.length_append]
    have := (dig_len (n / 10)).2
    simp only [List.length_singleton]
    omega
def fmN (a : Int) : List Int := if a < 0 then 45 :: dig a.natAbs else dig a.toNat
theorem fmN_bytes (a : Int) : IsBytes (fmN a) := by
  unfold fmN
  split
  · exact IsBytes.cons (by omega) (dig_bytes _)
  · exact dig_bytes _
theorem str_fmN (a : Int) : strOfNums (fmN a) = ⟨(Lib.itoa a).toArray⟩ := by
  apply ByteArray.ext
  apply Array.ext'
  rw [strOfNums_data]
  unfold fmN Lib.itoa
  split
  · simp only [List.map_cons, dig_nums]
    rfl
  · exact dig_nums _
theorem sfmtI_ev (a : Int) (h0 : -9223372036854775808 ≤ a) (h1 : a ≤ 9223372036854775807) : Ev (fun k => spec_FormatNumber.f k a) (strOfNums (fmN a)) := by
  by_cases hn : a < 0
  · by_cases hm : a = -9223372036854775808
    · subst hm
      refine Ev.succ' ?_
      simp only [spec_FormatNumber.f, if_true]
      have e : (⟨#[45, 57, 50, 50, 51, 51, 55, 50, 48, 51, 54, 56, 53, 52, 55, 55, 53, 56, 48, 56]⟩ : ByteArray) = strOfNums (fmN (-9223372036854775808)) := by
        rw [str_fmN]
        have e2 : Lib.itoa (-9223372036854775808) = [45, 57, 50, 50, 51, 51, 55, 50, 48, 51, 54, 56, 53, 52, 55, 55, 53, 56, 48, 56] := by simp [Lib.itoa, Lib.decDigits]
        rw [e2]
      rw [e]
      exact Ev.now _
    · refine Ev.succ' ?_
      simp only [spec_FormatNumber.f, if_neg hm, if_pos hn]
      rw [w64 (by omega) (by omega)]
      have he := sfmt_ev (-a).toNat (by omega)
      rw [show (((-a).toNat : Nat) : Int) = -a by omega] at he
      refine Ev.bind he ?_
      have hl := dig_len2 (-a).toNat
      rw [strOfNums_size, if_pos (by omega)]
      have e : (⟨#[45]⟩ : ByteArray) ++ strOfNums (dig (-a).toNat) = strOfNums (fmN a) := by
        have e1 : (⟨#[45]⟩ : ByteArray) = strOfNums [45] := rfl
        rw [e1, str_append]
        unfold fmN
        rw [if_pos hn, show a.natAbs = (-a).toNat by omega]
        rfl
      rw [e]
      exact Ev.now _
  · have he := sfmt_ev a.toNat (by omega)
    rw [show ((a.toNat : Nat) : Int) = a by omega] at he
    unfold fmN
    rw [if_neg hn]
    exact he
theorem iItoa (a : Int) (h0 : -9223372036854775808 ≤ a) (h1 : a ≤ 9223372036854775807) : impl_FormatNumber.f a = some (strOfNums (fmN a)) := by
  unfold impl_FormatNumber.f Go.Proofs.YtcnkfnkdcjpkoaaDoorV.strconv_Itoa.f
  rw [if_pos ⟨h0, h1⟩, str_fmN]
  rfl

def frac (r : Int) : List Int := if r = 1 then [46, 49, 50, 53] else if r = 2 then [46, 50, 53] else if r = 3 then [46, 51, 55, 53] else if r = 4 then [46, 53] else if r = 5 then [46, 54, 50, 53] else if r = 6 then [46, 55, 53] else if r = 7 then [46, 56, 55, 53] else []
def fmB (x : Int) : List Int := dig (x / 8).toNat ++ frac (x % 8)
def fmM (a : Int) : List Int := if a < 0 then 45 :: fmB (-a) else fmB a
def fmT (a : Int) : List Int := if -4096 ≤ a ∧ a ≤ 4096 then fmM a else []
theorem frac_len (r : Int) : (frac r).length ≤ 4 := by
  unfold frac
  repeat' split
  all_goals simp
theorem frac_bytes (r : Int) : IsBytes (frac r) := by
  intro x hx
  unfold frac at hx
  repeat' split at hx
  all_goals (simp at hx; try omega)
theorem fmT_bytes (a : Int) : IsBytes (fmT a) := by
  unfold fmT fmM fmB
  split
  · split
    · exact IsBytes.cons (by omega) (IsBytes.append (dig_bytes _) (frac_bytes _))
    · exact IsBytes.append (dig_bytes _) (frac_bytes _)
  · exact IsBytes.nil
def fracTab : List ByteArray := [(⟨#[]⟩ : ByteArray), (⟨#[46, 49, 50, 53]⟩ : ByteArray), (⟨#[46, 50, 53]⟩ : ByteArray), (⟨#[46, 51, 55, 53]⟩ : ByteArray), (⟨#[46, 53]⟩ : ByteArray), (⟨#[46, 54, 50, 53]⟩ : ByteArray), (⟨#[46, 55, 53]⟩ : ByteArray), (⟨#[46, 56, 55, 53]⟩ : ByteArray)]
theorem frac_cases {r : Int} (h0 : 0 ≤ r) (h8 : r < 8) : r = 0 ∨ r = 1 ∨ r = 2 ∨ r = 3 ∨ r = 4 ∨ r = 5 ∨ r = 6 ∨ r = 7 := by omega
theorem frac_tab {r : Int} (h0 : 0 ≤ r) (h8 : r < 8) : rdOf ByteArray.empty fracTab r = strOfNums (frac r) := by
  rcases frac_cases h0 h8 with rfl | rfl | rfl | rfl | rfl | rfl | rfl | rfl <;> rfl
theorem str_cons1 (l : List Int) : (⟨#[45]⟩ : ByteArray) ++ strOfNums l = strOfNums (45 :: l) := by
  have e1 : (⟨#[45]⟩ : ByteArray) = strOfNums [45] := rfl
  rw [e1, str_append]
  rfl
theorem str_nil1 (l : List Int) : (⟨#[]⟩ : ByteArray) ++ strOfNums l = strOfNums l := by
  have e1 : (⟨#[]⟩ : ByteArray) = strOfNums [] := rfl
  rw [e1, str_append]
  rfl

theorem sFM_ev (a : Int) : Ev (fun k => spec_FormatMeasure.f k a) (strOfNums (fmT a)) := by
  unfold spec_FormatMeasure.f
  simp only [sIsMeasure, Option.bind_some, decide_eq_true_eq]
  by_cases hm : -4096 ≤ a ∧ a ≤ 4096
  · simp only [if_pos hm]
    unfold fmT fmM
    rw [if_pos hm]
    change Ev (fun k => if a < 0 then ((spec_FormatNumber.f k (wrap64 (Int.tdiv (wrap64 (-a)) 8))).bind fun t107 => (if 1 + t107.size ≤ 9223372036854775807 then (if 0 ≤ (Int.tmod (wrap64 (-a)) 8) then (if (Int.tmod (wrap64 (-a)) 8) < (fracTab.length : Int) then (if ((⟨#[45]⟩ : ByteArray) ++ t107).size + (rdOf ByteArray.empty fracTab (Int.tmod (wrap64 (-a)) 8)).size ≤ 9223372036854775807 then (some (((⟨#[45]⟩ : ByteArray) ++ t107) ++ (rdOf ByteArray.empty fracTab (Int.tmod (wrap64 (-a)) 8)))) else none) else none) else none) else none)) else ((spec_FormatNumber.f k (wrap64 (Int.tdiv a 8))).bind fun t112 => (if 0 + t112.size ≤ 9223372036854775807 then (if 0 ≤ (Int.tmod a 8) then (if (Int.tmod a 8) < (fracTab.length : Int) then (if ((⟨#[]⟩ : ByteArray) ++ t112).size + (rdOf ByteArray.empty fracTab (Int.tmod a 8)).size ≤ 9223372036854775807 then (some (((⟨#[]⟩ : ByteArray) ++ t112) ++ (rdOf ByteArray.empty fracTab (Int.tmod a 8)))) else none) else none) else none) else none))) _
    have hl : (fracTab.length : Int) = 8 := rfl
    by_cases hn : a < 0
    · simp only [if_pos hn]
      rw [w64 (x := -a) (by omega) (by omega), tdiv_pos (by omega), tmod_pos (by omega), w64 (by omega) (by omega)]
      have he := sfmt_ev (-a / 8).toNat (by omega)
      rw [show (((-a / 8).toNat : Nat) : Int) = -a / 8 by omega] at he
      refine Ev.bind he ?_
      have h1 := dig_len2 (-a / 8).toNat
      have h2 := frac_len (-a % 8)
      simp only [frac_tab (show 0 ≤ -a % 8 by omega) (show -a % 8 < 8 by omega), str_cons1, strOfNums_size, List.length_cons, str_append]
      rw [if_pos (by omega), if_pos (by omega), if_pos (by omega), if_pos (by omega)]
      exact Ev.now _
    · simp only [if_neg hn]
      rw [tdiv_pos (by omega), tmod_pos (by omega), w64 (by omega) (by omega)]
      have he := sfmt_ev (a / 8).toNat (by omega)
      rw [show (((a / 8).toNat : Nat) : Int) = a / 8 by omega] at he
      refine Ev.bind he ?_
      have h1 := dig_len2 (a / 8).toNat
      have h2 := frac_len (a % 8)
      simp only [frac_tab (show 0 ≤ a % 8 by omega) (show a % 8 < 8 by omega), str_nil1, strOfNums_size, str_append]
      rw [if_pos (by omega), if_pos (by omega), if_pos (by omega), if_pos (by omega)]
      exact Ev.now _
  · simp only [if_neg hm]
    unfold fmT
    rw [if_neg hm]
    exact Ev.now _

theorem trim7 {r : Int} (h1 : 1 ≤ r) (h8 : r < 8) : Go.Proofs.YtcnkfnkdcjpkoaaDoorV.strings_TrimRight.f ((strOfNums (fmN (1000 + r * 125))).extract 1 (strOfNums (fmN (1000 + r * 125))).size) ⟨#[48]⟩ = some (strOfNums ((frac r).drop 1)) ∧ (strOfNums (fmN (1000 + r * 125))).size = 4 := by
  have hc : r = 1 ∨ r = 2 ∨ r = 3 ∨ r = 4 ∨ r = 5 ∨ r = 6 ∨ r = 7 := by omega
  rcases hc with rfl | rfl | rfl | rfl | rfl | rfl | rfl
  · have e : fmN (1000 + 1 * 125) = [49, 49, 50, 53] := by simp [fmN, dig]
    rw [e]; exact ⟨rfl, rfl⟩
  · have e : fmN (1000 + 2 * 125) = [49, 50, 53, 48] := by simp [fmN, dig]
    rw [e]; exact ⟨rfl, rfl⟩
  · have e : fmN (1000 + 3 * 125) = [49, 51, 55, 53] := by simp [fmN, dig]
    rw [e]; exact ⟨rfl, rfl⟩
  · have e : fmN (1000 + 4 * 125) = [49, 53, 48, 48] := by simp [fmN, dig]
    rw [e]; exact ⟨rfl, rfl⟩
  · have e : fmN (1000 + 5 * 125) = [49, 54, 50, 53] := by simp [fmN, dig]
    rw [e]; exact ⟨rfl, rfl⟩
  · have e : fmN (1000 + 6 * 125) = [49, 55, 53, 48] := by simp [fmN, dig]
    rw [e]; exact ⟨rfl, rfl⟩
  · have e : fmN (1000 + 7 * 125) = [49, 56, 55, 53] := by simp [fmN, dig]
    rw [e]; exact ⟨rfl, rfl⟩
theorem frac_drop {r : Int} (h1 : 1 ≤ r) (h8 : r < 8) : 46 :: (frac r).drop 1 = frac r := by
  have hc : r = 1 ∨ r = 2 ∨ r = 3 ∨ r = 4 ∨ r = 5 ∨ r = 6 ∨ r = 7 := by omega
  rcases hc with rfl | rfl | rfl | rfl | rfl | rfl | rfl <;> rfl
theorem str_dot (l : List Int) : (⟨#[46]⟩ : ByteArray) ++ strOfNums l = strOfNums (46 :: l) := by
  have e1 : (⟨#[46]⟩ : ByteArray) = strOfNums [46] := rfl
  rw [e1, str_append]
  rfl
theorem fmN_nat {x : Int} (h : 0 ≤ x) : fmN x = dig x.toNat := by unfold fmN; rw [if_neg (by omega)]
theorem iFMj (x : Int) (sg : List Int) (h0 : 0 ≤ x) (h1 : x ≤ 4096) (hs : sg.length ≤ 1) : Ev (fun k => impl_FormatMeasure.j0 k x (strOfNums sg)) (strOfNums (sg ++ fmB x)) := by
  refine Ev.succ' ?_
  simp only [impl_FormatMeasure.j0]
  rw [tdiv_pos (by omega), tmod_pos (by omega), w64 (x := x / 8) (by omega) (by omega), iItoa (x / 8) (by omega) (by omega)]
  have hl := dig_len2 (x / 8).toNat
  simp only [Option.bind_some, fmN_nat (show 0 ≤ x / 8 by omega), strOfNums_size, str_append]
  rw [if_pos (by omega)]
  by_cases hr : x % 8 > 0
  · rw [if_pos hr, w64 (x := x % 8 * 125) (by omega) (by omega), w64 (x := 1000 + x % 8 * 125) (by omega) (by omega), iItoa (1000 + x % 8 * 125) (by omega) (by omega)]
    obtain ⟨t1, t2⟩ := trim7 (r := x % 8) (by omega) (by omega)
    rw [strOfNums_size] at t2
    have hf := frac_len (x % 8)
    have hd : ((frac (x % 8)).drop 1).length ≤ 4 := by rw [List.length_drop]; omega
    simp only [Option.bind_some]
    rw [strOfNums_size, t2, if_pos (by omega)]
    rw [strOfNums_size, t2] at t1
    rw [t1]
    simp only [Option.bind_some, strOfNums_size, str_dot, str_append, frac_drop (show 1 ≤ x % 8 by omega) (show x % 8 < 8 by omega)]
    rw [if_pos (by omega), if_pos (by rw [List.length_append]; omega)]
    unfold fmB
    rw [List.append_assoc]
    exact Ev.now _
  · rw [if_neg hr]
    unfold fmB
    rw [show x % 8 = 0 by omega]
    have hf0 : frac 0 = [] := rfl
    rw [hf0, List.append_nil]
    exact Ev.now _
theorem iFM_ev (a : Int) : Ev (fun k => impl_FormatMeasure.f k a) (strOfNums (fmT a)) := by
  unfold impl_FormatMeasure.f
  simp only [iIsMeasure, Option.bind_some, decide_eq_true_eq]
  by_cases hm : -4096 ≤ a ∧ a ≤ 4096
  · simp only [if_pos hm]
    unfold fmT fmM
    rw [if_pos hm]
    by_cases hn : a < 0
    · simp only [if_pos hn]
      rw [w64 (by omega) (by omega)]
      exact iFMj (-a) [45] (by omega) (by omega) (by simp)
    · simp only [if_neg hn]
      exact iFMj a [] (by omega) (by omega) (by simp)
  · simp only [if_neg hm]
    unfold fmT
    rw [if_neg hm]
    exact Ev.now _

theorem FnExactFormatMeasure : ∀ (a0 : Int), (Lit.int .i64 a0).wf = true → ∃ k, laws_FnExactFormatMeasure.f k a0 = some true := by
  intro a ha
  refine Ev.rounds (r := true) ?_
  unfold laws_FnExactFormatMeasure.f
  refine Ev.bind (sFM_ev a) (Ev.bind (iFM_ev a) ?_)
  simp only [if_true]
  exact Ev.now _

end Go.Proofs.YtcnkfnkdcjpkoaaDoor.Pure
