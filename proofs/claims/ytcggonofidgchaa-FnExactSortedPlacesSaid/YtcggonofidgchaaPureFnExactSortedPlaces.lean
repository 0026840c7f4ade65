/- The plain law behind FnExactSortedPlaces: for every input that the row lets in, the printed function of the law answers true. No condition beyond the bounds that the statement names. -/
import Derived.Test.YtcggonofidgchaaIFnExactSortedPlacesx5
namespace Go.Proofs.Ytcggonofidgchaa.Pure
open Go.RowKit Go.Proofs.Ytcggonofidgchaa.PFnExactSortedPlaces Go.Proofs.YtcggonofidgchaaW.PrintWords Go.Proofs.YtcggonofidgchaaW.PrintLast
open Go.Proofs.YtcggonofidgchaaW.PrintMore
set_option linter.unusedVariables false
set_option linter.unusedSimpArgs false

theorem w64 {x : Int} (h0 : -9223372036854775808 ≤ x) (h1 : x ≤ 9223372036854775807) : wrap64 x = x := by unfold wrap64; omega
theorem wfb {a : Int} (h : (Lit.int .i64 a).wf = true) : -9223372036854775808 ≤ a ∧ a ≤ 9223372036854775807 := by
  simp [Lit.wf, IntKind.min, IntKind.max, IntKind.signed, IntKind.bits] at h
  omega
theorem Ev.succ' {α : Type} {g : Nat → Option α} {r : α} (h : Ev (fun k => g (k + 1)) r) : Ev g r := Ev.step (fun _ => rfl) h
theorem dec_congr {p q : Prop} [Decidable p] [Decidable q] (h : p ↔ q) : decide p = decide q := by simp [h]

theorem toP (x y : Int) : laws_toPlace.f x y = some (x, y) := rfl

theorem eqP (x y : Int) : laws_eqPlace.f x y x y = some true := by
  unfold laws_eqPlace.f
  simp

def cmpV (x y u v : Int) : Int := if x < u ∨ x = u ∧ y < v then -1 else if x = u ∧ y = v then 0 else 1

theorem sCmp (x y u v : Int) : Ev (fun k => spec_ComparePlaces.f k x y u v) (cmpV x y u v) := by
  have hj : ∀ b : Bool, b = decide (x < u ∨ x = u ∧ y < v) → Ev (fun k => spec_ComparePlaces.j0 k b x y u v) (cmpV x y u v) := fun b hb => by
    refine Ev.step (f := fun _ => some (cmpV x y u v)) (fun k => ?_) (Ev.now _)
    simp only [spec_ComparePlaces.j0, hb, cmpV]
    by_cases h1 : x < u ∨ x = u ∧ y < v
    · simp [h1]
    · by_cases h2 : x = u ∧ y = v <;> simp [h1, h2]
  unfold spec_ComparePlaces.f
  by_cases h1 : x < u
  · simp only [if_pos h1]
    exact hj _ (by simp [h1])
  · simp only [if_neg h1]
    by_cases h2 : x = u
    · simp only [if_pos h2]
      exact hj _ (by simp [h2])
    · simp only [if_neg h2]
      exact hj _ (by simp [h1, h2])

theorem getD_get {α : Type} (l : List α) (d : α) (i : Int) (h0 : 0 ≤ i) (h1 : i < l.length) : l[i.toNat]? = some (l.getD i.toNat d) := by
  rw [List.getD_eq_getElem?_getD]
  obtain ⟨v, hv⟩ : ∃ v, l[i.toNat]? = some v := ⟨_, List.getElem?_eq_getElem (by omega)⟩
  rw [hv]; rfl

def cvP (x : S45) : S39 := ⟨x.f0, x.f1⟩
theorem toPlaceS_loop (l : List S45) (hl : l.length ≤ 1048576) (d : Nat) : ∀ (i : Int) (acc : List S39), 0 ≤ i → acc.length = l.length → (∀ j : Nat, (j : Int) < i → acc[j]? = (l.map cvP)[j]?) → (l.length : Int) - i = d → Ev (fun k => laws_toPlaceS.l0 k l acc i) (l.map cvP) := by
  induction d with
  | zero =>
    intro i acc h0 hlen hacc hd
    have e : acc = l.map cvP := List.ext_getElem? fun j => by
      by_cases hj : j < l.length
      · exact hacc j (by omega)
      · rw [List.getElem?_eq_none (by omega), List.getElem?_eq_none (by rw [List.length_map]; omega)]
    refine Ev.succ' ?_
    simp only [laws_toPlaceS.l0, if_neg (show ¬ i < (l.length : Int) by omega)]
    rw [e]
    exact Ev.now _
  | succ d ih =>
    intro i acc h0 hlen hacc hd
    refine Ev.succ' ?_
    simp only [laws_toPlaceS.l0, if_pos (show i < (l.length : Int) by omega), if_pos h0, if_pos (show i < (acc.length : Int) by omega), toP, Option.bind_some]
    rw [w64 (by omega) (by omega)]
    refine ih (i + 1) _ (by omega) (by rw [List.length_set]; exact hlen) (fun j hj => ?_) (by omega)
    rw [List.getElem?_set]
    by_cases hji : i.toNat = j
    · rw [if_pos hji, if_pos (by omega), ← hji, List.getElem?_map, getD_get l z45 i h0 (by omega)]
      rfl
    · rw [if_neg hji]; exact hacc j (by omega)
theorem toPlaceS_ev (l : List S45) (hl : l.length ≤ 1048576) : Ev (fun k => laws_toPlaceS.f k l) (l.map cvP) := by
  unfold laws_toPlaceS.f
  simp only [if_pos (show (0 : Int) ≤ (l.length : Int) by omega), if_pos (show (((l.length : Int) : Int)).toNat ≤ 17592186044416 by omega)]
  exact toPlaceS_loop l hl l.length 0 _ (by omega) (by simp) (fun j hj => by omega) (by omega)

theorem szP (l : List S45) (hl : l.length ≤ 9223372036854775807) : laws_szPlaceS.f l 1048576 = some (if (l.length : Int) ≤ 1048576 then 1048576 - (l.length : Int) else -1) := by
  unfold laws_szPlaceS.f
  rw [w64 (by omega) (by omega)]
  split
  · rw [if_neg (by omega)]
  · rw [if_pos (by omega)]

theorem eqPlaceS_ev (l : List S39) (hl : l.length ≤ 1048576) : Ev (fun k => laws_eqPlaceS.f k l l) true := by
  have loop : ∀ (d : Nat) (i : Int), 0 ≤ i → (l.length : Int) - i = d → Ev (fun k => laws_eqPlaceS.l0 k l l i) true := by
    intro d
    induction d with
    | zero =>
      intro i h0 hd
      refine Ev.succ' ?_
      simp only [laws_eqPlaceS.l0, if_neg (show ¬ i < (l.length : Int) by omega)]
      exact Ev.now _
    | succ d ih =>
      intro i h0 hd
      refine Ev.succ' ?_
      simp only [laws_eqPlaceS.l0, if_pos (show i < (l.length : Int) by omega), if_pos h0, eqP, Option.bind_some, if_true]
      rw [w64 (by omega) (by omega)]
      exact ih (i + 1) (by omega) (by omega)
  unfold laws_eqPlaceS.f
  simp only [if_true]
  exact loop l.length 0 (by omega) (by omega)

def ltS (a b : S39) : Prop := a.f0 < b.f0 ∨ a.f0 = b.f0 ∧ a.f1 < b.f1
instance (a b : S39) : Decidable (ltS a b) := by unfold ltS; infer_instance
theorem ltS_irr (a : S39) : ¬ ltS a a := by unfold ltS; omega
theorem ltS_tr {a b c : S39} (h : ltS a b) (k : ltS b c) : ltS a c := by unfold ltS at *; omega
theorem ltS_cmp (a b : S39) : cmpV a.f0 a.f1 b.f0 b.f1 < 0 ↔ ltS a b := by
  unfold cmpV ltS
  split
  · next h => exact ⟨fun _ => h, fun _ => by decide⟩
  · next h => split <;> exact ⟨fun k => absurd k (by decide), fun k => absurd k h⟩
theorem ext39 {a b : S39} (h0 : a.f0 = b.f0) (h1 : a.f1 = b.f1) : a = b := by
  cases a; cases b
  simp only at h0 h1
  subst h0; subst h1; rfl
theorem tri39 (a b : S39) : ltS a b ∨ a = b ∨ ltS b a := by
  by_cases h : ltS a b
  · exact Or.inl h
  · by_cases k : ltS b a
    · exact Or.inr (Or.inr k)
    · refine Or.inr (Or.inl (ext39 ?_ ?_)) <;> (unfold ltS at h k; omega)
/-- A place set in where it belongs. -/
def insS : List S39 → S39 → List S39
  | [], p => [p]
  | a :: t, p => if ltS a p then a :: insS t p else if a.f0 = p.f0 ∧ a.f1 = p.f1 then a :: t else p :: a :: t
theorem insS_mem (l : List S39) (p x : S39) : x ∈ insS l p ↔ x = p ∨ x ∈ l := by
  induction l with
  | nil => simp [insS]
  | cons a t ih =>
    unfold insS
    split
    · rw [List.mem_cons, ih, List.mem_cons]
      constructor
      · rintro (h | h | h)
        · exact Or.inr (Or.inl h)
        · exact Or.inl h
        · exact Or.inr (Or.inr h)
      · rintro (h | h | h)
        · exact Or.inr (Or.inl h)
        · exact Or.inl h
        · exact Or.inr (Or.inr h)
    · split
      · next h =>
        have e : a = p := ext39 h.1 h.2
        subst e
        rw [List.mem_cons]
        constructor
        · intro h; exact Or.inr h
        · rintro (h | h)
          · exact Or.inl h
          · exact h
      · rw [List.mem_cons]
theorem insS_len (l : List S39) (p : S39) : (insS l p).length ≤ l.length + 1 := by
  induction l with
  | nil => simp [insS]
  | cons a t ih =>
    unfold insS
    split
    · simp only [List.length_cons]; omega
    · split <;> simp only [List.length_cons] <;> omega
theorem insS_strict (l : List S39) (p : S39) (h : l.Pairwise ltS) : (insS l p).Pairwise ltS := by
  induction l with
  | nil => simp [insS]
  | cons a t ih =>
    obtain ⟨h1, h2⟩ := List.pairwise_cons.1 h
    unfold insS
    split
    · next hl =>
      refine List.pairwise_cons.2 ⟨fun x hx => ?_, ih h2⟩
      rcases (insS_mem t p x).1 hx with rfl | hx
      · exact hl
      · exact h1 x hx
    · split
      · exact h
      · next hl hne =>
        have hpa : ltS p a := by
          rcases tri39 a p with k | k | k
          · exact absurd k hl
          · subst k; exact absurd ⟨rfl, rfl⟩ hne
          · exact k
        refine List.pairwise_cons.2 ⟨fun x hx => ?_, h⟩
        rcases List.mem_cons.1 hx with rfl | hx
        · exact hpa
        · exact ltS_tr hpa (h1 x hx)
theorem fold_mem (l : List S39) : ∀ (acc : List S39) (x : S39), x ∈ l.foldl insS acc ↔ x ∈ acc ∨ x ∈ l := by
  induction l with
  | nil => intro acc x; simp
  | cons p l ih =>
    intro acc x
    rw [List.foldl_cons, ih, insS_mem, List.mem_cons]
    constructor
    · rintro ((h | h) | h)
      · exact Or.inr (Or.inl h)
      · exact Or.inl h
      · exact Or.inr (Or.inr h)
    · rintro (h | h | h)
      · exact Or.inl (Or.inr h)
      · exact Or.inl (Or.inl h)
      · exact Or.inr h
theorem fold_strict (l : List S39) : ∀ (acc : List S39), acc.Pairwise ltS → (l.foldl insS acc).Pairwise ltS := by
  induction l with
  | nil => intro acc h; exact h
  | cons p l ih => intro acc h; exact ih _ (insS_strict acc p h)
/-- Two rows in strict order with the same places are one row. -/
theorem strict_eq : ∀ (a b : List S39), a.Pairwise ltS → b.Pairwise ltS → (∀ x, x ∈ a ↔ x ∈ b) → a = b
  | [], [], _, _, _ => rfl
  | [], y :: b, _, _, h => by have := (h y).2 (List.mem_cons_self ..); cases this
  | x :: a, [], _, _, h => by have := (h x).1 (List.mem_cons_self ..); cases this
  | x :: a, y :: b, ha, hb, h => by
    obtain ⟨a1, a2⟩ := List.pairwise_cons.1 ha
    obtain ⟨b1, b2⟩ := List.pairwise_cons.1 hb
    have e : x = y := by
      rcases List.mem_cons.1 ((h x).1 (List.mem_cons_self ..)) with e | e
      · exact e
      · rcases List.mem_cons.1 ((h y).2 (List.mem_cons_self ..)) with k | k
        · exact k.symm
        · exact absurd (ltS_tr (b1 x e) (a1 y k)) (ltS_irr _)
    subst e
    rw [strict_eq a b a2 b2 (fun z => ⟨fun hz => by
      rcases List.mem_cons.1 ((h z).1 (List.mem_cons_of_mem _ hz)) with e | e
      · subst e; exact absurd (a1 z hz) (ltS_irr _)
      · exact e, fun hz => by
      rcases List.mem_cons.1 ((h z).2 (List.mem_cons_of_mem _ hz)) with e | e
      · subst e; exact absurd (b1 z hz) (ltS_irr _)
      · exact e⟩)]
theorem ltP_V (x y : Int × Int) : Go.Proofs.ltOf Go.Proofs.YtcggonofidgchaaV.cmpV x y = true ↔ ltS (ofP39 x) (ofP39 y) := by
  rw [Go.Proofs.YtcggonofidgchaaV.ltV]
  unfold ltS ofP39
  simp only [decide_eq_true_eq]
theorem compact_sorted (d : Array (Int × Int)) (hs : ∀ i j, i < j → j < d.size → Go.Proofs.ltOf Go.Proofs.YtcggonofidgchaaV.cmpV d[j]! d[i]! = false) : ∀ m, m ≤ d.size →
    ((Go.Lib.compactUpTo d m).map ofP39).Pairwise ltS ∧ ∀ x, x ∈ Go.Lib.compactUpTo d m ↔ ∃ j, j < m ∧ d[j]! = x := by
  intro m
  induction m with
  | zero => intro _; exact ⟨List.Pairwise.nil, fun x => ⟨fun h => (by cases h), fun ⟨j, h, _⟩ => (by omega)⟩⟩
  | succ m ih =>
    intro hm
    obtain ⟨h1, h2⟩ := ih (by omega)
    rw [Go.Lib.compactUpTo_succ]
    cases hk : Go.Lib.keeps d m with
    | true =>
      rw [if_pos rfl, List.map_append]
      constructor
      · refine List.pairwise_append.2 ⟨h1, by simp, fun a ha b hb => ?_⟩
        obtain ⟨x, hx, rfl⟩ := List.mem_map.1 ha
        simp only [List.map_cons, List.map_nil, List.mem_singleton] at hb
        subst hb
        obtain ⟨j, hj, rfl⟩ := (h2 x).1 hx
        have hne : d[m]! ≠ d[m - 1]! := by
          unfold Go.Lib.keeps at hk
          have := of_decide_eq_true hk
          rcases this with h | h
          · omega
          · exact h
        have hlast : ltS (ofP39 d[m - 1]!) (ofP39 d[m]!) := by
          have h5 := hs (m - 1) m (by omega) (by omega)
          rcases tri39 (ofP39 d[m - 1]!) (ofP39 d[m]!) with k | k | k
          · exact k
          · exfalso
            apply hne
            have e1 := congrArg (·.f0) k
            have e2 := congrArg (·.f1) k
            exact Prod.ext e1.symm e2.symm
          · rw [(ltP_V _ _).2 k] at h5; cases h5
        by_cases hjm : j = m - 1
        · rw [hjm]; exact hlast
        · have h6 := hs j (m - 1) (by omega) (by omega)
          rcases tri39 (ofP39 d[j]!) (ofP39 d[m - 1]!) with k | k | k
          · exact ltS_tr k hlast
          · rw [k]; exact hlast
          · rw [(ltP_V _ _).2 k] at h6; cases h6
      · intro x
        rw [List.mem_append, h2, List.mem_singleton]
        constructor
        · rintro (⟨j, h, e⟩ | h)
          · exact ⟨j, by omega, e⟩
          · exact ⟨m, by omega, h.symm⟩
        · rintro ⟨j, h, e⟩
          by_cases hjm : j = m
          · subst hjm; exact Or.inr e.symm
          · exact Or.inl ⟨j, by omega, e⟩
    | false =>
      rw [if_neg (by decide), List.append_nil]
      refine ⟨h1, fun x => ?_⟩
      rw [h2]
      unfold Go.Lib.keeps at hk
      have hk := of_decide_eq_false hk
      constructor
      · rintro ⟨j, h, e⟩; exact ⟨j, by omega, e⟩
      · rintro ⟨j, h, e⟩
        by_cases hjm : j = m
        · subst hjm
          by_cases hz : j = 0
          · exact absurd (Or.inl hz) hk
          · refine ⟨j - 1, by omega, ?_⟩
            rw [← e]
            by_cases hd : d[j]! = d[j - 1]!
            · exact hd.symm
            · exact absurd (Or.inr hd) hk
        · exact ⟨j, by omega, e⟩
theorem of_to (l : List S39) : (l.map toP39).map ofP39 = l := by
  rw [List.map_map]
  exact List.map_id' l
theorem sortedV_facts (l : List (Int × Int)) : ((Go.Proofs.YtcggonofidgchaaV.sortedV l).map ofP39).Pairwise ltS ∧ ∀ x, x ∈ Go.Proofs.YtcggonofidgchaaV.sortedV l ↔ x ∈ l := by
  have hsw := Go.Proofs.YtcggonofidgchaaV.swoV
  have hp : (Go.Proofs.YtcggonofidgchaaV.sortedL l).Pairwise (fun a b => (!(Go.Proofs.ltOf Go.Proofs.YtcggonofidgchaaV.cmpV) b a) = true) := by
    unfold Go.Proofs.YtcggonofidgchaaV.sortedL
    refine List.pairwise_mergeSort (fun a b c h k => ?_) (fun a b => ?_) l
    · rw [Go.Proofs.YtcggonofidgchaaV.ltV] at h k ⊢
      simp at h k ⊢; omega
    · rw [Go.Proofs.YtcggonofidgchaaV.ltV, Go.Proofs.YtcggonofidgchaaV.ltV]
      simp; omega
  have hget : ∀ i, i < (Go.Proofs.YtcggonofidgchaaV.sortedL l).toArray.size → (Go.Proofs.YtcggonofidgchaaV.sortedL l).toArray[i]! = (Go.Proofs.YtcggonofidgchaaV.sortedL l)[i]! := fun i hi => by simp
  obtain ⟨h1, h2⟩ := compact_sorted (Go.Proofs.YtcggonofidgchaaV.sortedL l).toArray (fun i j hij hj => by
    have hj' : j < (Go.Proofs.YtcggonofidgchaaV.sortedL l).length := by simpa using hj
    have := List.pairwise_iff_getElem.1 hp i j (by omega) hj' hij
    rw [getElem!_pos _ i (by simp; omega), getElem!_pos _ j (by simpa using hj')]
    simpa using this) (Go.Proofs.YtcggonofidgchaaV.sortedL l).toArray.size (Nat.le_refl _)
  refine ⟨h1, fun x => ?_⟩
  have hm : x ∈ Go.Proofs.YtcggonofidgchaaV.sortedL l ↔ x ∈ l := (List.mergeSort_perm l _).mem_iff
  unfold Go.Proofs.YtcggonofidgchaaV.sortedV
  rw [h2, ← hm]
  constructor
  · rintro ⟨j, hj, e⟩
    have hj' : j < (Go.Proofs.YtcggonofidgchaaV.sortedL l).length := by simpa using hj
    rw [getElem!_pos _ j hj] at e
    rw [← e]
    simp
  · intro hx
    obtain ⟨j, hj, e⟩ := List.getElem_of_mem hx
    refine ⟨j, by simpa using hj, ?_⟩
    rw [getElem!_pos _ j (by simpa using hj)]
    simpa using e
def sortV (l : List S39) : List S39 := (Go.Proofs.YtcggonofidgchaaV.sortedV (l.map toP39)).map ofP39
theorem sortV_strict (l : List S39) : (sortV l).Pairwise ltS := (sortedV_facts _).1
theorem sortV_mem (l : List S39) (x : S39) : x ∈ sortV l ↔ x ∈ l := by
  unfold sortV
  rw [List.mem_map]
  constructor
  · rintro ⟨q, hq, rfl⟩
    obtain ⟨p, hp, rfl⟩ := List.mem_map.1 (((sortedV_facts _).2 q).1 hq)
    exact hp
  · intro hx
    exact ⟨toP39 x, ((sortedV_facts _).2 _).2 (List.mem_map.2 ⟨x, hx, rfl⟩), rfl⟩
theorem iSorted (l : List S39) (hl : l.length ≤ 8796093022208) : impl_SortedPlaces.f l = some (sortV l) := by
  unfold impl_SortedPlaces.f
  rw [if_pos hl]
  rfl

theorem sIns (src : List S39) (N idx : Int) (p : S39) (r : List S39) (suf : List S39) : ∀ (pre : List S39), pre.length + suf.length ≤ 1048576 →
    Ev (fun k => spec_SortedPlaces.l0 k (pre ++ insS suf p) src N (wrap64 (idx + 1))) r → Ev (fun k => spec_SortedPlaces.l1 k (pre ++ suf) (pre.length : Int) src N idx p.f0 p.f1) r := by
  induction suf with
  | nil =>
    intro pre hl h
    have e : (([] ++ (pre ++ []).take pre.length) ++ [p]) ++ (pre ++ []).drop pre.length = pre ++ insS [] p := by simp [insS]
    have e2 : (⟨p.f0, p.f1⟩ : S39) = p := rfl
    rw [← e] at h
    have hz : (pre ++ ([] : List S39)).length = pre.length := by simp
    have ht : ((pre ++ ([] : List S39)).take pre.length).length = pre.length := by simp
    have hd : ((pre ++ ([] : List S39)).drop pre.length).length = 0 := by simp
    simp only [List.length_nil] at hl
    refine Ev.succ' ?_
    simp only [spec_SortedPlaces.l1, hz, if_neg (show ¬ (pre.length : Int) < (pre.length : Int) by omega), if_true, if_pos (show (0 : Int) ≤ (pre.length : Int) by omega), if_pos (show (pre.length : Int) ≤ (pre.length : Int) by omega), Option.bind_some, Int.toNat_natCast, List.length_append, List.length_nil, ht, hd, List.length_singleton, e2, if_pos (show 0 + pre.length < 8796093022208 by omega), if_pos (show 0 + pre.length + 1 + 0 < 8796093022208 by omega)]
    exact h
  | cons a t ih =>
    intro pre hl h
    have hlen : (pre ++ a :: t).length = pre.length + t.length + 1 := by simp; omega
    simp only [List.length_cons] at hl
    have hrd : rd_T39 (pre ++ a :: t) (pre.length : Int) = a := by unfold rd_T39; simp [List.getD_eq_getElem?_getD]
    refine Ev.succ' ?_
    simp only [spec_SortedPlaces.l1, if_pos (show (pre.length : Int) < ((pre ++ a :: t).length : Int) by omega), if_pos (show (0 : Int) ≤ (pre.length : Int) by omega), hrd]
    refine Ev.bind (sCmp a.f0 a.f1 p.f0 p.f1) ?_
    by_cases hc : ltS a p
    · simp only [if_pos ((ltS_cmp a p).2 hc)]
      rw [w64 (by omega) (by omega)]
      have h2 := ih (pre ++ [a]) (by simp; omega) (by
        have e : pre ++ insS (a :: t) p = (pre ++ [a]) ++ insS t p := by simp [insS, hc]
        rw [← e]; exact h)
      have e1 : ((pre ++ [a]).length : Int) = (pre.length : Int) + 1 := by simp
      have e2 : (pre ++ [a]) ++ t = pre ++ a :: t := by simp
      rw [e1, e2] at h2
      exact h2
    · simp only [if_neg (fun k => hc ((ltS_cmp a p).1 k)), if_neg (show ¬ (pre.length : Int) = ((pre ++ a :: t).length : Int) by omega)]
      by_cases he : a.f0 = p.f0 ∧ a.f1 = p.f1
      · have eb : (!(a.f0 == p.f0) || !(a.f1 == p.f1)) = false := by simp [he.1, he.2]
        have e : insS (a :: t) p = a :: t := by unfold insS; rw [if_neg hc, if_pos he]
        rw [e] at h
        simp only [eb, Bool.false_eq_true, if_false]
        exact h
      · have eb : (!(a.f0 == p.f0) || !(a.f1 == p.f1)) = true := by
          by_cases h0 : a.f0 = p.f0
          · have : ¬ a.f1 = p.f1 := fun k => he ⟨h0, k⟩
            simp [this]
          · simp [h0]
        have e : insS (a :: t) p = p :: a :: t := by unfold insS; rw [if_neg hc, if_neg he]
        rw [e] at h
        have e3 : (([] ++ (pre ++ a :: t).take pre.length) ++ [p]) ++ (pre ++ a :: t).drop pre.length = pre ++ p :: a :: t := by simp
        have e2 : (⟨p.f0, p.f1⟩ : S39) = p := rfl
        rw [← e3] at h
        have ht : ((pre ++ a :: t).take pre.length).length = pre.length := by simp
        have hd : ((pre ++ a :: t).drop pre.length).length = t.length + 1 := by simp
        have hq1 : ([] ++ (pre ++ a :: t).take pre.length).length = pre.length := by simp
        have hq2 : (([] ++ (pre ++ a :: t).take pre.length) ++ [p]).length = pre.length + 1 := by simp
        simp only [eb, if_true, if_pos (show (pre.length : Int) ≤ ((pre ++ a :: t).length : Int) by omega), Option.bind_some, Int.toNat_natCast, List.length_nil, hq1, hq2, ht, hd, e2, if_pos (show 0 + pre.length < 8796093022208 by omega), if_pos (show pre.length < 8796093022208 by omega), if_pos (show pre.length + 1 + (t.length + 1) < 8796093022208 by omega)]
        exact h
theorem sSorted_loop (src : List S39) (hs : src.length ≤ 1048576) (d : Nat) : ∀ (i : Nat) (out : List S39), i ≤ src.length → out.length ≤ i → src.length - i = d →
    Ev (fun k => spec_SortedPlaces.l0 k out src (src.length : Int) (i : Int)) ((src.drop i).foldl insS out) := by
  induction d with
  | zero =>
    intro i out hi ho hd
    refine Ev.succ' ?_
    simp only [spec_SortedPlaces.l0, if_neg (show ¬ (i : Int) < (src.length : Int) by omega)]
    rw [List.drop_eq_nil_of_le (by omega)]
    exact Ev.now _
  | succ d ih =>
    intro i out hi ho hd
    have hlt : i < src.length := by omega
    have hrd : rd_T39 src (i : Int) = src[i] := by
      unfold rd_T39
      rw [Int.toNat_natCast, List.getD_eq_getElem?_getD, List.getElem?_eq_getElem hlt]
      rfl
    have hlen := insS_len out src[i]
    refine Ev.succ' ?_
    simp only [spec_SortedPlaces.l0, if_pos (show (i : Int) < (src.length : Int) by omega), if_pos (show (0 : Int) ≤ (i : Int) by omega), hrd]
    have h := ih (i + 1) (insS out src[i]) (by omega) (by omega) (by omega)
    rw [List.drop_eq_getElem_cons hlt, List.foldl_cons]
    refine sIns src _ _ src[i] _ out [] (by simp; omega) ?_
    rw [w64 (by omega) (by omega)]
    exact h
theorem sSorted (l : List S39) (hl : l.length ≤ 1048576) : Ev (fun k => spec_SortedPlaces.f k l) (sortV l) := by
  have e : sortV l = l.foldl insS [] := strict_eq _ _ (sortV_strict l) (fold_strict l [] List.Pairwise.nil) (fun x => by rw [sortV_mem, fold_mem]; simp)
  rw [e]
  have := sSorted_loop l hl l.length 0 [] (by omega) (by simp) (by omega)
  rw [List.drop_zero] at this
  exact this

theorem markP_ev (d : Nat) : ∀ (l : List S39) (m i : Int), l.length ≤ 100000000 → 0 ≤ m → m + 2 * d ≤ 50000000000 → 0 ≤ i → (l.length : Int) - i = d →
    ∃ l', Ev (fun k => laws_markPlaceS.l0 k l m i) (m + 2 * d, l') ∧ l'.length = l.length ∧ (∀ j : Nat, (j : Int) < i → l'[j]? = l[j]?) ∧ (∀ j : Nat, i ≤ (j : Int) → j < l.length → l'[j]? = some ⟨m + 2 * (j - i), m + 2 * (j - i) + 1⟩) := by
  induction d with
  | zero =>
    intro l m i hl hm hmd h0 hd
    refine ⟨l, Ev.succ' ?_, rfl, fun _ _ => rfl, fun j h1 h2 => by omega⟩
    simp only [laws_markPlaceS.l0, if_neg (show ¬ i < (l.length : Int) by omega)]
    rw [show m + 2 * ((0 : Nat) : Int) = m by omega]
    exact Ev.now _
  | succ d ih =>
    intro l m i hl hm hmd h0 hd
    have hlt : i.toNat < l.length := by omega
    have hset : ((l.set i.toNat ⟨m, (rd_T39 l i).f1⟩).set i.toNat ⟨(rd_T39 (l.set i.toNat ⟨m, (rd_T39 l i).f1⟩) i).f0, m + 1⟩) = l.set i.toNat ⟨m, m + 1⟩ := by
      have e : (rd_T39 (l.set i.toNat ⟨m, (rd_T39 l i).f1⟩) i).f0 = m := by
        unfold rd_T39
        simp [List.getD_eq_getElem?_getD, hlt]
      rw [e, List.set_set]
    obtain ⟨l', h1, h2, h3, h4⟩ := ih (l.set i.toNat ⟨m, m + 1⟩) (m + 2) (i + 1) (by rw [List.length_set]; exact hl) (by omega) (by omega) (by omega) (by rw [List.length_set]; omega)
    refine ⟨l', Ev.succ' ?_, by rw [h2, List.length_set], fun j hj => ?_, fun j hj1 hj2 => ?_⟩
    · simp only [laws_markPlaceS.l0, if_pos (show i < (l.length : Int) by omega), if_pos h0, Option.bind_some]
      rw [w64 (x := m + 1) (by omega) (by omega), w64 (x := i + 1) (by omega) (by omega), w64 (x := m + 1 + 1) (by omega) (by omega), hset, show m + 1 + 1 = m + 2 by omega]
      rw [show m + 2 * ((d + 1 : Nat) : Int) = m + 2 + 2 * (d : Int) by omega]
      exact h1
    · rw [h3 j (by omega), List.getElem?_set_ne (by omega)]
    · by_cases hji : (j : Int) = i
      · rw [h3 j (by omega), List.getElem?_set, if_pos (by omega), if_pos (by omega), show m + 2 * ((j : Int) - i) = m by omega]
      · rw [h4 j (by omega) (by rw [List.length_set]; exact hj2), show m + 2 + 2 * ((j : Int) - (i + 1)) = m + 2 * ((j : Int) - i) by omega]
theorem heldP_ev (d : Nat) : ∀ (l : List S39) (m i : Int), l.length ≤ 100000000 → 0 ≤ m → m + 2 * d ≤ 50000000000 → 0 ≤ i → (l.length : Int) - i = d → (∀ j : Nat, i ≤ (j : Int) → j < l.length → l[j]? = some ⟨m + 2 * (j - i), m + 2 * (j - i) + 1⟩) →
    Ev (fun k => laws_heldPlaceS.l0 k l m i) (m + 2 * d) := by
  induction d with
  | zero =>
    intro l m i hl hm hmd h0 hd ha
    refine Ev.succ' ?_
    simp only [laws_heldPlaceS.l0, if_neg (show ¬ i < (l.length : Int) by omega)]
    rw [show m + 2 * ((0 : Nat) : Int) = m by omega]
    exact Ev.now _
  | succ d ih =>
    intro l m i hl hm hmd h0 hd ha
    have he : rd_T39 l i = ⟨m, m + 1⟩ := by
      have h1 := ha i.toNat (by omega) (by omega)
      rw [show m + 2 * ((i.toNat : Int) - i) = m by omega] at h1
      unfold rd_T39
      simp only [List.getD_eq_getElem?_getD, h1, Option.getD_some]
    refine Ev.succ' ?_
    simp only [laws_heldPlaceS.l0, if_pos (show i < (l.length : Int) by omega), if_pos h0, he, if_true]
    rw [w64 (x := m + 1) (by omega) (by omega), w64 (x := i + 1) (by omega) (by omega), w64 (x := m + 1 + 1) (by omega) (by omega), show m + 1 + 1 = m + 2 by omega]
    simp only [if_true]
    rw [show m + 2 * ((d + 1 : Nat) : Int) = m + 2 + 2 * (d : Int) by omega]
    exact ih l (m + 2) (i + 1) hl (by omega) (by omega) (by omega) (by omega) (fun j h1 h2 => by rw [ha j (by omega) h2, show m + 2 + 2 * ((j : Int) - (i + 1)) = m + 2 * ((j : Int) - i) by omega])
theorem markP_held (l : List S39) (hl : l.length ≤ 10000000) : ∃ l', Ev (fun k => laws_markPlaceS.f k l 1) (1 + 2 * (l.length : Int), l') ∧ Ev (fun k => laws_heldPlaceS.f k l' 1) (1 + 2 * (l.length : Int)) := by
  obtain ⟨l', h1, h2, _, h4⟩ := markP_ev l.length l 1 0 (by omega) (by omega) (by omega) (by omega) (by omega)
  refine ⟨l', h1, ?_⟩
  exact heldP_ev l.length l' 1 0 (by omega) (by omega) (by omega) (by omega) (by omega) (fun j hj1 hj2 => h4 j hj1 (by omega))

theorem FnExactSortedPlaces : ∀ (l0 : List S45), l0.length ≤ 9223372036854775807 → (∀ x ∈ l0, (Lit.int .i64 x.f0).wf = true ∧ (Lit.int .i64 x.f1).wf = true) → ∃ k, laws_FnExactSortedPlaces.f k l0 = some true := by
  intro l hl _
  refine Ev.rounds (r := true) ?_
  unfold laws_FnExactSortedPlaces.f
  simp only [szP l hl, Option.bind_some]
  by_cases hb : (l.length : Int) ≤ 1048576
  · simp only [if_pos hb, if_neg (show ¬ (1048576 - (l.length : Int)) < 0 by omega)]
    have ht := toPlaceS_ev l (by omega)
    have hm : (l.map cvP).length ≤ 1048576 := by rw [List.length_map]; omega
    have hsv : (sortV (l.map cvP)).length ≤ 1048576 := by
      have h1 := Go.Proofs.YtcggonofidgchaaV.sortedV_len ((l.map cvP).map toP39)
      rw [List.length_map] at h1
      unfold sortV
      rw [List.length_map]
      omega
    have hi := iSorted (l.map cvP) (by omega)
    obtain ⟨m1, k1, k2⟩ := markP_held (l.map cvP) (by omega)
    obtain ⟨m2, q1, q2⟩ := markP_held (sortV (l.map cvP)) (by omega)
    have he := eqPlaceS_ev _ hsv
    refine Ev.bind ht (Ev.bind (sSorted _ hm) (Ev.bind ht ?_))
    simp only [hi, Option.bind_some]
    refine Ev.bind he ?_
    simp only [if_true]
    refine Ev.bind ht (Ev.bind (eqPlaceS_ev _ hm) ?_)
    simp only [if_true]
    refine Ev.bind k1 ?_
    simp only [if_neg (show ¬ 1 + 2 * ((l.map cvP).length : Int) < 0 by omega)]
    refine Ev.bind he ?_
    simp only [Bool.not_true]
    refine Ev.succ' ?_
    simp only [laws_FnExactSortedPlaces.j0, Bool.false_eq_true, if_false]
    refine Ev.bind q1 (Ev.bind q2 ?_)
    simp only [if_neg (show ¬ 1 + 2 * ((sortV (l.map cvP)).length : Int) < 0 by omega), if_true]
    refine Ev.bind ht ?_
    simp only [hi, Option.bind_some]
    refine Ev.bind he ?_
    simp only [if_true]
    refine Ev.bind q2 ?_
    simp only [if_neg (show ¬ 1 + 2 * ((sortV (l.map cvP)).length : Int) < 0 by omega), if_true]
    exact Ev.now _
  · simp only [if_neg hb, if_pos (show (-1 : Int) < 0 by omega)]
    exact Ev.now _

end Go.Proofs.Ytcggonofidgchaa.Pure
