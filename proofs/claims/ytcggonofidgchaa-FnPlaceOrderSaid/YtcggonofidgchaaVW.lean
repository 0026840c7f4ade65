/- impl.SortedPlaces answers the places sorted and each once, in a row of the call's own, and leaves what lay there. Conditions: at most 8796093022208 places, and they lie in the world. -/
import Derived.Test.YtcggonofidgchaaVD
namespace Go.Proofs.YtcggonofidgchaaV
set_option linter.unusedVariables false
set_option linter.unusedSimpArgs false
open Go.Proofs.YtcggonofidgchaaW.PrintWords Go.Proofs.YtcggonofidgchaaW.PrintLast Go.Proofs.YtcggonofidgchaaW.PrintMore Go.Shelf Go.RowKit Go.Lib Go.Sort Go.Proofs

def flatL (l : List (Int × Int)) : List Value := l.flatMap encP
theorem flatL_len (l : List (Int × Int)) : (flatL l).length = l.length * 2 := by
  induction l with
  | nil => rfl
  | cons a l ih =>
    show (encP a ++ flatL l).length = (l.length + 1) * 2
    rw [List.length_append, ih]
    show 2 + _ = _
    omega
theorem flatL_get (l : List (Int × Int)) : ∀ t, t < l.length * 2 → (flatL l)[t]? = some ((encP l[t / 2]!)[t % 2]!) := by
  induction l with
  | nil => intro t ht; simp at ht
  | cons a l ih =>
    intro t ht
    have e : flatL (a :: l) = .int .i64 a.1 :: .int .i64 a.2 :: flatL l := rfl
    rw [e]
    match t, ht with
    | 0, _ => rfl
    | 1, _ => rfl
    | t + 2, ht =>
      rw [List.getElem?_cons_succ, List.getElem?_cons_succ, ih t (by simp at ht; omega), show (t + 2) / 2 = t / 2 + 1 by omega, show (t + 2) % 2 = t % 2 by omega]
      congr 2
theorem flatL_one (l : List (Int × Int)) : ∀ u ∈ flatL l, u.oneCell' = true := by
  intro u hu
  obtain ⟨x, _, hx⟩ := List.mem_flatMap.1 hu
  simp [encP] at hx
  rcases hx with rfl | rfl <;> rfl

theorem holds39 {w : World} {g : Nat} {cur : Array Value} {l : List (Int × Int)} (hb : w.heap[g]? = some (.cells cur 39 (0, 0))) (ht : cur.toList.take (l.length * 2) = flatL l) : HoldsK encP 2 w g 0 l.toArray := by
  intro t hj
  have hj' : t < l.length * 2 := by simpa using hj
  refine ⟨?_, by simp [World.frozen?, hb]⟩
  have h1 : (cur.toList.take (l.length * 2))[t]? = (flatL l)[t]? := by rw [ht]
  rw [List.getElem?_take_of_lt hj', flatL_get l t hj'] at h1
  simp only [World.cell?, hb, Nat.zero_add]
  simp only [Option.isSome_none, Bool.false_eq_true, if_false]
  rw [← Array.getElem?_toList, h1, get_flatK _ _ _ _ (by simpa using hj')]
  simp

theorem heapK {w W : World} {g : Nat} {d : Array (Int × Int)} {cur : Array Value} {e : TypeId} {fr : Nat × Nat} (hb : w.heap[g]? = some (.cells cur e fr)) (h : SWK encP 2 w g 0 d W) :
    W.heap[g]? = some (.cells (putCells id 0 (flatK encP 2 d) cur) e fr) := by
  obtain ⟨n, os, rfl⟩ := h
  have hg : g < w.heap.size := (Array.getElem?_eq_some_iff.1 hb).1
  unfold sortWorldK
  rw [heap_grow_old _ _ (by simpa [putRowK] using hg)]
  simp [putRowK, putRow, mapBlock, Sort.ahead, Array.getElem?_modify, hb, onCells]

theorem belowK {w W : World} {g B : Nat} {d : Array (Int × Int)} (hB : B ≤ g) (hle : B ≤ w.heap.size) (h : SWK encP 2 w g 0 d W) : Below B w W := by
  have hs := h.le
  obtain ⟨n, os, rfl⟩ := h
  refine ⟨rfl, rfl, rfl, hs, fun k hk => ?_⟩
  unfold sortWorldK
  rw [heap_grow_old _ _ (by simp [putRowK]; omega)]
  have : g ≠ k := by omega
  simp [putRowK, putRow, mapBlock, Sort.ahead, Array.getElem?_modify, this]

theorem takeK (cur : Array Value) (dz : Array (Int × Int)) (r : List (Int × Int)) (hr : ∀ j, j < r.length → r[j]? = some dz[j]!) (h1 : r.length ≤ dz.size) (h2 : dz.size * 2 ≤ cur.size) : (putCells id 0 (flatK encP 2 dz) cur).toList.take (r.length * 2) = flatL r := by
  apply List.ext_getElem?
  intro j
  by_cases hj : j < r.length * 2
  · have e : r[j / 2]! = dz[j / 2]! := by
      have := hr (j / 2) (by omega)
      rw [getElem!_pos r (j / 2) (by omega)]
      rw [List.getElem?_eq_getElem (by omega)] at this
      exact Option.some.inj this
    rw [List.getElem?_take_of_lt hj, Array.getElem?_toList, flatL_get r j hj, e]
    have hz : j < dz.size * 2 := by omega
    have hz2 : j < cur.size := by omega
    have := get_flatK encP 2 dz j hz
    rw [show (putCells id 0 (flatK encP 2 dz) cur)[j]? = some ((flatK encP 2 dz)[j]!) from by rw [getElem!_pos _ _ (by rw [size_flatK]; exact hz)]; simp [putCells, hz, hz2], this]
  · rw [List.getElem?_take_eq_none (by omega), List.getElem?_eq_none (by rw [flatL_len]; omega)]

theorem compact_nil (w : World) : Calls Try.prog 27 #[.slice none 0 0] w fun e w' => e = .returned (.slice none 0 0) ∧ w' = w := by
  go_enter Try.func27, Try.ntmps27
  go_wp2
  go_ret
  exact ⟨rfl, rfl⟩

/-- What impl.SortedPlaces answers. -/
def sortedL (l : List (Int × Int)) : List (Int × Int) := l.mergeSort fun x y => !(ltOf cmpV) y x
def sortedV (l : List (Int × Int)) : List (Int × Int) := compactUpTo (sortedL l).toArray (sortedL l).toArray.size

theorem sort_contract (g cap : Nat) (l : List (Int × Int)) (w : World) (hH : HoldsK encP 2 w g 0 l.toArray) (hg : g < w.heap.size) (hn : l.length < 4611686018427387904) :
    Calls Try.prog 26 #[.slice (some ⟨g, 0, none⟩) l.length cap, .func (.func 20) #[] #[]] w fun e w' => e = .returned (.tuple #[]) ∧ SWK encP 2 w g 0 (sortedL l).toArray w' := by
  have eg : ∀ args w, (callFunc 20 args).run Try.prog w = .ok (.enter 20 args) w := enters_of Try.func20 (by kernel_rfl) rfl
  have hcon := AnyQ.slices_SortFunc_total Try.sortPl 2 Try.isAgg39 Try.sizeOf39 encP (fun _ => rfl) (fun x v hv => by simp [encP] at hv; rcases hv with rfl | rfl <;> rfl) cmpV swoV 20 #[] g 0 cap l.toArray w eg (cmpLays g 0 l.toArray.size w) hH hg (by simpa using hn) totV
  have h2 := hcon.mono fun e w' h => (⟨h.1, by obtain ⟨n, os, hw⟩ := h.2; exact ⟨n, os, by rw [hw]; rfl⟩⟩ : e = .returned (.tuple #[]) ∧ SWK encP 2 w g 0 (sortedL l).toArray w')
  have e : l.toArray.size = l.length := by simp
  rw [e] at h2
  exact h2

theorem clone_contract (b off c : Nat) (l : List (Int × Int)) (w : World) (hn : l.length ≤ 8796093022208) (hc : ∀ (j : Nat) u, (flatL l)[j]? = some u → w.cell? ⟨b, off + j, none⟩ = some u) :
    Calls Try.prog 25 #[.slice (some ⟨b, off, none⟩) l.length c] w fun e w' => ∃ g cap cur, e = .returned (.slice (some ⟨g, 0, none⟩) l.length cap) ∧ w.heap.size ≤ g ∧ w'.heap[g]? = some (.cells cur 39 (0, 0)) ∧ l.length ≤ cap ∧ cap ≤ maxLen ∧ cur.size = cap * 2 ∧ cur.toList.take (l.length * 2) = flatL l ∧ Below w.heap.size w w' := by
  have hi : (Try.prog.info? 39).map (fun i => (i.zero, i.size, i.bytes)) = some (some (.agg #[(.int .i64 0), (.int .i64 0)]), 2, 16) := by kernel_rfl
  obtain ⟨i0, h0, h1⟩ := Option.map_eq_some_iff.1 hi
  simp only [Prod.mk.injEq] at h1
  have hcon := AnyE.slices_Clone Try.clonePl i0 (.agg #[(.int .i64 0), (.int .i64 0)]) 2 16 h0 h1.1 h1.2.1 h1.2.2 rfl (by omega) Try.sizeOf39 b off l.length c (flatL l) w (flatL_len l) (by unfold maxLen; omega) (by omega) hc (flatL_one l)
  change Calls Try.prog 25 _ _ _ at hcon
  refine hcon.mono ?_
  rintro e w' ⟨v', rfl, ⟨ho1, ho2⟩, hne, hb⟩
  rcases ho2 with ⟨h, _⟩ | ⟨g, cap, cur, rfl, hg, hh, hn1, hn2, hs, ht⟩
  · exact absurd h hne
  · exact ⟨g, cap, cur, rfl, hg, hh, hn1, hn2, hs, ht, hb⟩

theorem sortedL_len (l : List (Int × Int)) : (sortedL l).length = l.length := by unfold sortedL; rw [List.length_mergeSort]

theorem compact_contract (g cap : Nat) (l : List (Int × Int)) (w : World) (hH : HoldsK encP 2 w g 0 (sortedL l).toArray) (hg : g < w.heap.size) (hn : l.length ≤ 8796093022208) (hcap : l.length ≤ cap) :
    Calls Try.prog 27 #[.slice (some ⟨g, 0, none⟩) l.length cap] w fun e w' => e = .returned (.slice (some ⟨g, 0, none⟩) (sortedV l).length cap) ∧ ∃ dz : Array (Int × Int), dz.size = l.length ∧ (∀ j, j < (sortedV l).length → (sortedV l)[j]? = some dz[j]!) ∧ SWK encP 2 w g 0 dz w' := by
  have e : (sortedL l).toArray.size = l.length := by rw [List.size_toArray, sortedL_len]
  have h := compact_walk g 0 cap (sortedL l).toArray w hH hg (by omega) (by omega)
  rw [e] at h
  unfold sortedV
  rw [e]
  exact h

theorem sortedV_len (l : List (Int × Int)) : (sortedV l).length ≤ l.length := by
  unfold sortedV compactUpTo
  rw [List.length_map]
  refine Nat.le_trans (List.length_filter_le _ _) ?_
  rw [List.length_range, List.size_toArray, sortedL_len]
  exact Nat.le_refl _

set_option maxHeartbeats 2000000 in
theorem clone_zero (ad : Addr) (c : Nat) (w : World) :
    Calls Try.prog 25 #[.slice (some ad) 0 c] w fun e w' => e = .returned (.slice (some ⟨w.heap.size, 0, none⟩) 0 0) ∧ w' = w.alloc (.cells #[] 39) := by
  have q22 : ∀ (w : World) (a : Option Addr) (n c n' c' : Nat), (binOp .eql 30 (.slice a n c) (.slice none n' c')).run Try.prog w = .ok (.bool a.isNone) w := fun w a n c n' c' => Lib.run_eql_slice_nil w _ _ a n c n' c' Try.underlying30
  have u22 : ∀ w, Sem.run Try.prog (underlying 30) w = .ok (TypeDesc.slice 39) w := run_underlying Try.underlying30
  go_enter Try.func25, Try.ntmps25
  go_wp2
  go_ret
  exact ⟨rfl, rfl⟩

theorem compact_zero (p : Option Addr) (w : World) : Calls Try.prog 27 #[.slice p 0 0] w fun e w' => e = .returned (.slice p 0 0) ∧ w' = w := by
  go_enter Try.func27, Try.ntmps27
  go_wp2
  go_ret
  exact ⟨rfl, rfl⟩

theorem sortedV_nil : sortedV [] = [] := by
  have : sortedL [] = [] := List.length_eq_zero_iff.1 (by rw [sortedL_len]; rfl)
  unfold sortedV
  rw [this]
  rfl

set_option maxHeartbeats 4000000 in
/-- impl.SortedPlaces of no place. -/
theorem sorted_zero (A : Option Addr) (c : Nat) (w : World) :
    Calls Try.prog 14 #[.slice A 0 c] w fun e w' => ∃ v, e = .returned v ∧ w'.ownsRow w.heap.size 39 2 v 0 [] ∧ Below w.heap.size w w' := by
  have h26 := fun p fv w => AnyF.slices_SortFunc_none Try.sortPl p 0 fv w
  change ∀ p fv w, Calls Try.prog 26 _ _ _ at h26
  cases A with
  | none =>
    have h25 := fun w => AnyE.slices_Clone_nil Try.clonePl 0 c w
    change ∀ w, Calls Try.prog 25 _ _ _ at h25
    go_enter Try.func14, Try.ntmps14
    go_wp2_with (first
      | (go_at_call 25; refine (h25 _).mono ?_; rintro e w' ⟨rfl, hw⟩; rw [hw])
      | (go_at_call 26; refine (h26 _ _ _).mono ?_; rintro e w' ⟨rfl, hw⟩; rw [hw])
      | (go_at_call 27; refine (compact_zero _ _).mono ?_; rintro e w' ⟨rfl, hw⟩; rw [hw]))
    go_ret
    exact ⟨_, rfl, ⟨rfl, .inl ⟨rfl, rfl⟩⟩, Below.refl _ _⟩
  | some ad =>
    go_enter Try.func14, Try.ntmps14
    go_wp2_with (first
      | (go_at_call 25; refine (clone_zero _ _ _).mono ?_; rintro e w' ⟨rfl, hw⟩; rw [hw])
      | (go_at_call 26; refine (h26 _ _ _).mono ?_; rintro e w' ⟨rfl, hw⟩; rw [hw])
      | (go_at_call 27; refine (compact_zero _ _).mono ?_; rintro e w' ⟨rfl, hw⟩; rw [hw]))
    go_ret
    exact ⟨_, rfl, ⟨rfl, .inr ⟨w.heap.size, 0, #[], rfl, Nat.le_refl _, by show (w.heap.push _)[w.heap.size]? = _; simp, Nat.le_refl _, by unfold maxLen; omega, rfl, rfl⟩⟩, (Below.refl _ _).alloc (Nat.le_refl _) _⟩

set_option maxHeartbeats 4000000 in
/-- impl.SortedPlaces. -/
theorem sorted_calls (b off c : Nat) (l : List (Int × Int)) (w : World) (hn : l.length ≤ 8796093022208) (hc : ∀ (j : Nat) u, (flatL l)[j]? = some u → w.cell? ⟨b, off + j, none⟩ = some u) :
    Calls Try.prog 14 #[.slice (some ⟨b, off, none⟩) l.length c] w fun e w' => ∃ v, e = .returned v ∧ w'.ownsRow w.heap.size 39 2 v (sortedV l).length (flatL (sortedV l)) ∧ Below w.heap.size w w' := by
  have H25 := Aside0.mk (clone_contract b off c l w hn hc)
  clear hc
  have HN := Aside0.mk hn
  clear hn
  have hlen := sortedL_len l
  go_enter Try.func14, Try.ntmps14
  go_wp2_with (first
    | (go_at_call 25; refine H25.out.mono ?_; rintro e w1 ⟨g, cap, cur, rfl, hg, hh, hn1, hn2, hs, ht, hb⟩; have F := Aside0.mk (⟨hg, hh, hn1, hn2, hs, ht, hb⟩ : w.heap.size ≤ g ∧ w1.heap[g]? = some (.cells cur 39 (0, 0)) ∧ l.length ≤ cap ∧ cap ≤ maxLen ∧ cur.size = cap * 2 ∧ cur.toList.take (l.length * 2) = flatL l ∧ Below w.heap.size w w1); clear hg hh hn1 hn2 hs ht hb)
    | (go_at_call 26; refine (sort_contract g cap l _ (holds39 F.out.2.1 F.out.2.2.2.2.2.1) (Array.getElem?_eq_some_iff.1 F.out.2.1).1 (by have := HN.out; omega)).mono ?_; rintro e w2 ⟨rfl, hS⟩; have G := Aside0.mk hS; clear hS)
    | (go_at_call 27; refine (compact_contract g cap l _ (G.out.holds (Array.getElem?_eq_some_iff.1 F.out.2.1).1 (holds39 F.out.2.1 F.out.2.2.2.2.2.1) (by simp [hlen])) (G.out.lt (Array.getElem?_eq_some_iff.1 F.out.2.1).1) HN.out F.out.2.2.1).mono ?_; rintro e w3 ⟨rfl, hC⟩; have K3 := Aside0.mk hC; clear hC))
  go_ret
  obtain ⟨hg, hh, hn1, hn2, hs, ht, hb⟩ := F.out
  obtain ⟨dz, hz1, hz2, hz3⟩ := K3.out
  have hh2 := heapK hh G.out
  have hh3 := heapK hh2 hz3
  have hvl := sortedV_len l
  refine ⟨_, rfl, ⟨flatL_len _, .inr ⟨g, cap, _, rfl, hg, hh3, by omega, hn2, ?_, ?_⟩⟩, ?_⟩
  · simp [putCells, hs]
  · exact takeK _ dz (sortedV l) hz2 (by omega) (by rw [hz1]; simp only [putCells, Array.size_mapIdx]; omega)
  · exact (hb.trans (belowK hg hb.size G.out)).trans (belowK hg (Nat.le_trans hb.size G.out.le) hz3)

theorem flatL_cut (l : List (Int × Int)) : ∀ (j : Nat) (x : Int × Int), l[j]? = some x → ((flatL l).drop (j * 2)).take 2 = encP x := by
  induction l with
  | nil => intro j x h; simp at h
  | cons a l ih =>
    intro j x h
    have e : flatL (a :: l) = .int .i64 a.1 :: .int .i64 a.2 :: flatL l := rfl
    cases j with
    | zero =>
      have : a = x := by simpa using h
      subst this
      rfl
    | succ j =>
      rw [e, show (j + 1) * 2 = j * 2 + 1 + 1 by omega, List.drop_succ_cons, List.drop_succ_cons]
      exact ih j x (by simpa using h)

theorem reads_flat (ad : Addr) (l : List (Int × Int)) (w : World) (hne : 0 < l.length) (h : ∀ j x, l[j]? = some x → ∀ i u, (encP x)[i]? = some u → w.cell? (ad.add (j * 2 + i)) = some u) :
    ∃ b off, ad = ⟨b, off, none⟩ ∧ ∀ (t : Nat) u, (flatL l)[t]? = some u → w.cell? ⟨b, off + t, none⟩ = some u := by
  have h0 := h 0 l[0] (List.getElem?_eq_getElem hne) 0 _ rfl
  have hsp : ad.spot = none := by
    cases hh : ad.spot with
    | none => rfl
    | some p => exfalso; simp [World.cell?, Addr.add, hh] at h0; split at h0 <;> simp at h0
  obtain ⟨b, off, sp⟩ := ad
  obtain rfl : sp = none := hsp
  refine ⟨b, off, rfl, fun t u hu => ?_⟩
  have hlt : t < l.length * 2 := by
    have := (List.getElem?_eq_some_iff.1 hu).1
    rwa [flatL_len] at this
  rw [flatL_get l t hlt] at hu
  have hl : t / 2 < l.length := by omega
  have := h (t / 2) l[t / 2] (List.getElem?_eq_getElem hl) (t % 2) u (by
    rw [getElem!_pos l (t / 2) hl] at hu
    have hm : t % 2 < (encP l[t / 2]).length := by show t % 2 < 2; omega
    rw [getElem!_pos (encP l[t / 2]) (t % 2) hm] at hu
    rw [List.getElem?_eq_getElem hm]
    exact hu)
  rwa [show t / 2 * 2 + t % 2 = t by omega, Addr.add_lit] at this

end Go.Proofs.YtcggonofidgchaaV
