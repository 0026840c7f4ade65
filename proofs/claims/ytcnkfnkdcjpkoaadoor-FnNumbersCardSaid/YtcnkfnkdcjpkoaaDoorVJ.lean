/- strings.Join in the form of the printed functions (.f, .calls), out of the shelf contract. Conditions: its own bounds on the lengths. -/
import Derived.Test.YtcnkfnkdcjpkoaaDoorV
import Derived.Test.YtcnkfnkdcjpkoaaDoorWWords
import Derived.Test.YtcnkfnkdcjpkoaaDoorWMore
namespace Go.Proofs.YtcnkfnkdcjpkoaaDoorV
open Go.RowKit Go.Proofs.YtcnkfnkdcjpkoaaDoorW.PrintWords

def joinB (l0 : List ByteArray) (a1 : ByteArray) : ByteArray := ⟨(Lib.join (l0.map (·.data.toList)) a1.data.toList).toArray⟩

def strings_Join.f (l0 : List ByteArray) (a1 : ByteArray) : Option ByteArray :=
  if l0.length ≤ 140737488355328 ∧ (Lib.join (l0.map (·.data.toList)) a1.data.toList).length ≤ 140737488355328 then some (joinB l0 a1) else none

theorem strings_Join.calls (A0 : Option Addr) (c0 : Nat) (l0 : List ByteArray) (a1 : ByteArray) (r : ByteArray) (w : World) (hr0 : Kd.C Kd.string w A0 l0.length l0) (hc0 : l0.length ≤ c0) (h : strings_Join.f l0 a1 = some r) :
    Calls Tryd.prog 69 #[.slice A0 l0.length c0, .string a1] w fun e w' => e = .returned (.string r) ∧ Below w.heap.size w w' := by
  unfold strings_Join.f at h
  by_cases hs : l0.length ≤ 140737488355328 ∧ (Lib.join (l0.map (·.data.toList)) a1.data.toList).length ≤ 140737488355328
  · rw [if_pos hs] at h
    obtain rfl := Option.some.inj h
    cases l0 with
    | nil => exact (Tryd.strings_Join_none A0 c0 a1 w).mono fun e w' hh => ⟨by rw [hh.1]; rfl, hh.2 ▸ Below.refl _ _⟩
    | cons x t =>
      obtain ⟨ad, rfl, hc⟩ := Kd.at_string hr0 0 (by omega) (by simp only [List.length_cons]; omega)
      have hsp : ad.spot = none := by
        cases hh : ad.spot with
        | none => rfl
        | some p => exfalso; simp [World.cell?, Addr.add, hh] at hc; split at hc <;> simp at hc
      obtain ⟨bk, o, sp⟩ := ad
      obtain rfl : sp = none := hsp
      refine Tryd.strings_Join bk o c0 (x :: t) a1 w ?_ (World.block_lt_of_cell? w _ hc) hs.1 hc0 hs.2
      intro j y hy
      have hj : j < (x :: t).length := (List.getElem?_eq_some_iff.mp hy).1
      obtain ⟨ad', e', hc'⟩ := Kd.at_string hr0 (j : Int) (by omega) (by omega)
      obtain rfl := Option.some.inj e'
      rw [show rdOf ByteArray.empty (x :: t) (j : Int) = y by simp [rdOf, List.getD_eq_getElem?_getD, hy]] at hc'
      have : Addr.add ⟨bk, o, none⟩ ((j : Int)).toNat = ⟨bk, o + j, none⟩ := by
        simp only [Addr.add, Int.toNat_natCast]
        split
        · next h0 => subst h0; rfl
        · rfl
      rwa [this] at hc'
  · rw [if_neg hs] at h
    exact absurd h (by simp)

end Go.Proofs.YtcnkfnkdcjpkoaaDoorV
