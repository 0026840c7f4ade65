/- The library's functions that the laws of texts reach, in the form of the printed functions (.f, .calls), out of the shelf's contracts. Tabs: what the start-up code has laid. -/
import Derived.Test.YtcnkfnkdcjpkoaaDoorShelf
import Derived.Test.YtcnkfnkdcjpkoaaDoorWWords
import Derived.Test.YtcnkfnkdcjpkoaaDoorWMore
import Derived.Lib.RabinKarpLaws
namespace Go.Proofs.YtcnkfnkdcjpkoaaDoorVS
open Go.RowKit Go.Proofs.YtcnkfnkdcjpkoaaDoorW.PrintWords

/-- What strings.Split needs of the start-up code's variables: one whole number. -/
structure Tabs (w : World) : Prop where
  max : ∃ m, w.cell? ⟨0, 0, none⟩ = some (.int .i64 m)

theorem cell_below {B : Nat} {w w' : World} (hb : Below B w w') {b o : Nat} (hlt : b < B) {v : Value} (h : w.cell? ⟨b, o, none⟩ = some v) : w'.cell? ⟨b, o, none⟩ = some v := by
  unfold World.cell? at h ⊢
  rw [hb.block b hlt]
  exact h

theorem Tabs.below {w w' : World} (h : Tabs w) (hb : Below w.heap.size w w') : Tabs w' where
  max := by
    obtain ⟨m, hm⟩ := h.max
    exact ⟨m, cell_below hb (World.block_lt_of_cell? w _ hm) hm⟩

def splitV (s p : ByteArray) : List ByteArray := Lib.splitB p 0 (Lib.countB s p) s
def strings_Split.f (s p : ByteArray) : Option (List ByteArray) := if s.size < 4294967281 ∧ 1 ≤ p.size ∧ (splitV s p).length = Lib.countB s p + 1 ∧ Lib.countB s p + 1 ≤ 9223372036854775807 then some (splitV s p) else none
theorem strings_Split.calls (a0 a1 : ByteArray) (r : List ByteArray) (w : World) (h : strings_Split.f a0 a1 = some r) (ht : Tabs w) :
    Calls Tryd.prog 57 #[.string a0, .string a1] w fun e w' => ∃ v0_ : Value, e = .returned (v0_) ∧ Kd.R Kd.string 9 w' w.heap.size (fun _ => True) v0_ r ∧ Below w.heap.size w w' := by
  unfold strings_Split.f at h
  split at h
  · next hs =>
    obtain rfl := Option.some.inj h
    obtain ⟨hs, h1, hl, hm⟩ := hs
    obtain ⟨m, hm'⟩ := ht.max
    refine (Tryd.strings_Split a0 a1 m w hs hm' h1).mono ?_
    rintro e w' ⟨rfl, rfl⟩
    refine ⟨_, rfl, ?_, (Below.refl _ w).alloc (Nat.le_refl _) _⟩
    refine Kd.R_of_own (enc := Value.string) (h1 := fun _ => rfl) ?_ (fun _ _ => trivial)
    have h2 := World.ownsRow_lit (base := w.heap.size) (e := 9) (size := 1) w ((splitV a0 a1).map Value.string).toArray (Lib.countB a0 a1 + 1) (Nat.le_refl _) (by unfold maxLen; omega) (by simp [hl])
    rw [hl]
    simpa [encs, splitV] using h2
  · cases h

end Go.Proofs.YtcnkfnkdcjpkoaaDoorVS
