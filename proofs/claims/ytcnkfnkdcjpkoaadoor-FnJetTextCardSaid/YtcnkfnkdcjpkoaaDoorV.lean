/- The library's functions that the laws of texts reach, in the form of the printed functions (.f, .calls), out of the shelf's contracts. Tabs: what the start-up code has laid. -/
import Derived.Test.YtcnkfnkdcjpkoaaDoorShelf
import Derived.Test.YtcnkfnkdcjpkoaaDoorWWords
import Derived.Test.YtcnkfnkdcjpkoaaDoorWMore
import Derived.Lib.RabinKarpLaws
import Derived.Lib.AppendIntMem
namespace Go.Proofs.YtcnkfnkdcjpkoaaDoorV
open Go.RowKit Go.Proofs.YtcnkfnkdcjpkoaaDoorW.PrintWords

/-- What a text's law needs of the start-up code's variables: the table of powers, the two tables of utf8, one whole number. -/
structure Tabs (w : World) : Prop where
  pow : Lib.TabIs Tryd.prog w "internal/strconv.uint64pow10" .u64 Lib.pow10Tab
  utf : Lib.Utf8Tabs 2 3 w
  max : ∃ m, w.cell? ⟨0, 0, none⟩ = some (.int .i64 m)

theorem cell_below {B : Nat} {w w' : World} (hb : Below B w w') {b o : Nat} (hlt : b < B) {v : Value} (h : w.cell? ⟨b, o, none⟩ = some v) : w'.cell? ⟨b, o, none⟩ = some v := by
  unfold World.cell? at h ⊢
  rw [hb.block b hlt]
  exact h

theorem Tabs.big {w : World} (h : Tabs w) : 3 < w.heap.size := World.block_lt_of_cell? w _ (h.utf.2 0 (by omega)).1

theorem Tabs.below {w w' : World} (h : Tabs w) (hb : Below w.heap.size w w') : Tabs w' where
  pow := by
    have hp := h.pow
    have hg := h.big
    unfold Lib.TabIs World.var? at hp ⊢
    have e : Tryd.prog.globalNamed "internal/strconv.uint64pow10" = some 1 := by kernel_rfl
    rw [e] at hp ⊢
    simp only [Option.bind_some] at hp ⊢
    rw [hb.block 1 (by omega)]
    exact hp
  utf := by
    have hg := h.big
    exact ⟨fun c hc => cell_below hb (by omega) (h.utf.1 c hc), fun i hi => ⟨cell_below hb hg (h.utf.2 i hi).1, cell_below hb hg (h.utf.2 i hi).2⟩⟩
  max := by
    obtain ⟨m, hm⟩ := h.max
    exact ⟨m, cell_below hb (by have := h.big; omega) hm⟩

def strconv_Itoa.f (n : Int) : Option ByteArray := if -9223372036854775808 ≤ n ∧ n ≤ 9223372036854775807 then some ⟨(Lib.itoa n).toArray⟩ else none
theorem strconv_Itoa.calls (a0 : Int) (r : ByteArray) (w : World) (h : strconv_Itoa.f a0 = some r) (ht : Tabs w) :
    Calls Tryd.prog 56 #[.int .i64 a0] w fun e w' => e = .returned (.string r) ∧ Below w.heap.size w w' := by
  unfold strconv_Itoa.f at h
  split at h
  · next hs =>
    obtain rfl := Option.some.inj h
    refine (Tryd.strconv_Itoa a0 hs.1 hs.2 w ht.pow).mono ?_
    rintro e w' ⟨rfl, k, os, rfl⟩
    exact ⟨rfl, Go.Lib.below_grow _ w (Nat.le_refl _) k os⟩
  · cases h

def strings_TrimRight.f (s c : ByteArray) : Option ByteArray := if s.size ≤ 9223372036854775807 ∧ c = ⟨#[48]⟩ then some ⟨(Lib.trimRightB s.data.toList 48).toArray⟩ else none
theorem strings_TrimRight.calls (a0 a1 : ByteArray) (r : ByteArray) (w : World) (h : strings_TrimRight.f a0 a1 = some r) :
    Calls Tryd.prog 59 #[.string a0, .string a1] w fun e w' => e = .returned (.string r) ∧ Drawn0 w w' := by
  unfold strings_TrimRight.f at h
  split at h
  · next hs =>
    obtain rfl := Option.some.inj h
    obtain ⟨hs, rfl⟩ := hs
    refine (Tryd.strings_TrimRight_one a0 48 (by decide) w hs).mono ?_
    rintro e w' ⟨rfl, rfl⟩
    exact ⟨rfl, Drawn0.refl _⟩
  · cases h

def strings_TrimPrefix.f (s p : ByteArray) : Option ByteArray := some ⟨(Lib.trimPrefix s.data.toList p.data.toList).toArray⟩
theorem strings_TrimPrefix.calls (a0 a1 : ByteArray) (r : ByteArray) (w : World) (h : strings_TrimPrefix.f a0 a1 = some r) :
    Calls Tryd.prog 62 #[.string a0, .string a1] w fun e w' => e = .returned (.string r) ∧ Drawn0 w w' := by
  obtain rfl := Option.some.inj h
  refine (Tryd.strings_TrimPrefix a0 a1 w).mono ?_
  rintro e w' ⟨rfl, rfl⟩
  exact ⟨rfl, Drawn0.refl _⟩

def strings_Cut.f (s p : ByteArray) : Option (ByteArray × ByteArray × Bool) :=
  if s.size < 4294967281 then some (⟨(Lib.cut s.data.toList p.data.toList).1.toArray⟩, ⟨(Lib.cut s.data.toList p.data.toList).2.1.toArray⟩, (Lib.cut s.data.toList p.data.toList).2.2) else none
theorem strings_Cut.calls (a0 a1 : ByteArray) (r1 r2 : ByteArray) (r3 : Bool) (w : World) (h : strings_Cut.f a0 a1 = some (r1, r2, r3)) (ht : Tabs w) :
    Calls Tryd.prog 61 #[.string a0, .string a1] w fun e w' => e = .returned (.tuple #[.string r1, .string r2, .bool r3]) ∧ Below w.heap.size w w' := by
  unfold strings_Cut.f at h
  split at h
  · next hs =>
    simp only [Option.some.injEq, Prod.mk.injEq] at h
    obtain ⟨rfl, rfl, rfl⟩ := h
    obtain ⟨m, hm⟩ := ht.max
    refine (Tryd.strings_Cut a0 a1 m w hs hm).mono ?_
    rintro e w' ⟨rfl, n, rfl⟩
    exact ⟨rfl, pw_below_drewN (Below.refl _ _) n⟩
  · cases h

def splitV (s p : ByteArray) : List ByteArray := Lib.splitB p 0 (Lib.countB s p) s
def strings_Split.f (s p : ByteArray) : Option (List ByteArray) := if s.size < 4294967281 ∧ 1 ≤ p.size ∧ (splitV s p).length = Lib.countB s p + 1 ∧ Lib.countB s p + 1 ≤ 9223372036854775807 then some (splitV s p) else none
theorem strings_Split.calls (a0 a1 : ByteArray) (r : List ByteArray) (w : World) (h : strings_Split.f a0 a1 = some r) (ht : Tabs w) :
    Calls Tryd.prog 57 #[.string a0, .string a1] w fun e w' => ∃ v0_ : Value, e = .returned (v0_) ∧ Kd.R Kd.string 9 w' w.heap.size (fun _ => True) v0_ r ∧ Below w.heap.size w w' := by
  unfold strings_Split.f at h
  split at h
  · next hs =>
    obtain rfl := Option.some.inj h
    obtain ⟨hs, h1, hl, hm⟩ := hs
    obtain ⟨m, hm'⟩ := ht.max
    refine (Tryd.strings_Split a0 a1 m w hs hm' h1).mono ?_
    rintro e w' ⟨rfl, rfl⟩
    refine ⟨_, rfl, ?_, (Below.refl _ w).alloc (Nat.le_refl _) _⟩
    refine Kd.R_of_own (enc := Value.string) (h1 := fun _ => rfl) ?_ (fun _ _ => trivial)
    have h2 := World.ownsRow_lit (base := w.heap.size) (e := 9) (size := 1) w ((splitV a0 a1).map Value.string).toArray (Lib.countB a0 a1 + 1) (Nat.le_refl _) (by unfold maxLen; omega) (by simp [hl])
    rw [hl]
    simpa [encs, splitV] using h2
  · cases h

end Go.Proofs.YtcnkfnkdcjpkoaaDoorV
