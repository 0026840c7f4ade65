/- strings.LastIndexAny at the two signs, of any string, in the form of the printed functions (.f, .calls). Conditions: fewer than 4294967281 bytes; the start-up code's tables lie in the world. -/
import Derived.Test.YtcnkfnkdcjpkoaaDoorVO
import Derived.Test.YtcnkfnkdcjpkoaaDoorVP
namespace Go.Proofs.YtcnkfnkdcjpkoaaDoorV
open Go.RowKit Go.Lib Go.Shelf Go.Proofs.YtcnkfnkdcjpkoaaDoorW.PrintWords

def strings_LastIndexAny.f (s c : ByteArray) : Option Int := if c = pmS ∧ s.size < 4294967281 then some (lastUpto s.data.toList s.size) else none
theorem strings_LastIndexAny.calls (a0 a1 : ByteArray) (r : Int) (w : World) (h : strings_LastIndexAny.f a0 a1 = some r) (ht : Tabs w) :
    Calls Tryd.prog 63 #[.string a0, .string a1] w fun e w' => e = .returned (.int .i64 r) ∧ Below w.heap.size w w' := by
  unfold strings_LastIndexAny.f at h
  split at h
  · next hs =>
    obtain rfl := Option.some.inj h
    obtain ⟨rfl, hs⟩ := hs
    by_cases h1 : a0.size = 1
    · exact last_one a0 w h1
    · by_cases h8 : a0.size ≤ 8
      · exact last_short a0 w ht h1 h8
      · refine (last_long a0 w (by omega) hs).mono ?_
        rintro e w' ⟨h1, h2⟩
        refine ⟨h1, ?_⟩
        rw [h2]
        exact ((Below.refl _ _).alloc (Nat.le_refl _) _).alloc (by simp) _
  · cases h

end Go.Proofs.YtcnkfnkdcjpkoaaDoorV
