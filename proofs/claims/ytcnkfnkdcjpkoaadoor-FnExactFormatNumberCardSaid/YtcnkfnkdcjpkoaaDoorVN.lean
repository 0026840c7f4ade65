/- The library's functions that the laws of the law FnExactFormatNumber reaches, in the form of the printed functions (.f, .calls), out of the shelf's contracts. Tabs: what the start-up code has laid. -/
import Derived.Test.YtcnkfnkdcjpkoaaDoorShelf
import Derived.Test.YtcnkfnkdcjpkoaaDoorWWords
import Derived.Test.YtcnkfnkdcjpkoaaDoorWMore
import Derived.Lib.AppendIntMem
namespace Go.Proofs.YtcnkfnkdcjpkoaaDoorVN
open Go.RowKit Go.Proofs.YtcnkfnkdcjpkoaaDoorW.PrintWords

/-- What strconv.Itoa needs of the start-up code's variables: the table of powers. -/
structure Tabs (w : World) : Prop where
  pow : Lib.TabIs Tryd.prog w "internal/strconv.uint64pow10" .u64 Lib.pow10Tab

theorem Tabs.below {w w' : World} (h : Tabs w) (hb : Below w.heap.size w w') : Tabs w' where
  pow := by
    have hp := h.pow
    unfold Lib.TabIs World.var? at hp ⊢
    have e : Tryd.prog.globalNamed "internal/strconv.uint64pow10" = some 1 := by kernel_rfl
    rw [e] at hp ⊢
    simp only [Option.bind_some] at hp ⊢
    have hlt : 1 < w.heap.size := by
      apply Nat.lt_of_not_le
      intro hn
      rw [Array.getElem?_eq_none hn] at hp
      simp at hp
    rw [hb.block 1 hlt]
    exact hp

def strconv_Itoa.f (n : Int) : Option ByteArray := if -9223372036854775808 ≤ n ∧ n ≤ 9223372036854775807 then some ⟨(Lib.itoa n).toArray⟩ else none
theorem strconv_Itoa.calls (a0 : Int) (r : ByteArray) (w : World) (h : strconv_Itoa.f a0 = some r) (ht : Tabs w) :
    Calls Tryd.prog 56 #[.int .i64 a0] w fun e w' => e = .returned (.string r) ∧ Below w.heap.size w w' := by
  unfold strconv_Itoa.f at h
  split at h
  · next hs =>
    obtain rfl := Option.some.inj h
    refine (Tryd.strconv_Itoa a0 hs.1 hs.2 w ht.pow).mono ?_
    rintro e w' ⟨rfl, k, os, rfl⟩
    exact ⟨rfl, Go.Lib.below_grow _ w (Nat.le_refl _) k os⟩
  · cases h

end Go.Proofs.YtcnkfnkdcjpkoaaDoorVN
