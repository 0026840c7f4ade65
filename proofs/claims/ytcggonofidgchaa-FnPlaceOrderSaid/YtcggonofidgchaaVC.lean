/- What the walk of slices.Compact at places leans on: the comparison of two places, cells written into a row of places, the builtin clear on such a row. Conditions: those that each theorem names. -/
import Derived.Test.YtcggonofidgchaaVS
import Derived.Shelf.SlSortCmp.NoneTotal
import Derived.Shelf.SlicesE.Equal
import Derived.Lib.SlicesCompact
namespace Go.Proofs.YtcggonofidgchaaV
set_option linter.unusedVariables false
set_option linter.unusedSimpArgs false
open Go.Proofs.YtcggonofidgchaaW.PrintWords Go.Proofs.YtcggonofidgchaaW.PrintLast Go.Proofs.YtcggonofidgchaaW.PrintMore Go.Shelf Go.RowKit Go.Lib Go.Sort Go.Proofs

theorem eqP39 (d : Nat) (w : World) (x0 y0 : Int) (x1 y1 : Int) :
    (Op.equalIn (d + 2) 39 (.agg #[.int .i64 x0, .int .i64 x1]) (.agg #[.int .i64 y0, .int .i64 y1])).run Try.prog w = .ok (x0 == y0 && (x1 == y1)) w := by
  refine eqA_of Try.underlying39 (by kernel_rfl) ?_
  refine eqf_cons (by rfl) (by go_simp; rfl) (by go_simp; rfl) (by go_simp) ?_
  exact eqf_last (by rfl) (by go_simp; rfl) (by go_simp; rfl) (by go_simp)

theorem pair_dec (x y : Int × Int) : (x.1 == y.1 && (x.2 == y.2)) = decide (x = y) := by
  by_cases h : x = y
  · subst h; simp
  · rw [decide_eq_false h]
    by_cases h1 : x.1 = y.1
    · have : ¬ x.2 = y.2 := fun e => h (Prod.ext h1 e)
      simp [this]
    · simp [h1]

theorem eql39 (x y : Int × Int) (w : World) : Sem.run Try.prog (binOp .eql 39 (.agg (encP x).toArray) (.agg (encP y).toArray)) w = .ok (.bool (decide (x = y))) w := by
  rw [run_eql_struct]
  have := eqP39 9998 w x.1 y.1 x.2 y.2
  show Result.andThen (Sem.run Try.prog (Op.equalIn (9998 + 2) 39 _ _) w) _ = _
  rw [show (Value.agg (encP x).toArray) = .agg #[.int .i64 x.1, .int .i64 x.2] from rfl, show (Value.agg (encP y).toArray) = .agg #[.int .i64 y.1, .int .i64 y.2] from rfl, this, pair_dec]
  rfl

theorem neq39 (x y : Int × Int) (w : World) : Sem.run Try.prog (binOp .neq 39 (.agg (encP x).toArray) (.agg (encP y).toArray)) w = .ok (.bool (!decide (x = y))) w := by
  rw [run_neq_struct]
  have := eqP39 9998 w x.1 y.1 x.2 y.2
  show Result.andThen (Sem.run Try.prog (Op.equalIn (9998 + 2) 39 _ _) w) _ = _
  rw [show (Value.agg (encP x).toArray) = .agg #[.int .i64 x.1, .int .i64 x.2] from rfl, show (Value.agg (encP y).toArray) = .agg #[.int .i64 y.1, .int .i64 y.2] from rfl, this, pair_dec]
  rfl

theorem grd39 (op : BinOp) (a b : Operand) (x y : Int × Int) (w : World) : Sem.run Try.prog (eqGuard op 39 a b (.agg (encP x).toArray) (.agg (encP y).toArray)) w = .ok () w :=
  run_eqGuard_agg w op 39 a b _ _ (by kernel_rfl)

/-- Cells written into the row. -/
theorem SWK.wrote {w0 W : World} {blk off : Nat} {dk dk' : Array (Int × Int)} (h : SWK encP 2 w0 blk off dk W) (hblk : blk < w0.heap.size) (s : Nat) (vs : List Value) (hs : s + vs.length ≤ dk.size * 2) (hf : setMany (flatK encP 2 dk) s vs = flatK encP 2 dk') :
    SWK encP 2 w0 blk off dk' (W.setCells blk (off + s) vs) := by
  obtain ⟨n, os, rfl⟩ := h
  refine ⟨n, os, ?_⟩
  unfold sortWorldK
  rw [← putRowK_grow encP 2 (Sort.ahead w0 n) os blk off dk hblk, ← putRowK_grow encP 2 (Sort.ahead w0 n) os blk off dk' hblk]
  unfold putRowK
  rw [setCells_putRow _ _ _ _ _ _ (by rw [size_flatK]; exact hs), hf]

theorem encP_get (x : Int × Int) (c : Nat) (hc : c < 2) : (encP x)[c]! = if c = 0 then .int .i64 x.1 else .int .i64 x.2 := by
  rcases (show c = 0 ∨ c = 1 by omega) with rfl | rfl <;> rfl

theorem flat_set (d : Array (Int × Int)) (i : Nat) (hi : i < d.size) (x : Int × Int) : setMany (flatK encP 2 d) (i * 2) (encP x) = flatK encP 2 (d.setIfInBounds i x) := by
  refine ext_get! (by simp) fun t ht => ?_
  have ht' : t < d.size * 2 := by simpa using ht
  have hl : (encP x).length = 2 := rfl
  rw [get_setMany _ _ _ t (by simpa using ht'), get_flatK _ _ _ t ht', get_flatK _ _ _ t (by simpa using ht'), hl]
  by_cases c : t / 2 = i
  · rw [if_pos (by omega), c]
    have e1 : (d.setIfInBounds i x)[i]! = x := by simp [hi]
    rw [e1, show t - i * 2 = t % 2 by omega]
  · rw [if_neg (by omega)]
    have e1 : (d.setIfInBounds i x)[t / 2]! = d[t / 2]! := by
      have h2 : t / 2 < d.size := by omega
      simp [Array.getElem!_eq_getD, Array.getD, Array.getElem_setIfInBounds, Ne.symm c, h2]
    rw [e1]

def zs (n : Nat) : List Value := List.replicate n (.int .i64 0)
/-- The row behind clear. -/
def zeroed (d : Array (Int × Int)) (k : Nat) : Array (Int × Int) := (Array.range d.size).map fun i => if i < k then d[i]! else (0, 0)
theorem zeroed_size (d : Array (Int × Int)) (k : Nat) : (zeroed d k).size = d.size := by simp [zeroed]
theorem zeroed_get (d : Array (Int × Int)) (k i : Nat) (hi : i < d.size) : (zeroed d k)[i]! = if i < k then d[i]! else (0, 0) := by simp [zeroed, hi]
theorem flat_zero (d : Array (Int × Int)) (k : Nat) (hk : k ≤ d.size) : setMany (flatK encP 2 d) (k * 2) (zs ((d.size - k) * 2)) = flatK encP 2 (zeroed d k) := by
  refine ext_get! (by simp [zeroed_size]) fun t ht => ?_
  have ht' : t < d.size * 2 := by simpa using ht
  have hl : (zs ((d.size - k) * 2)).length = (d.size - k) * 2 := by simp [zs]
  rw [get_setMany _ _ _ t (by simpa using ht'), get_flatK _ _ _ t ht', get_flatK _ _ _ t (by rw [zeroed_size]; exact ht'), hl, zeroed_get d k _ (by omega)]
  by_cases c : t / 2 < k
  · rw [if_neg (by omega), if_pos c]
  · rw [if_pos (by omega), if_neg c, encP_get _ _ (by omega)]
    have : (zs ((d.size - k) * 2))[t - k * 2]! = .int .i64 0 := by
      rw [getElem!_pos _ _ (by rw [hl]; omega)]; simp [zs]
    rw [this]
    split <;> rfl

theorem clear39 (w : World) (ty : TypeId) (b o n c : Nat) (hn : 0 < n) (F : Array Value) (off s : Nat) (hH : Holds id w b off F) (ho : o = off + s) (hs : s + n * 2 ≤ F.size) :
    (Builtin.clear_ #[30] ty #[.slice (some ⟨b, o, none⟩) n c]).run Try.prog w = .ok (.tuple #[]) (w.setCells b o (zs (n * 2))) := by
  subst ho
  have hz : (Value.agg #[.int .i64 0, .int .i64 0]).cells = #[.int .i64 0, .int .i64 0] := rfl
  have hzc : (Builtin.zeroCells (Value.agg #[.int .i64 0, .int .i64 0]).cells n).toList = zs (n * 2) := by
    rw [hz]
    apply List.ext_getElem
    · simp [Builtin.zeroCells, zs]
    · intro i h1 h2
      simp only [Builtin.zeroCells, Array.toList_map, Array.toList_range, List.getElem_map, List.getElem_range, zs, List.getElem_replicate]
      rcases (show i % 2 = 0 ∨ i % 2 = 1 by omega) with e | e
      · show (#[Value.int .i64 0, .int .i64 0] : Array Value)[i % 2]! = _
        rw [e]; rfl
      · show (#[Value.int .i64 0, .int .i64 0] : Array Value)[i % 2]! = _
        rw [e]; rfl
  have hst := stores_of_holds Try.prog hH s (zs (n * 2)) (by simp [zs]; omega) (by intro v hv; rw [List.eq_of_mem_replicate hv]; rfl)
  obtain ⟨m, rfl⟩ : ∃ m, n = m + 1 := ⟨n - 1, by omega⟩
  simp [Builtin.clear_, run_underlying Try.underlying30, Try.zeroValue39, hzc, hst]

end Go.Proofs.YtcggonofidgchaaV
