/- slices.Compact at places answers the row cut to the elements that differ from the one ahead. Conditions: the row lies in the world; at most 2 to the 62 elements; the length is within the capacity. -/
import Derived.Test.YtcggonofidgchaaVC
namespace Go.Proofs.YtcggonofidgchaaV
set_option linter.unusedVariables false
set_option linter.unusedSimpArgs false
open Go.Proofs.YtcggonofidgchaaW.PrintWords Go.Proofs.YtcggonofidgchaaW.PrintLast Go.Proofs.YtcggonofidgchaaW.PrintMore Go.Shelf Go.RowKit Go.Lib Go.Sort Go.Proofs

attribute [local go_sem high] eqP39
theorem wr64 {z : Int} (h0 : -9223372036854775808 ≤ z) (h1 : z ≤ 9223372036854775807) : IntKind.i64.wrap z = z := by
  simp [IntKind.wrap, IntKind.bits, IntKind.signed]; omega
theorem cell39 {w W : World} {blk off : Nat} {d dk : Array (Int × Int)} (h : SWK encP 2 w blk off dk W) (hblk : blk < w.heap.size) (hH : HoldsK encP 2 w blk off d) (hs : dk.size = d.size) (i : Nat) (hi : i < dk.size) (o : Nat) (ho : o = off + i * 2) :
    (W.cell? ⟨blk, o, none⟩ = some (.int .i64 dk[i]!.1) ∧ W.frozen? ⟨blk, o, none⟩ = false) ∧ (W.cell? ⟨blk, o + 1, none⟩ = some (.int .i64 dk[i]!.2) ∧ W.frozen? ⟨blk, o + 1, none⟩ = false) := by
  subst ho
  have hk := h.holds hblk hH hs
  exact ⟨by have := hk.cell hi (c := 0) (by omega); exact this, by have := hk.cell hi (c := 1) (by omega); exact this⟩

set_option maxHeartbeats 8000000 in
set_option maxRecDepth 1000000 in
theorem compact_walk (blk off cap : Nat) (d : Array (Int × Int)) (w : World) (hH : HoldsK encP 2 w blk off d) (hblk : blk < w.heap.size) (hsz : d.size ≤ 4611686018427387904) (hcap : d.size ≤ cap) :
    Calls Try.prog 27 #[.slice (some ⟨blk, off, none⟩) d.size cap] w fun e w' => e = .returned (.slice (some ⟨blk, off, none⟩) (compactUpTo d d.size).length cap) ∧ ∃ dz : Array (Int × Int), dz.size = d.size ∧ (∀ j, j < (compactUpTo d d.size).length → (compactUpTo d d.size)[j]? = some dz[j]!) ∧ SWK encP 2 w blk off dz w' := by
  have mixed : Try.prog.follows .mixedOrders = true := by kernel_rfl
  have aE := Try.isAgg39
  have zE := Try.sizeOf39
  have same : (∀ j, j < d.size → keeps d j = true) → (compactUpTo d d.size).length = d.size ∧ (∀ j, j < (compactUpTo d d.size).length → (compactUpTo d d.size)[j]? = some d[j]!) := by
    intro hall
    have e : compactUpTo d d.size = d.toList := by rw [compactUpTo_all d _ hall, range_map_get]
    rw [e]
    refine ⟨by simp, fun j hj => ?_⟩
    have hj' : j < d.size := by simpa using hj
    rw [Array.getElem?_toList, getElem!_pos d j hj', Array.getElem?_eq_getElem hj']
  have HS := Aside0.mk same
  clear same
  have HH := Aside0.mk hH
  clear hH
  have HBk := Aside0.mk hblk
  clear hblk
  by_cases h2 : d.size < 2
  · go_enter Try.func27, Try.ntmps27
    go_wp2
    go_ret
    obtain ⟨e1, e2⟩ := HS.out (fun j hj => keeps_lt_one d j (by omega))
    exact ⟨by rw [e1]; rfl, d, rfl, e2, SWK.start HH.out⟩
  · go_enter Try.func27, Try.ntmps27
    go_wp2
    go_loopg [3] d.size (fun g s3 wr => ∃ k q : Nat, 1 ≤ k ∧ k ≤ d.size ∧ d.size - k ≤ g ∧ s3 = .int .i64 k ∧ wr = w.drewN q ∧ Aside0 (∀ j, j < k → keeps d j = true))
    case atStart => exact ⟨1, 0, Nat.le_refl _, by omega, by omega, rfl, rfl, Aside0.mk (keeps_lt_one d)⟩
    case round =>
      obtain ⟨k, q, hk1, hk, hg, rfl, rfl, A⟩ := hrel
      by_cases hlt : k < d.size
      · obtain ⟨⟨c10, f10⟩, c11, f11⟩ := cell39 ((SWK.start HH.out).drewN q) HBk.out HH.out rfl k hlt (off + k * 2) rfl
        obtain ⟨⟨c00, f00⟩, c01, f01⟩ := cell39 ((SWK.start HH.out).drewN q) HBk.out HH.out rfl (k - 1) (by omega) (off + (k - 1) * 2) rfl
        have HW := Aside0.mk ((SWK.start HH.out).drewN q)
        generalize hx : d[k]! = x at c10 c11
        generalize hy : d[k - 1]! = y at c00 c01
        have B := Aside0.mk (⟨hx, hy⟩ : d[k]! = x ∧ d[k - 1]! = y)
        clear hx hy
        obtain ⟨wq, hwq⟩ : ∃ W, W = w.drewN q := ⟨_, rfl⟩
        rw [← hwq] at c10 f10 c11 f11 c00 f00 c01 f01 HW ⊢
        have HQ := Aside0.mk hwq
        clear hwq
        have hkm : IntKind.i64.wrap ((k : Int) - 1) = ((k - 1 : Nat) : Int) := by rw [wr64 (by omega) (by omega)]; omega
        have hb1 : (((k - 1 : Nat) : Int) < (d.size : Int)) = True := eq_true (by omega)
        have hb2 : (k - 1 < d.size) = True := eq_true (by omega)
        have hgt : Try.prog.eqGuardType Try.prog.depth 39 = false := by kernel_rfl
        by_cases hdup : x = y
        · subst hdup
          go_wp2_with fail
          go_quiet_o (fail)
          go_wp2
          clear c10 f10 c11 f11 c00 f00 c01 f01 hkm hb1 hb2
          have HN := Aside0.mk (⟨HW.out.drewN nq, A.out, keeps_neg (by omega) (by rw [B.out.1, B.out.2])⟩ : SWK encP 2 w blk off d (wq.drewN nq) ∧ (∀ j, j < k → keeps d j = true) ∧ keeps d k = false)
          generalize wq.drewN nq = wn at HN ⊢
          go_loopg [3, 5] d.size (fun g s3 s5 wr => ∃ (kk k2 : Nat) (dk : Array (Int × Int)), s3 = .int .i64 kk ∧ s5 = .int .i64 k2 ∧ 1 ≤ k2 ∧ k + k2 ≤ d.size ∧ d.size - (k + k2) ≤ g ∧ Aside0 (SWK encP 2 w blk off dk wr ∧ CompInv d (k + k2) kk dk))
          case atStart => exact ⟨k, 1, d, rfl, rfl, Nat.le_refl _, by omega, by omega, Aside0.mk ⟨HN.out.1, CompInv.start HN.out.2.1 HN.out.2.2⟩⟩
          case round =>
            obtain ⟨kk, k2, dk, rfl, rfl, h1, hle, hg2, HI⟩ := hrel
            have hkk := HI.out.2.lt
            have hds := HI.out.2.size
            by_cases hlt2 : k + k2 < d.size
            · obtain ⟨⟨cm0, fm0⟩, cm1, fm1⟩ := cell39 HI.out.1 HBk.out HH.out hds (k + k2) (by omega) (off + k * 2 + k2 * 2) (by omega)
              obtain ⟨⟨cp0, fp0⟩, cp1, fp1⟩ := cell39 HI.out.1 HBk.out HH.out hds (k + k2 - 1) (by omega) (off + k * 2 + (k2 - 1) * 2) (by omega)
              obtain ⟨⟨ck0, fk0⟩, ck1, fk1⟩ := cell39 HI.out.1 HBk.out HH.out hds kk (by omega) (off + kk * 2) rfl
              rw [HI.out.2.high (k + k2) (by omega)] at cm0 cm1
              rw [HI.out.2.high (k + k2 - 1) (by omega)] at cp0 cp1
              generalize hu : d[k + k2]! = u at cm0 cm1
              generalize hv : d[k + k2 - 1]! = v at cp0 cp1
              generalize dk[kk]! = old at ck0 ck1
              have C := Aside0.mk (⟨hu, hv⟩ : d[k + k2]! = u ∧ d[k + k2 - 1]! = v)
              clear hu hv
              have hkm : IntKind.i64.wrap ((k2 : Int) - 1) = ((k2 - 1 : Nat) : Int) := by rw [wr64 (by omega) (by omega)]; omega
              have hb1 : (((k2 - 1 : Nat) : Int) < ((d.size - k : Nat) : Int)) = True := eq_true (by omega)
              have hb2 : (k2 - 1 < d.size - k) = True := eq_true (by omega)
              have hb3 : ((k2 : Int) < ((d.size - k : Nat) : Int)) = True := eq_true (by omega)
              have hb4 : (k2 < d.size - k) = True := eq_true (by omega)
              have hb5 : decide ((k2 : Int) < ((d.size - k : Nat) : Int)) = true := decide_eq_true (by omega)
              by_cases huv : u = v
              · subst huv
                go_wp2_with fail
                go_quiet_o (fail)
                go_wp2
                go_roundg (d.size - (k + (k2 + 1)))
                case measure => omega
                case rel => exact ⟨kk, k2 + 1, dk, rfl, by go_num, by omega, by omega, Nat.le_refl _, Aside0.mk ⟨HI.out.1.drewN nq, HI.out.2.skip (keeps_neg (by omega) (by rw [C.out.1, C.out.2]))⟩⟩
              · have hnb : (u.1 == v.1 && (u.2 == v.2)) = false := by rw [pair_dec, decide_eq_false huv]
                have hc1 : ((kk : Int) < (d.size : Int)) = True := eq_true (by omega)
                have hc2 : (kk < d.size) = True := eq_true (by omega)
                go_wp2_with fail
                go_quiet_o (fail)
                go_wp2
                go_roundg (d.size - (k + (k2 + 1)))
                case measure => omega
                case rel =>
                  refine ⟨kk + 1, k2 + 1, dk.setIfInBounds kk u, by go_num, by go_num, by omega, by omega, Nat.le_refl _, Aside0.mk ⟨?_, ?_⟩⟩
                  · have h := SWK.wrote (HI.out.1.drewN nq) HBk.out (kk * 2) (encP u) (by show kk * 2 + 2 ≤ _; omega) (flat_set dk kk (by omega) u)
                    exact h
                  · have := HI.out.2.keep hlt2 (keeps_pos (by rw [C.out.1, C.out.2]; exact huv))
                    rwa [C.out.1] at this
            · have hend : k + k2 = d.size := by omega
              have hb5 : decide ((k2 : Int) < ((d.size - k : Nat) : Int)) = false := decide_eq_false (by omega)
              have hcl : ∀ ty, (Builtin.clear_ #[30] ty #[.slice (some ⟨blk, off + kk * 2, none⟩) (d.size - kk) (cap - kk)]).run Try.prog wr = .ok (.tuple #[]) (wr.setCells blk (off + kk * 2) (zs ((d.size - kk) * 2))) :=
                fun ty => clear39 wr ty blk (off + kk * 2) (d.size - kk) (cap - kk) (by omega) (flatK encP 2 dk) off (kk * 2) (HI.out.1.holds HBk.out HH.out hds) rfl (by rw [size_flatK]; omega)
              go_wp2
              go_ret
              have hI := HI.out.2
              rw [hend] at hI
              refine ⟨by rw [hI.len]; rfl, zeroed dk kk, by rw [zeroed_size, hds], fun j hj => ?_, ?_⟩
              · rw [hI.len] at hj
                rw [hI.low j hj, zeroed_get dk kk j (by omega), if_pos hj]
              · have h := SWK.wrote HI.out.1 HBk.out (kk * 2) (zs ((dk.size - kk) * 2)) (by simp [zs]; omega) (flat_zero dk kk (by omega))
                rw [hds] at h
                exact h
        · have hnb : (x.1 == y.1 && (x.2 == y.2)) = false := by rw [pair_dec, decide_eq_false hdup]
          go_wp2_with fail
          go_quiet_o (fail)
          go_wp2
          go_roundg (d.size - (k + 1))
          case measure => omega
          case rel =>
            refine ⟨k + 1, q + nq, by omega, by omega, Nat.le_refl _, by go_num, by rw [HQ.out, World.drewN_drewN], Aside0.mk fun j hj => ?_⟩
            by_cases e : j = k
            · subst e
              exact keeps_pos (by rw [B.out.1, B.out.2]; exact hdup)
            · exact A.out j (by omega)
      · have : k = d.size := by omega
        subst this
        go_wp2
        go_ret
        obtain ⟨e1, e2⟩ := HS.out A.out
        exact ⟨by rw [e1]; rfl, d, rfl, e2, (SWK.start HH.out).drewN q⟩

end Go.Proofs.YtcggonofidgchaaV
