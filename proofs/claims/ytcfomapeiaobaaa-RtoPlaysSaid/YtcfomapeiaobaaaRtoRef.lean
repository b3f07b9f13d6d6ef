/- Contracts of layer 17's document's answer (transomref17.Rto). -/
import Derived.Test.YtcfomapeiaobaaaRto2
set_option linter.unusedVariables false
set_option linter.unusedSimpArgs false
set_option linter.unusedSectionVars false
namespace Go.Proofs.Ytcfomapeiaobaaa
open Go.RowKit

set_option maxHeartbeats 1000000 in
theorem ref_sample_core (g : Nat) (c : RCf) (s : RSt) (took : Int) (w : World) (h : RAt w 33 g c s) (hc : c.ok) (hs : s.ok c) (ht : ¬ rBad took) :
    Calls Try.prog 18 #[.pointer (some ⟨g, 0, none⟩), .int .i64 took] w fun r w' => r = .returned (.int .i64 0) ∧ RAt w' 33 g c (rSample c s took) ∧ w.grownBy w' (some g) := by
  have k0 := Blk.cell h 0
  have k1 := Blk.cell h 1
  have k2 := Blk.cell h 2
  have k4 := Blk.cell h 4
  have k5 := Blk.cell h 5
  have k6 := Blk.cell h 6
  have k7 := Blk.cell h 7
  have f4 := Blk.frozen h 4
  have f5 := Blk.frozen h 5
  have f6 := Blk.frozen h 6
  have f7 := Blk.frozen h 7
  obtain ⟨sm_, sm, va, wait, tried⟩ := s
  obtain ⟨first, least, most, tries⟩ := c
  simp [rCells] at k0 k1 k2 k4 k5 k6 k7
  obtain ⟨b1, b2, b3, b4, b5, b6, b7, b8⟩ := hs
  obtain ⟨d1, d2, d3, d4, d5, d6⟩ := hc
  simp only at b1 b2 b3 b4 b5 b6 b7 b8 d1 d2 d3 d4 d5 d6
  unfold rBad at ht
  have t1 : 0 ≤ took := by omega
  have t2 : took ≤ 1099511627776 := by omega
  have hl : (least == 0) = false := by rw [beq_eq_false_iff_ne]; omega
  clear ht
  have H := Lib.hid h
  clear h
  cases sm_
  · have hfin : rSample ⟨first, least, most, tries⟩ ⟨false, sm, va, wait, tried⟩ took = ⟨true, 8 * took, 2 * took, min (max (took + max (2 * took) 1) least) most, tried⟩ := by
      simp only [rSample, rWait, if_true]
      rw [Int.mul_ediv_cancel_left _ (by decide)]
    have hA := blk9_6 (blk9_5 (blk9_4 H.out (.bool true)) (.int .i64 (8 * took))) (.int .i64 (2 * took))
    have hG := only_set (only_set (only_set (World.grownBy.refl w (some g)) 4 (.bool true)) 5 (.int .i64 (8 * took))) 6 (.int .i64 (2 * took))
    have Hfin := Lib.hid hfin
    clear hfin
    have HA := Lib.hid hA
    clear hA
    have HG := Lib.hid hG
    clear hG
    go_enter Try.func18, Try.ntmps18
    go_wp2
    generalize ((((w.setCell ⟨g, 4, none⟩ (.bool true)).setCell ⟨g, 5, none⟩ (.int .i64 (8 * took))).setCell ⟨g, 6, none⟩ (.int .i64 (2 * took)))) = W at *
    have m1 : W.cell? ⟨g, 1, none⟩ = _ := Blk.cell HA.out 1
    have m2 : W.cell? ⟨g, 2, none⟩ = _ := Blk.cell HA.out 2
    have m5 : W.cell? ⟨g, 5, none⟩ = _ := Blk.cell HA.out 5
    have m6 : W.cell? ⟨g, 6, none⟩ = _ := Blk.cell HA.out 6
    have m7 : W.cell? ⟨g, 7, none⟩ = _ := Blk.cell HA.out 7
    have mf5 := Blk.frozen HA.out 5
    have mf7 := Blk.frozen HA.out 7
    simp at m1 m2 m5 m6 m7
    go_still_tail 26, (by kernel_rfl)
    go_wp2
    go_ret
    refine ⟨rfl, ?_, only_drew (only_set HG.out 7 _)⟩
    rw [Hfin.out]
    exact Blk.drew (blk9_7 HA.out _)
  · have hab := rAbs_bd (took - sm / 8) 1099511627776 (by omega) (by omega)
    by_cases hd : took - sm / 8 < 0
    · obtain ⟨v2, hv2⟩ : ∃ v2, va - va / 4 + (-(took - sm / 8)) = v2 := ⟨_, rfl⟩
      obtain ⟨s2, hs2⟩ : ∃ s2, sm - sm / 8 + took = s2 := ⟨_, rfl⟩
      have hfin : rSample ⟨first, least, most, tries⟩ ⟨true, sm, va, wait, tried⟩ took = ⟨true, s2, v2, min (max (s2 / 8 + max v2 1) least) most, tried⟩ := by
        have e2 : va - va / 4 + rAbs (took - sm / 8) = v2 := by unfold rAbs; omega
        simp only [rSample, rWait, Bool.true_eq_false, if_false, hs2, e2]
      unfold rAbs at hab
      have q1 : 0 ≤ s2 := by omega
      have q2 : s2 ≤ 8796093022215 := by omega
      have q3 : 0 ≤ v2 := by omega
      have q4 : v2 ≤ 4398046511107 := by omega
      have Hfin := Lib.hid hfin
      clear hfin
      have HV := Lib.hid hv2
      have HS := Lib.hid hs2
      clear hv2 hs2 hab
      go_enter Try.func18, Try.ntmps18
      go_wp2
      go_still_tail 15, (by kernel_rfl)
      go_wp2
      rw [HV.out]
      have hA := Blk.drew (blk9_6 H.out (.int .i64 v2))
      have hG := only_drew (only_set (World.grownBy.refl w (some g)) 6 (.int .i64 v2))
      have HA := Lib.hid hA
      clear hA
      have HG := Lib.hid hG
      clear hG
      generalize (w.setCell ⟨g, 6, none⟩ (.int .i64 v2)).drew = W at *
      have m1 : W.cell? ⟨g, 1, none⟩ = _ := Blk.cell HA.out 1
      have m2 : W.cell? ⟨g, 2, none⟩ = _ := Blk.cell HA.out 2
      have m5 : W.cell? ⟨g, 5, none⟩ = _ := Blk.cell HA.out 5
      have m6 : W.cell? ⟨g, 6, none⟩ = _ := Blk.cell HA.out 6
      have m7 : W.cell? ⟨g, 7, none⟩ = _ := Blk.cell HA.out 7
      have mf5 := Blk.frozen HA.out 5
      have mf7 := Blk.frozen HA.out 7
      simp at m1 m2 m5 m6 m7
      clear k0 k1 k2 k4 k5 k6 k7 f4 f5 f6 f7
      go_still_tail 15, (by kernel_rfl)
      go_wp2
      rw [HS.out]
      have hA := Blk.drew (blk9_5 HA.out (.int .i64 s2))
      have hG := only_drew (only_set HG.out 5 (.int .i64 s2))
      clear HA HG m1 m2 m5 m6 m7 mf5 mf7
      have HA := Lib.hid hA
      clear hA
      have HG := Lib.hid hG
      clear hG
      generalize (W.setCell ⟨g, 5, none⟩ (.int .i64 s2)).drew = V at *
      have p1 : V.cell? ⟨g, 1, none⟩ = _ := Blk.cell HA.out 1
      have p2 : V.cell? ⟨g, 2, none⟩ = _ := Blk.cell HA.out 2
      have p5 : V.cell? ⟨g, 5, none⟩ = _ := Blk.cell HA.out 5
      have p6 : V.cell? ⟨g, 6, none⟩ = _ := Blk.cell HA.out 6
      have p7 : V.cell? ⟨g, 7, none⟩ = _ := Blk.cell HA.out 7
      have pf5 := Blk.frozen HA.out 5
      have pf7 := Blk.frozen HA.out 7
      simp at p1 p2 p5 p6 p7
      go_still_tail 26, (by kernel_rfl)
      go_wp2
      go_ret
      refine ⟨rfl, ?_, only_drew (only_set HG.out 7 _)⟩
      rw [Hfin.out]
      exact Blk.drew (blk9_7 HA.out _)
    · obtain ⟨v2, hv2⟩ : ∃ v2, va - va / 4 + (took - sm / 8) = v2 := ⟨_, rfl⟩
      obtain ⟨s2, hs2⟩ : ∃ s2, sm - sm / 8 + took = s2 := ⟨_, rfl⟩
      have hfin : rSample ⟨first, least, most, tries⟩ ⟨true, sm, va, wait, tried⟩ took = ⟨true, s2, v2, min (max (s2 / 8 + max v2 1) least) most, tried⟩ := by
        have e2 : va - va / 4 + rAbs (took - sm / 8) = v2 := by unfold rAbs; omega
        simp only [rSample, rWait, Bool.true_eq_false, if_false, hs2, e2]
      unfold rAbs at hab
      have q1 : 0 ≤ s2 := by omega
      have q2 : s2 ≤ 8796093022215 := by omega
      have q3 : 0 ≤ v2 := by omega
      have q4 : v2 ≤ 4398046511107 := by omega
      have Hfin := Lib.hid hfin
      clear hfin
      have HV := Lib.hid hv2
      have HS := Lib.hid hs2
      clear hv2 hs2 hab
      go_enter Try.func18, Try.ntmps18
      go_wp2
      go_still_tail 15, (by kernel_rfl)
      go_wp2
      rw [HV.out]
      have hA := Blk.drew (blk9_6 H.out (.int .i64 v2))
      have hG := only_drew (only_set (World.grownBy.refl w (some g)) 6 (.int .i64 v2))
      have HA := Lib.hid hA
      clear hA
      have HG := Lib.hid hG
      clear hG
      generalize (w.setCell ⟨g, 6, none⟩ (.int .i64 v2)).drew = W at *
      have m1 : W.cell? ⟨g, 1, none⟩ = _ := Blk.cell HA.out 1
      have m2 : W.cell? ⟨g, 2, none⟩ = _ := Blk.cell HA.out 2
      have m5 : W.cell? ⟨g, 5, none⟩ = _ := Blk.cell HA.out 5
      have m6 : W.cell? ⟨g, 6, none⟩ = _ := Blk.cell HA.out 6
      have m7 : W.cell? ⟨g, 7, none⟩ = _ := Blk.cell HA.out 7
      have mf5 := Blk.frozen HA.out 5
      have mf7 := Blk.frozen HA.out 7
      simp at m1 m2 m5 m6 m7
      clear k0 k1 k2 k4 k5 k6 k7 f4 f5 f6 f7
      go_still_tail 15, (by kernel_rfl)
      go_wp2
      rw [HS.out]
      have hA := Blk.drew (blk9_5 HA.out (.int .i64 s2))
      have hG := only_drew (only_set HG.out 5 (.int .i64 s2))
      clear HA HG m1 m2 m5 m6 m7 mf5 mf7
      have HA := Lib.hid hA
      clear hA
      have HG := Lib.hid hG
      clear hG
      generalize (W.setCell ⟨g, 5, none⟩ (.int .i64 s2)).drew = V at *
      have p1 : V.cell? ⟨g, 1, none⟩ = _ := Blk.cell HA.out 1
      have p2 : V.cell? ⟨g, 2, none⟩ = _ := Blk.cell HA.out 2
      have p5 : V.cell? ⟨g, 5, none⟩ = _ := Blk.cell HA.out 5
      have p6 : V.cell? ⟨g, 6, none⟩ = _ := Blk.cell HA.out 6
      have p7 : V.cell? ⟨g, 7, none⟩ = _ := Blk.cell HA.out 7
      have pf5 := Blk.frozen HA.out 5
      have pf7 := Blk.frozen HA.out 7
      simp at p1 p2 p5 p6 p7
      go_still_tail 26, (by kernel_rfl)
      go_wp2
      go_ret
      refine ⟨rfl, ?_, only_drew (only_set HG.out 7 _)⟩
      rw [Hfin.out]
      exact Blk.drew (blk9_7 HA.out _)
end Go.Proofs.Ytcfomapeiaobaaa
