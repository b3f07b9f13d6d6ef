/- Contracts of layer 17's document's answer, the rest: Back; a sample that may not be. -/
import Derived.Test.YtcfomapeiaobaaaRtoRef
import Derived.Test.YtcfomapeiaobaaaRtoWorks
set_option linter.unusedVariables false
set_option linter.unusedSimpArgs false
set_option linter.unusedSectionVars false
namespace Go.Proofs.Ytcfomapeiaobaaa
open Go.RowKit

theorem ref_back_core (g : Nat) (c : RCf) (s : RSt) (w : World) (h : RAt w 33 g c s) (hc : c.ok) (hs : s.ok c) (ht : s.tried < c.tries) :
    Calls Try.prog 20 #[.pointer (some ⟨g, 0, none⟩)] w fun r w' => r = .returned (.bool true) ∧ RAt w' 33 g c (rBack c s) ∧ w.grownBy w' (some g) := by
  have k2 := Blk.cell h 2
  have k3 := Blk.cell h 3
  have k7 := Blk.cell h 7
  have k8 := Blk.cell h 8
  have f7 := Blk.frozen h 7
  have f8 := Blk.frozen h 8
  obtain ⟨sm_, sm, va, wait, tried⟩ := s
  obtain ⟨first, least, most, tries⟩ := c
  simp [rCells] at k2 k3 k7 k8
  obtain ⟨b1, b2, b3, b4, b5, b6, b7, b8⟩ := hs
  obtain ⟨d1, d2, d3, d4, d5, d6⟩ := hc
  simp only at b1 b2 b3 b4 b5 b6 b7 b8 d1 d2 d3 d4 d5 d6 ht
  have H := Lib.hid h
  clear h
  go_enter Try.func20, Try.ntmps20
  go_wp2
  go_quiet (fail)
  go_wp2
  have hA := blk9_8 (Blk.drewN H.out nq) (.int .i64 (tried + 1))
  have hG := only_set (only_drewN (World.grownBy.refl w (some g)) nq) 8 (.int .i64 (tried + 1))
  have HA := Lib.hid hA
  clear hA
  have HG := Lib.hid hG
  clear hG
  generalize (w.drewN nq).setCell ⟨g, 8, none⟩ (.int .i64 (tried + 1)) = W at *
  have m2 : W.cell? ⟨g, 2, none⟩ = _ := Blk.cell HA.out 2
  have m7 : W.cell? ⟨g, 7, none⟩ = _ := Blk.cell HA.out 7
  have mf7 := Blk.frozen HA.out 7
  simp at m2 m7
  clear k2 k3 k7 k8 f7 f8
  go_still_tail 14, (by kernel_rfl)
  go_wp2
  go_ret
  rw [Int.mul_comm 2 wait]
  exact ⟨rfl, Blk.drew (blk9_7 HA.out _), only_drew (only_set HG.out 7 _)⟩
theorem ref_back_no (g : Nat) (c : RCf) (s : RSt) (w : World) (h : RAt w 33 g c s) (ht : ¬ s.tried < c.tries) :
    Calls Try.prog 20 #[.pointer (some ⟨g, 0, none⟩)] w fun r w' => r = .returned (.bool false) ∧ ∃ n, w' = w.drewN n := by
  have k3 := Blk.cell h 3
  have k8 := Blk.cell h 8
  obtain ⟨sm_, sm, va, wait, tried⟩ := s
  obtain ⟨first, least, most, tries⟩ := c
  simp [rCells] at k3 k8
  simp only at ht
  have H := Lib.hid h
  clear h
  go_enter Try.func20, Try.ntmps20
  go_wp2
  go_quiet (fail)
  go_wp2
  go_ret
  exact ⟨rfl, _, rfl⟩
theorem ref_sample_bad (g : Nat) (c : RCf) (s : RSt) (took : Int) (w : World) (h : RAt w 33 g c s) (hc : c.ok) (ht : rBad took) (l1 : -9223372036854775808 ≤ took) (l2 : took ≤ 9223372036854775807) :
    Calls Try.prog 18 #[.pointer (some ⟨g, 0, none⟩), .int .i64 took] w fun r w' => r = .returned (.int .i64 2) ∧ w = w' := by
  have k1 := Blk.cell h 1
  obtain ⟨first, least, most, tries⟩ := c
  simp [rCells] at k1
  obtain ⟨d1, d2, d3, d4, d5, d6⟩ := hc
  simp only at d1 d2 d3 d4 d5 d6
  have hl : (least == 0) = false := by rw [beq_eq_false_iff_ne]; omega
  have H := Lib.hid h
  clear h
  unfold rBad at ht
  by_cases h0 : took < 0
  · go_enter Try.func18, Try.ntmps18
    go_wp2
    go_ret
    exact ⟨rfl, rfl⟩
  · have h1 : 1099511627776 < took := by omega
    go_enter Try.func18, Try.ntmps18
    go_wp2
    go_ret
    exact ⟨rfl, rfl⟩
end Go.Proofs.Ytcfomapeiaobaaa
