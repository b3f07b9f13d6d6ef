/- Contracts of layer 17 (rto), the rest: Back, Fresh, Wait, Tries, New. -/
import Derived.Test.YtcfomapeiaobaaaRto
set_option linter.unusedVariables false
set_option linter.unusedSimpArgs false
set_option linter.unusedSectionVars false
namespace Go.Proofs.Ytcfomapeiaobaaa
open Go.RowKit

theorem sample_bad (g : Nat) (c : RCf) (s : RSt) (took : Int) (w : World) (h : RAt w 72 g c s) (hc : c.ok) (ht : rBad took) (l1 : -9223372036854775808 ≤ took) (l2 : took ≤ 9223372036854775807) :
    Calls Try.prog 17 #[.pointer (some ⟨g, 0, none⟩), .int .i64 took] w fun r w' => r = .returned (.int .i64 2) ∧ w = w' := by
  have k1 := Blk.cell h 1
  obtain ⟨first, least, most, tries⟩ := c
  simp [rCells] at k1
  obtain ⟨d1, d2, d3, d4, d5, d6⟩ := hc
  simp only at d1 d2 d3 d4 d5 d6
  have hl : (least == 0) = false := by rw [beq_eq_false_iff_ne]; omega
  have H := Lib.hid h
  clear h
  unfold rBad at ht
  by_cases h0 : took < 0
  · go_enter Try.func17, Try.ntmps17
    go_wp2
    go_ret
    exact ⟨rfl, rfl⟩
  · have h1 : 1099511627776 < took := by omega
    go_enter Try.func17, Try.ntmps17
    go_wp2
    go_ret
    exact ⟨rfl, rfl⟩
theorem sample_nil (took : Int) (w : World) :
    Calls Try.prog 17 #[.pointer none, .int .i64 took] w fun r w' => r = .returned (.int .i64 1) ∧ w = w' := by
  go_enter Try.func17, Try.ntmps17
  go_wp2
  go_ret
  exact ⟨rfl, rfl⟩

/-- trying anew -/
def rBack (c : RCf) (s : RSt) : RSt := { s with tried := s.tried + 1, wait := min (s.wait * 2) c.most }
def rFresh (s : RSt) : RSt := { s with tried := 0 }
theorem rBack_ok {c : RCf} {s : RSt} (hc : c.ok) (h : s.ok c) (ht : s.tried < c.tries) : (rBack c s).ok c := by
  unfold RCf.ok at hc
  unfold RSt.ok at h ⊢
  unfold rBack
  simp only
  omega
theorem rFresh_ok {c : RCf} {s : RSt} (hc : c.ok) (h : s.ok c) : (rFresh s).ok c := by
  unfold RCf.ok at hc
  unfold RSt.ok at h ⊢
  unfold rFresh
  simp only
  omega
theorem back_core (g : Nat) (c : RCf) (s : RSt) (w : World) (h : RAt w 72 g c s) (hc : c.ok) (hs : s.ok c) (ht : s.tried < c.tries) :
    Calls Try.prog 19 #[.pointer (some ⟨g, 0, none⟩)] w fun r w' => r = .returned (.bool true) ∧ RAt w' 72 g c (rBack c s) ∧ w.grownBy w' (some g) := by
  have k2 := Blk.cell h 2
  have k3 := Blk.cell h 3
  have k7 := Blk.cell h 7
  have k8 := Blk.cell h 8
  have f7 := Blk.frozen h 7
  have f8 := Blk.frozen h 8
  obtain ⟨sm_, sm, va, wait, tried⟩ := s
  obtain ⟨first, least, most, tries⟩ := c
  simp [rCells] at k2 k3 k7 k8
  obtain ⟨b1, b2, b3, b4, b5, b6, b7, b8⟩ := hs
  obtain ⟨d1, d2, d3, d4, d5, d6⟩ := hc
  simp only at b1 b2 b3 b4 b5 b6 b7 b8 d1 d2 d3 d4 d5 d6 ht
  have H := Lib.hid h
  clear h
  go_enter Try.func19, Try.ntmps19
  go_wp2
  go_quiet (fail)
  go_wp2
  have hA := blk9_8 (Blk.drewN H.out nq) (.int .i64 (tried + 1))
  have hG := only_set (only_drewN (World.grownBy.refl w (some g)) nq) 8 (.int .i64 (tried + 1))
  have HA := Lib.hid hA
  clear hA
  have HG := Lib.hid hG
  clear hG
  generalize (w.drewN nq).setCell ⟨g, 8, none⟩ (.int .i64 (tried + 1)) = W at *
  have m2 : W.cell? ⟨g, 2, none⟩ = _ := Blk.cell HA.out 2
  have m7 : W.cell? ⟨g, 7, none⟩ = _ := Blk.cell HA.out 7
  have mf7 := Blk.frozen HA.out 7
  simp at m2 m7
  clear k2 k3 k7 k8 f7 f8
  go_still_tail 14, (by kernel_rfl)
  go_wp2
  go_ret
  exact ⟨rfl, Blk.drew (blk9_7 HA.out _), only_drew (only_set HG.out 7 _)⟩
theorem back_no (g : Nat) (c : RCf) (s : RSt) (w : World) (h : RAt w 72 g c s) (ht : ¬ s.tried < c.tries) :
    Calls Try.prog 19 #[.pointer (some ⟨g, 0, none⟩)] w fun r w' => r = .returned (.bool false) ∧ ∃ n, w' = w.drewN n := by
  have k3 := Blk.cell h 3
  have k8 := Blk.cell h 8
  obtain ⟨sm_, sm, va, wait, tried⟩ := s
  obtain ⟨first, least, most, tries⟩ := c
  simp [rCells] at k3 k8
  simp only at ht
  have H := Lib.hid h
  clear h
  go_enter Try.func19, Try.ntmps19
  go_wp2
  go_quiet (fail)
  go_wp2
  go_ret
  exact ⟨rfl, _, rfl⟩
theorem back_nil (w : World) : Calls Try.prog 19 #[.pointer none] w fun r w' => r = .returned (.bool false) ∧ ∃ n, w' = w.drewN n := by
  go_enter Try.func19, Try.ntmps19
  go_wp2
  go_quiet (fail)
  go_wp2
  go_ret
  exact ⟨rfl, _, rfl⟩
theorem fresh_core (g : Nat) (c : RCf) (s : RSt) (w : World) (h : RAt w 72 g c s) :
    Calls Try.prog 21 #[.pointer (some ⟨g, 0, none⟩)] w fun r w' => r = .returned (.tuple #[]) ∧ RAt w' 72 g c (rFresh s) ∧ w.grownBy w' (some g) := by
  have k8 := Blk.cell h 8
  have f8 := Blk.frozen h 8
  obtain ⟨sm_, sm, va, wait, tried⟩ := s
  obtain ⟨first, least, most, tries⟩ := c
  simp [rCells] at k8
  have hA := blk9_8 h (.int .i64 0)
  have HA := Lib.hid hA
  clear hA
  have H := Lib.hid h
  clear h
  go_enter Try.func21, Try.ntmps21
  go_wp2
  go_end0
  exact ⟨rfl, HA.out, only_set (World.grownBy.refl w (some g)) 8 _⟩
theorem fresh_nil (w : World) : Calls Try.prog 21 #[.pointer none] w fun r w' => r = .returned (.tuple #[]) ∧ w = w' := by
  go_enter Try.func21, Try.ntmps21
  go_wp2
  go_end0
  exact ⟨rfl, rfl⟩
theorem wait_core (g : Nat) (c : RCf) (s : RSt) (w : World) (h : RAt w 72 g c s) :
    Calls Try.prog 22 #[.pointer (some ⟨g, 0, none⟩)] w fun r w' => r = .returned (.int .i64 s.wait) ∧ w = w' := by
  have k7 := Blk.cell h 7
  simp [rCells] at k7
  have H := Lib.hid h
  clear h
  go_enter Try.func22, Try.ntmps22
  go_wp2
  go_ret
  exact ⟨rfl, rfl⟩
theorem wait_nil (w : World) : Calls Try.prog 22 #[.pointer none] w fun r w' => r = .returned (.int .i64 0) ∧ w = w' := by
  go_enter Try.func22, Try.ntmps22
  go_wp2
  go_ret
  exact ⟨rfl, rfl⟩
theorem tries_core (g : Nat) (c : RCf) (s : RSt) (w : World) (h : RAt w 72 g c s) :
    Calls Try.prog 23 #[.pointer (some ⟨g, 0, none⟩)] w fun r w' => r = .returned (.int .i64 s.tried) ∧ w = w' := by
  have k8 := Blk.cell h 8
  simp [rCells] at k8
  have H := Lib.hid h
  clear h
  go_enter Try.func23, Try.ntmps23
  go_wp2
  go_ret
  exact ⟨rfl, rfl⟩
theorem tries_nil (w : World) : Calls Try.prog 23 #[.pointer none] w fun r w' => r = .returned (.int .i64 0) ∧ w = w' := by
  go_enter Try.func23, Try.ntmps23
  go_wp2
  go_ret
  exact ⟨rfl, rfl⟩
def cfAgg (c : RCf) : Value := .agg #[.int .i64 c.first, .int .i64 c.least, .int .i64 c.most, .int .i64 c.tries]
def rStart (c : RCf) : RSt := ⟨false, 0, 0, c.first, 0⟩
theorem rStart_ok {c : RCf} (h : c.ok) : (rStart c).ok c := by
  unfold RCf.ok at h
  unfold RSt.ok rStart
  simp only
  omega
theorem Blk.new2 (w : World) (o : Obj) (t : TypeId) (cs : Array Value) : Blk ((w.alloc o).alloc (.cells cs t)) (w.heap.size + 1) t cs := by
  have := Blk.new (w.alloc o) t cs
  simpa using this
theorem new_ok (c : RCf) (w : World) (hc : c.ok) :
    Calls Try.prog 15 #[cfAgg c] w fun r w' => r = .returned (.tuple #[.pointer (some ⟨w.heap.size + 1, 0, none⟩), .int .i64 0]) ∧ RAt w' 72 (w.heap.size + 1) c (rStart c) ∧ Below w.heap.size w w' := by
  obtain ⟨first, least, most, tries⟩ := c
  obtain ⟨d1, d2, d3, d4, d5, d6⟩ := hc
  simp only at d1 d2 d3 d4 d5 d6
  unfold cfAgg
  go_enter Try.func15, Try.ntmps15
  go_wp2
  go_ret2
  exact ⟨rfl, Blk.new2 _ _ _ _, ((Below.refl _ _).alloc (Nat.le_refl _) _).alloc (by simp) _⟩
theorem may_ok (c : RCf) (w : World) (hc : c.ok) :
    Calls Try.prog 16 #[cfAgg c] w fun r w' => r = .returned (.bool true) ∧ Below w.heap.size w w' := by
  obtain ⟨first, least, most, tries⟩ := c
  obtain ⟨d1, d2, d3, d4, d5, d6⟩ := hc
  simp only at d1 d2 d3 d4 d5 d6
  unfold cfAgg
  go_enter Try.func16, Try.ntmps16
  go_wp2
  go_ret
  exact ⟨rfl, (Below.refl _ _).alloc (Nat.le_refl _) _⟩
theorem new_bad (c : RCf) (w : World) (hc : ¬ c.ok) (l1 : -9223372036854775808 ≤ c.tries) (l2 : c.tries ≤ 9223372036854775807) :
    Calls Try.prog 15 #[cfAgg c] w fun r w' => r = .returned (.tuple #[.pointer none, .int .i64 2]) ∧ Below w.heap.size w w' := by
  obtain ⟨first, least, most, tries⟩ := c
  unfold RCf.ok at hc
  simp only at hc l1 l2
  unfold cfAgg
  have hcs : least < 1 ∨ (1 ≤ least ∧ first < least) ∨ (1 ≤ least ∧ least ≤ first ∧ most < first) ∨ (1 ≤ least ∧ least ≤ first ∧ first ≤ most ∧ 1048576 < most) ∨
      (1 ≤ least ∧ least ≤ first ∧ first ≤ most ∧ most ≤ 1048576 ∧ tries < 0) ∨ (1 ≤ least ∧ least ≤ first ∧ first ≤ most ∧ most ≤ 1048576 ∧ 0 ≤ tries ∧ 20 < tries) := by omega
  clear hc
  rcases hcs with h1 | ⟨h1, h2⟩ | ⟨h1, h2, h3⟩ | ⟨h1, h2, h3, h4⟩ | ⟨h1, h2, h3, h4, h5⟩ | ⟨h1, h2, h3, h4, h5, h6⟩
  all_goals
    go_enter Try.func15, Try.ntmps15
    go_wp2
    go_ret2
    exact ⟨rfl, (Below.refl _ _).alloc (Nat.le_refl _) _⟩
theorem may_bad (c : RCf) (w : World) (hc : ¬ c.ok) (l1 : -9223372036854775808 ≤ c.tries) (l2 : c.tries ≤ 9223372036854775807) :
    Calls Try.prog 16 #[cfAgg c] w fun r w' => r = .returned (.bool false) ∧ Below w.heap.size w w' := by
  obtain ⟨first, least, most, tries⟩ := c
  unfold RCf.ok at hc
  simp only at hc l1 l2
  unfold cfAgg
  have hcs : least < 1 ∨ (1 ≤ least ∧ first < least) ∨ (1 ≤ least ∧ least ≤ first ∧ most < first) ∨ (1 ≤ least ∧ least ≤ first ∧ first ≤ most ∧ 1048576 < most) ∨
      (1 ≤ least ∧ least ≤ first ∧ first ≤ most ∧ most ≤ 1048576 ∧ tries < 0) ∨ (1 ≤ least ∧ least ≤ first ∧ first ≤ most ∧ most ≤ 1048576 ∧ 0 ≤ tries ∧ 20 < tries) := by omega
  clear hc
  rcases hcs with h1 | ⟨h1, h2⟩ | ⟨h1, h2, h3⟩ | ⟨h1, h2, h3, h4⟩ | ⟨h1, h2, h3, h4, h5⟩ | ⟨h1, h2, h3, h4, h5, h6⟩
  all_goals
    go_enter Try.func16, Try.ntmps16
    go_wp2
    go_ret
    exact ⟨by first | rfl | exact ret_bool (decide_eq_false (by omega)), (Below.refl _ _).alloc (Nat.le_refl _) _⟩

end Go.Proofs.Ytcfomapeiaobaaa
