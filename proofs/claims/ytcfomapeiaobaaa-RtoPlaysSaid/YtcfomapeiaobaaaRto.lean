/- Contracts of layer 17 (rto): package rto and the document's answer. -/
import Derived.Test.YtcfomapeiaobaaaWords
import Derived.IntWalk
import Derived.StillTailTactics
import Derived.Lib.MinMax
set_option linter.unusedVariables false
set_option linter.unusedSimpArgs false
set_option linter.unusedSectionVars false
namespace Go.Proofs.Ytcfomapeiaobaaa
open Go.RowKit

/-- what one remembers: was there a sample; the smoothed time in eighths; the variation in quarters; what one waits; how often one tried -/
structure RSt where
  some_ : Bool
  sm : Int
  va : Int
  wait : Int
  tried : Int
structure RCf where
  first : Int
  least : Int
  most : Int
  tries : Int

def rCells (c : RCf) (s : RSt) : Array Value := #[.int .i64 c.first, .int .i64 c.least, .int .i64 c.most, .int .i64 c.tries, .bool s.some_, .int .i64 s.sm, .int .i64 s.va, .int .i64 s.wait, .int .i64 s.tried]
def RAt (w : World) (t : TypeId) (g : Nat) (c : RCf) (s : RSt) : Prop := Blk w g t (rCells c s)

def rWait (c : RCf) (sm va : Int) : Int := min (max (sm / 8 + max va 1) c.least) c.most
def rAbs (d : Int) : Int := max d (-d)
/-- behind a sample -/
def rSample (c : RCf) (s : RSt) (took : Int) : RSt :=
  if s.some_ = false then { s with some_ := true, sm := 8 * took, va := 2 * took, wait := rWait c (8 * took) (2 * took) }
  else { s with sm := s.sm - s.sm / 8 + took, va := s.va - s.va / 4 + rAbs (took - s.sm / 8), wait := rWait c (s.sm - s.sm / 8 + took) (s.va - s.va / 4 + rAbs (took - s.sm / 8)) }
def rBad (took : Int) : Prop := took < 0 ∨ 1099511627776 < took
def RCf.ok (c : RCf) : Prop := 1 ≤ c.least ∧ c.least ≤ c.first ∧ c.first ≤ c.most ∧ c.most ≤ 1048576 ∧ 0 ≤ c.tries ∧ c.tries ≤ 20
/-- what always holds -/
def RSt.ok (s : RSt) (c : RCf) : Prop := 0 ≤ s.sm ∧ s.sm ≤ 8796093022215 ∧ 0 ≤ s.va ∧ s.va ≤ 4398046511107 ∧ c.least ≤ s.wait ∧ s.wait ≤ c.most ∧ 0 ≤ s.tried ∧ s.tried ≤ c.tries

theorem rAbs_bd (d B : Int) (h1 : -B ≤ d) (h2 : d ≤ B) : 0 ≤ rAbs d ∧ rAbs d ≤ B := by unfold rAbs; omega
theorem rSample_ok {c : RCf} {s : RSt} {took : Int} (hc : c.ok) (h : s.ok c) (ht : ¬ rBad took) : (rSample c s took).ok c := by
  unfold rBad at ht
  unfold RCf.ok at hc
  unfold RSt.ok at h ⊢
  unfold rSample rWait
  split
  · simp only
    omega
  · have := rAbs_bd (took - s.sm / 8) 1099511627776 (by omega) (by omega)
    simp only
    generalize rAbs (took - s.sm / 8) = d at *
    omega

theorem blk9_4 {w : World} {g : Nat} {t : TypeId} {v0 v1 v2 v3 v4 v5 v6 v7 v8 : Value} (h : Blk w g t #[v0, v1, v2, v3, v4, v5, v6, v7, v8]) (x : Value) : Blk (w.setCell ⟨g, 4, none⟩ x) g t #[v0, v1, v2, v3, x, v5, v6, v7, v8] := Blk.set_ h 4 x
theorem blk9_5 {w : World} {g : Nat} {t : TypeId} {v0 v1 v2 v3 v4 v5 v6 v7 v8 : Value} (h : Blk w g t #[v0, v1, v2, v3, v4, v5, v6, v7, v8]) (x : Value) : Blk (w.setCell ⟨g, 5, none⟩ x) g t #[v0, v1, v2, v3, v4, x, v6, v7, v8] := Blk.set_ h 5 x
theorem blk9_6 {w : World} {g : Nat} {t : TypeId} {v0 v1 v2 v3 v4 v5 v6 v7 v8 : Value} (h : Blk w g t #[v0, v1, v2, v3, v4, v5, v6, v7, v8]) (x : Value) : Blk (w.setCell ⟨g, 6, none⟩ x) g t #[v0, v1, v2, v3, v4, v5, x, v7, v8] := Blk.set_ h 6 x
theorem blk9_7 {w : World} {g : Nat} {t : TypeId} {v0 v1 v2 v3 v4 v5 v6 v7 v8 : Value} (h : Blk w g t #[v0, v1, v2, v3, v4, v5, v6, v7, v8]) (x : Value) : Blk (w.setCell ⟨g, 7, none⟩ x) g t #[v0, v1, v2, v3, v4, v5, v6, x, v8] := Blk.set_ h 7 x
theorem blk9_8 {w : World} {g : Nat} {t : TypeId} {v0 v1 v2 v3 v4 v5 v6 v7 v8 : Value} (h : Blk w g t #[v0, v1, v2, v3, v4, v5, v6, v7, v8]) (x : Value) : Blk (w.setCell ⟨g, 8, none⟩ x) g t #[v0, v1, v2, v3, v4, v5, v6, v7, x] := Blk.set_ h 8 x

set_option maxHeartbeats 1000000 in
theorem sample_core (g : Nat) (c : RCf) (s : RSt) (took : Int) (w : World) (h : RAt w 72 g c s) (hc : c.ok) (hs : s.ok c) (ht : ¬ rBad took) :
    Calls Try.prog 17 #[.pointer (some ⟨g, 0, none⟩), .int .i64 took] w fun r w' => r = .returned (.int .i64 0) ∧ RAt w' 72 g c (rSample c s took) ∧ w.grownBy w' (some g) := by
  have k0 := Blk.cell h 0
  have k1 := Blk.cell h 1
  have k2 := Blk.cell h 2
  have k4 := Blk.cell h 4
  have k5 := Blk.cell h 5
  have k6 := Blk.cell h 6
  have k7 := Blk.cell h 7
  have f4 := Blk.frozen h 4
  have f5 := Blk.frozen h 5
  have f6 := Blk.frozen h 6
  have f7 := Blk.frozen h 7
  obtain ⟨sm_, sm, va, wait, tried⟩ := s
  obtain ⟨first, least, most, tries⟩ := c
  simp [rCells] at k0 k1 k2 k4 k5 k6 k7
  obtain ⟨b1, b2, b3, b4, b5, b6, b7, b8⟩ := hs
  obtain ⟨d1, d2, d3, d4, d5, d6⟩ := hc
  simp only at b1 b2 b3 b4 b5 b6 b7 b8 d1 d2 d3 d4 d5 d6
  unfold rBad at ht
  have t1 : 0 ≤ took := by omega
  have t2 : took ≤ 1099511627776 := by omega
  have hl : (least == 0) = false := by rw [beq_eq_false_iff_ne]; omega
  clear ht
  have H := Lib.hid h
  clear h
  cases sm_
  · have hfin : rSample ⟨first, least, most, tries⟩ ⟨false, sm, va, wait, tried⟩ took = ⟨true, took * 8, took * 2, min (max (took + max (took * 2) 1) least) most, tried⟩ := by
      simp only [rSample, rWait, if_true]
      rw [Int.mul_comm 8 took, Int.mul_comm 2 took, Int.mul_ediv_cancel _ (by decide)]
    have Hfin := Lib.hid hfin
    clear hfin
    have hA : Blk ((((w.setCell ⟨g, 4, none⟩ (.bool true)).setCell ⟨g, 5, none⟩ (.int .i64 (took * 8))).setCell ⟨g, 6, none⟩ (.int .i64 (took * 2)))) g 72
        #[.int .i64 first, .int .i64 least, .int .i64 most, .int .i64 tries, .bool true, .int .i64 (took * 8), .int .i64 (took * 2), .int .i64 wait, .int .i64 tried] :=
      blk9_6 (blk9_5 (blk9_4 H.out (.bool true)) (.int .i64 (took * 8))) (.int .i64 (took * 2))
    have hG : w.grownBy ((((w.setCell ⟨g, 4, none⟩ (.bool true)).setCell ⟨g, 5, none⟩ (.int .i64 (took * 8))).setCell ⟨g, 6, none⟩ (.int .i64 (took * 2)))) (some g) :=
      only_set (only_set (only_set (World.grownBy.refl w (some g)) 4 (.bool true)) 5 (.int .i64 (took * 8))) 6 (.int .i64 (took * 2))
    have HA := Lib.hid hA
    clear hA
    have HG := Lib.hid hG
    clear hG
    go_enter Try.func17, Try.ntmps17
    go_wp2
    generalize ((((w.setCell ⟨g, 4, none⟩ (.bool true)).setCell ⟨g, 5, none⟩ (.int .i64 (took * 8))).setCell ⟨g, 6, none⟩ (.int .i64 (took * 2)))) = W at *
    have m1 : W.cell? ⟨g, 1, none⟩ = _ := Blk.cell HA.out 1
    have m2 : W.cell? ⟨g, 2, none⟩ = _ := Blk.cell HA.out 2
    have m5 : W.cell? ⟨g, 5, none⟩ = _ := Blk.cell HA.out 5
    have m6 : W.cell? ⟨g, 6, none⟩ = _ := Blk.cell HA.out 6
    have m7 : W.cell? ⟨g, 7, none⟩ = _ := Blk.cell HA.out 7
    have n7 := Blk.frozen HA.out 7
    simp at m1 m2 m5 m6 m7
    go_still_tail 26, (by kernel_rfl)
    go_wp2
    go_ret
    refine ⟨rfl, ?_, only_drew (only_set HG.out 7 _)⟩
    rw [Hfin.out]
    exact Blk.drew (blk9_7 HA.out _)
  · have hab := rAbs_bd (took - sm / 8) 1099511627776 (by omega) (by omega)
    unfold rAbs at hab
    obtain ⟨v2, hv2⟩ : ∃ v2, va + (max (took - sm / 8) (-(took - sm / 8)) - va / 4) = v2 := ⟨_, rfl⟩
    obtain ⟨s2, hs2⟩ : ∃ s2, sm + (took - sm / 8) = s2 := ⟨_, rfl⟩
    have hfin : rSample ⟨first, least, most, tries⟩ ⟨true, sm, va, wait, tried⟩ took = ⟨true, s2, v2, min (max (s2 / 8 + max v2 1) least) most, tried⟩ := by
      have e1 : sm - sm / 8 + took = s2 := by omega
      have e2 : va - va / 4 + rAbs (took - sm / 8) = v2 := by unfold rAbs; omega
      simp only [rSample, rWait, Bool.true_eq_false, if_false, e1, e2]
    have q1 : 0 ≤ s2 := by omega
    have q2 : s2 ≤ 8796093022215 := by omega
    have q3 : 0 ≤ v2 := by omega
    have q4 : v2 ≤ 4398046511107 := by omega
    have Hfin := Lib.hid hfin
    clear hfin
    have HV := Lib.hid hv2
    have HS := Lib.hid hs2
    clear hv2 hs2
    go_enter Try.func17, Try.ntmps17
    go_wp2
    go_still_tail 17, (by kernel_rfl)
    go_wp2
    rw [HV.out]
    have hA := Blk.drew (blk9_6 H.out (.int .i64 v2))
    have hG := only_drew (only_set (World.grownBy.refl w (some g)) 6 (.int .i64 v2))
    have HA := Lib.hid hA
    clear hA
    have HG := Lib.hid hG
    clear hG
    generalize (w.setCell ⟨g, 6, none⟩ (.int .i64 v2)).drew = W at *
    have m1 : W.cell? ⟨g, 1, none⟩ = _ := Blk.cell HA.out 1
    have m2 : W.cell? ⟨g, 2, none⟩ = _ := Blk.cell HA.out 2
    have m5 : W.cell? ⟨g, 5, none⟩ = _ := Blk.cell HA.out 5
    have m6 : W.cell? ⟨g, 6, none⟩ = _ := Blk.cell HA.out 6
    have m7 : W.cell? ⟨g, 7, none⟩ = _ := Blk.cell HA.out 7
    have mf5 := Blk.frozen HA.out 5
    have mf7 := Blk.frozen HA.out 7
    simp at m1 m2 m5 m6 m7
    clear k0 k1 k2 k4 k5 k6 k7 f4 f5 f6 f7
    go_still_tail 14, (by kernel_rfl)
    go_wp2
    rw [HS.out]
    have hA := Blk.drew (blk9_5 HA.out (.int .i64 s2))
    have hG := only_drew (only_set HG.out 5 (.int .i64 s2))
    clear HA HG m1 m2 m5 m6 m7 mf5 mf7
    have HA := Lib.hid hA
    clear hA
    have HG := Lib.hid hG
    clear hG
    generalize (W.setCell ⟨g, 5, none⟩ (.int .i64 s2)).drew = V at *
    have p1 : V.cell? ⟨g, 1, none⟩ = _ := Blk.cell HA.out 1
    have p2 : V.cell? ⟨g, 2, none⟩ = _ := Blk.cell HA.out 2
    have p5 : V.cell? ⟨g, 5, none⟩ = _ := Blk.cell HA.out 5
    have p6 : V.cell? ⟨g, 6, none⟩ = _ := Blk.cell HA.out 6
    have p7 : V.cell? ⟨g, 7, none⟩ = _ := Blk.cell HA.out 7
    have pf5 := Blk.frozen HA.out 5
    have pf7 := Blk.frozen HA.out 7
    simp at p1 p2 p5 p6 p7
    go_still_tail 26, (by kernel_rfl)
    go_wp2
    go_ret
    refine ⟨rfl, ?_, only_drew (only_set HG.out 7 _)⟩
    rw [Hfin.out]
    exact Blk.drew (blk9_7 HA.out _)
end Go.Proofs.Ytcfomapeiaobaaa
