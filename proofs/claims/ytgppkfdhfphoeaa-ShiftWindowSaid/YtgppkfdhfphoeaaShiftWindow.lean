/- The statement ShiftWindow: a window is never told as greater than it is, is as it was without scales, is never told as a less one where it is a greater one, and is as near as the scale allows; for any two windows, any scales. -/
import Derived.Test.YtgppkfdhfphoeaaShiftAlive4
import Derived.Laws.Bits64
set_option linter.unusedVariables false
set_option linter.unusedSimpArgs false
namespace Go.Proofs.Ytgppkfdhfphoeaa.shiftWindow
open Go.ChangeShapes Go.WideShapes Go.ChangeAt Go.RowKit
open Go.ChangeMaps (open_string shut_string)

theorem scN_nat (u : Nat) (h : u ≤ 14) : scN (u : Int) = u := by unfold scN; omega
/-- the plain law of a window -/
theorem win_law (a : Int) (u d : Nat) (hu : u ≤ 14) (hd : d ≤ 14) (h0 : 0 ≤ a) (h1 : a ≤ 65535) : 0 ≤ a * 2 ^ u ∧ a * 2 ^ u ≤ 65535 * 16384 ∧ 0 ≤ winT a u d ∧ winT a u d ≤ 65535 ∧ winT a u d * 2 ^ d ≤ a * 2 ^ u ∧ (winT a u d < 65535 → a * 2 ^ u < winT a u d * 2 ^ d + 2 ^ d) := by
  have hp : (0 : Int) < 2 ^ d := Int.pow_pos (by decide)
  have hq : (0 : Int) < 2 ^ u := Int.pow_pos (by decide)
  have hq2 : (2 : Int) ^ u ≤ 16384 := by
    have : (2 : Nat) ^ u ≤ 2 ^ 14 := Nat.pow_le_pow_right (by decide) hu
    have h2 : ((2 ^ u : Nat) : Int) ≤ ((2 ^ 14 : Nat) : Int) := by exact_mod_cast this
    simpa using h2
  have r0 : 0 ≤ a * 2 ^ u := Int.mul_nonneg h0 (Int.le_of_lt hq)
  have r1 : a * 2 ^ u ≤ 65535 * 16384 := Int.mul_le_mul h1 hq2 (Int.le_of_lt hq) (by decide)
  unfold winT
  rw [scN_nat u hu, scN_nat d hd]
  generalize a * 2 ^ u = r at *
  generalize (2 : Int) ^ d = p at *
  have hm := Int.mul_ediv_add_emod r p
  have hm1 := Int.emod_lt_of_pos r hp
  have hm0 := Int.emod_nonneg r (Int.ne_of_gt hp)
  have hd0 : 0 ≤ r / p := Int.ediv_nonneg r0 (Int.le_of_lt hp)
  have hc : p * (r / p) = (r / p) * p := Int.mul_comm _ _
  refine ⟨r0, r1, by omega, by omega, ?_, fun h => ?_⟩
  · have : min (r / p) 65535 * p ≤ (r / p) * p := Int.mul_le_mul_of_nonneg_right (by omega) (Int.le_of_lt hp)
    omega
  · have e : min (r / p) 65535 = r / p := by omega
    rw [e]
    omega
theorem win_mono (a b : Int) (u d : Nat) (h : a ≤ b) : winT a u d ≤ winT b u d := by
  unfold winT
  have hq : (0 : Int) ≤ 2 ^ scN (u : Int) := Int.le_of_lt (Int.pow_pos (by decide))
  have hp : (0 : Int) < 2 ^ scN (d : Int) := Int.pow_pos (by decide)
  have h1 : a * 2 ^ scN (u : Int) ≤ b * 2 ^ scN (u : Int) := Int.mul_le_mul_of_nonneg_right h hq
  have h2 := Int.ediv_le_ediv hp h1
  omega
theorem win_same (a : Int) (u : Int) (h0 : 0 ≤ a) (h1 : a ≤ 65535) : winT a u u = a := by
  unfold winT
  have hp : (0 : Int) < 2 ^ scN u := Int.pow_pos (by decide)
  rw [Int.mul_ediv_cancel _ (Int.ne_of_gt hp)]
  omega
set_option maxHeartbeats 1000000 in
theorem walk (a0 a1 a2 a3 : Int) (w : World) (w0 : (Lit.int .u16 a0).wf = true) (w1 : (Lit.int .u16 a1).wf = true) (w2 : (Lit.int .u8 a2).wf = true) (w3 : (Lit.int .u8 a3).wf = true) :
    Calls Try.prog 3 #[.int .u16 a0, .int .u16 a1, .int .u8 a2, .int .u8 a3] w fun e w' => e = .returned (.bool true) ∧ Below w.heap.size w w' := by
  obtain ⟨l0, g0⟩ := bounds_u16 w0
  obtain ⟨l1, g1⟩ := bounds_u16 w1
  obtain ⟨l2, g2⟩ := bounds_u8 w2
  obtain ⟨l3, g3⟩ := bounds_u8 w3
  clear w0 w1 w2 w3
  have hb0 : Below w.heap.size w w := Below.refl _ _
  have HB := Lib.hid hb0
  clear hb0
  go_enter Try.func3, Try.ntmps3
  go_upto_region 2 with fail
  have hx := Blk.new w 27 #[.int .u32 0, .int .u16 0, .int .u32 0, .int .u16 0, .int .u32 0, .int .u32 0, .int .u32 0, .int .u32 0, .int .i64 (a2 % 15), .int .i64 (a3 % 15)]
  have hB := HB.out.alloc HB.out.size (.cells #[.int .u32 0, .int .u16 0, .int .u32 0, .int .u16 0, .int .u32 0, .int .u32 0, .int .u32 0, .int .u32 0, .int .i64 (a2 % 15), .int .i64 (a3 % 15)] 27)
  clear HB
  obtain ⟨gx, hge⟩ : ∃ g, g = w.heap.size := ⟨_, rfl⟩
  rw [← hge] at hx ⊢
  clear hge
  generalize w.alloc _ = wx at *
  have Hx := Lib.hid hx
  clear hx
  have HB := Lib.hid hB
  clear hB
  obtain ⟨u, hu⟩ : ∃ u : Nat, a2 % 15 = (u : Int) := ⟨(a2 % 15).toNat, by omega⟩
  obtain ⟨d, hd⟩ : ∃ d : Nat, a3 % 15 = (d : Int) := ⟨(a3 % 15).toNat, by omega⟩
  have hu14 : (u : Int) ≤ 14 := by omega
  have hd14 : (d : Int) ≤ 14 := by omega
  have hu0 : (0 : Int) ≤ (u : Int) := by omega
  have hd0 : (0 : Int) ≤ (d : Int) := by omega
  rw [hu, hd] at Hx
  simp only [hu, hd]
  clear hu hd
  have c0 := Hx.out.cell 0
  have c1 := Hx.out.cell 1
  have c2 := Hx.out.cell 2
  have c3 := Hx.out.cell 3
  have c4 := Hx.out.cell 4
  have c5 := Hx.out.cell 5
  have c6 := Hx.out.cell 6
  have c7 := Hx.out.cell 7
  have c8 := Hx.out.cell 8
  have c9 := Hx.out.cell 9
  simp at c0 c1 c2 c3 c4 c5 c6 c7 c8 c9
  obtain ⟨r0, r1, A0, A1, t0, t1⟩ := win_law a0 u d (by omega) (by omega) l0 g0
  obtain ⟨_, _, B0, B1, _, _⟩ := win_law a1 u d (by omega) (by omega) l1 g1
  have hAB : a0 ≤ a1 → winT a0 u d ≤ winT a1 u d := win_mono a0 a1 u d
  have c1 := fun W => window_any 0 0 0 0 0 0 0 0 (u : Int) (d : Int) a0 W l0 (by omega)
  have c2 := fun W => window_any 0 0 0 0 0 0 0 0 (u : Int) (d : Int) a1 W l1 (by omega)
  have c3 := fun W => window_any 0 0 0 0 0 0 0 0 0 0 a0 W l0 (by omega)
  have c4 := fun W => window_any 0 0 0 0 0 0 0 0 (u : Int) (u : Int) a0 W l0 (by omega)
  rw [win_same a0 0 l0 g0] at c3
  rw [win_same a0 u l0 g0] at c4
  generalize winT a0 u d = A at *
  generalize winT a1 u d = B at *
  have hp0 : (0 : Int) < 2 ^ d := Int.pow_pos (by decide)
  have hp1 : (2 : Int) ^ d ≤ 16384 := by
    have : (2 : Nat) ^ d ≤ 2 ^ 14 := Nat.pow_le_pow_right (by decide) (by omega)
    have h2 : ((2 ^ d : Nat) : Int) ≤ ((2 ^ 14 : Nat) : Int) := by exact_mod_cast this
    simpa using h2
  have e1 : IntKind.u64.wrap (a0 * 2 ^ u) = a0 * 2 ^ u := by rw [IntKind.wrap_u64]; omega
  have e2 : IntKind.u64.wrap (A * 2 ^ d) = A * 2 ^ d := by
    have : 0 ≤ A * 2 ^ d := Int.mul_nonneg A0 (Int.le_of_lt hp0)
    rw [IntKind.wrap_u64]; omega
  have e3 : IntKind.u64.wrap (2 ^ d) = 2 ^ d := by rw [IntKind.wrap_u64]; omega
  have e4 : IntKind.u64.wrap (A * 2 ^ d + 2 ^ d) = A * 2 ^ d + 2 ^ d := by
    have : 0 ≤ A * 2 ^ d := Int.mul_nonneg A0 (Int.le_of_lt hp0)
    rw [IntKind.wrap_u64]; omega
  have f1 : decide (a0 * 2 ^ u < A * 2 ^ d) = false := decide_eq_false (by omega)
  have f2 : A < 65535 → decide (A * 2 ^ d + 2 ^ d ≤ a0 * 2 ^ u) = false := fun h => decide_eq_false (by have := t1 h; omega)
  have f3 : a0 ≤ a1 → decide (B < A) = false := fun h => decide_eq_false (by have := hAB h; omega)
  have C1 := Lib.hid c1
  have C2 := Lib.hid c2
  have C3 := Lib.hid c3
  have C4 := Lib.hid c4
  clear c1 c2 c3 c4 hAB r0 r1 t0 t1 hp0 hp1
  by_cases hA : A < 65535
  · have f2 := f2 hA
    by_cases hv : a0 ≤ a1
    · have f3 := f3 hv
      go_wp2_with fail
      (with_reducible refine (C1.out _).mono ?_)
      rintro e wc2 ⟨rfl, hbq⟩
      have hx := Hx.out.below hbq Hx.out.lt
      clear Hx
      have Hx := Lib.hid hx
      clear hx
      have hB := HB.out.trans (hbq.mono HB.out.size)
      clear HB
      have HB := Lib.hid hB
      clear hB
      clear hbq
      clear c0 c1 c2 c3 c4 c5 c6 c7 c8 c9
      have c0 := Hx.out.cell 0
      have c1 := Hx.out.cell 1
      have c2 := Hx.out.cell 2
      have c3 := Hx.out.cell 3
      have c4 := Hx.out.cell 4
      have c5 := Hx.out.cell 5
      have c6 := Hx.out.cell 6
      have c7 := Hx.out.cell 7
      have c8 := Hx.out.cell 8
      have c9 := Hx.out.cell 9
      simp at c0 c1 c2 c3 c4 c5 c6 c7 c8 c9
      go_wp2_with fail
      (with_reducible refine (C2.out _).mono ?_)
      rintro e wc3 ⟨rfl, hbq⟩
      have hx := Hx.out.below hbq Hx.out.lt
      clear Hx
      have Hx := Lib.hid hx
      clear hx
      have hB := HB.out.trans (hbq.mono HB.out.size)
      clear HB
      have HB := Lib.hid hB
      clear hB
      clear hbq
      clear c0 c1 c2 c3 c4 c5 c6 c7 c8 c9
      have c0 := Hx.out.cell 0
      have c1 := Hx.out.cell 1
      have c2 := Hx.out.cell 2
      have c3 := Hx.out.cell 3
      have c4 := Hx.out.cell 4
      have c5 := Hx.out.cell 5
      have c6 := Hx.out.cell 6
      have c7 := Hx.out.cell 7
      have c8 := Hx.out.cell 8
      have c9 := Hx.out.cell 9
      simp at c0 c1 c2 c3 c4 c5 c6 c7 c8 c9
      go_wp2_with fail
      (with_reducible refine (C3.out _).mono ?_)
      rintro e wc4 ⟨rfl, hbq⟩
      have hx := Hx.out.below hbq Hx.out.lt
      clear Hx
      have Hx := Lib.hid hx
      clear hx
      have hB := HB.out.trans (hbq.mono HB.out.size)
      clear HB
      have HB := Lib.hid hB
      clear hB
      clear hbq
      clear c0 c1 c2 c3 c4 c5 c6 c7 c8 c9
      have c0 := Hx.out.cell 0
      have c1 := Hx.out.cell 1
      have c2 := Hx.out.cell 2
      have c3 := Hx.out.cell 3
      have c4 := Hx.out.cell 4
      have c5 := Hx.out.cell 5
      have c6 := Hx.out.cell 6
      have c7 := Hx.out.cell 7
      have c8 := Hx.out.cell 8
      have c9 := Hx.out.cell 9
      simp at c0 c1 c2 c3 c4 c5 c6 c7 c8 c9
      go_wp2_with fail
      (with_reducible refine (C4.out _).mono ?_)
      rintro e wc5 ⟨rfl, hbq⟩
      have hx := Hx.out.below hbq Hx.out.lt
      clear Hx
      have Hx := Lib.hid hx
      clear hx
      have hB := HB.out.trans (hbq.mono HB.out.size)
      clear HB
      have HB := Lib.hid hB
      clear hB
      clear hbq
      go_wp2_with fail
      (with_reducible refine (alive26 _).mono ?_)
      rintro e wz ⟨rfl, hbz⟩
      have hBz := HB.out.trans (hbz.mono HB.out.size)
      have HBz := Lib.hid hBz
      clear hBz
      go_wp2
      go_ret
      exact ⟨rfl, HBz.out⟩
    · clear f3
      go_wp2_with fail
      (with_reducible refine (C1.out _).mono ?_)
      rintro e wc6 ⟨rfl, hbq⟩
      have hx := Hx.out.below hbq Hx.out.lt
      clear Hx
      have Hx := Lib.hid hx
      clear hx
      have hB := HB.out.trans (hbq.mono HB.out.size)
      clear HB
      have HB := Lib.hid hB
      clear hB
      clear hbq
      clear c0 c1 c2 c3 c4 c5 c6 c7 c8 c9
      have c0 := Hx.out.cell 0
      have c1 := Hx.out.cell 1
      have c2 := Hx.out.cell 2
      have c3 := Hx.out.cell 3
      have c4 := Hx.out.cell 4
      have c5 := Hx.out.cell 5
      have c6 := Hx.out.cell 6
      have c7 := Hx.out.cell 7
      have c8 := Hx.out.cell 8
      have c9 := Hx.out.cell 9
      simp at c0 c1 c2 c3 c4 c5 c6 c7 c8 c9
      go_wp2_with fail
      (with_reducible refine (C3.out _).mono ?_)
      rintro e wc7 ⟨rfl, hbq⟩
      have hx := Hx.out.below hbq Hx.out.lt
      clear Hx
      have Hx := Lib.hid hx
      clear hx
      have hB := HB.out.trans (hbq.mono HB.out.size)
      clear HB
      have HB := Lib.hid hB
      clear hB
      clear hbq
      clear c0 c1 c2 c3 c4 c5 c6 c7 c8 c9
      have c0 := Hx.out.cell 0
      have c1 := Hx.out.cell 1
      have c2 := Hx.out.cell 2
      have c3 := Hx.out.cell 3
      have c4 := Hx.out.cell 4
      have c5 := Hx.out.cell 5
      have c6 := Hx.out.cell 6
      have c7 := Hx.out.cell 7
      have c8 := Hx.out.cell 8
      have c9 := Hx.out.cell 9
      simp at c0 c1 c2 c3 c4 c5 c6 c7 c8 c9
      go_wp2_with fail
      (with_reducible refine (C4.out _).mono ?_)
      rintro e wc8 ⟨rfl, hbq⟩
      have hx := Hx.out.below hbq Hx.out.lt
      clear Hx
      have Hx := Lib.hid hx
      clear hx
      have hB := HB.out.trans (hbq.mono HB.out.size)
      clear HB
      have HB := Lib.hid hB
      clear hB
      clear hbq
      go_wp2_with fail
      (with_reducible refine (alive26 _).mono ?_)
      rintro e wz ⟨rfl, hbz⟩
      have hBz := HB.out.trans (hbz.mono HB.out.size)
      have HBz := Lib.hid hBz
      clear hBz
      go_wp2
      go_ret
      exact ⟨rfl, HBz.out⟩
  · clear f2
    by_cases hv : a0 ≤ a1
    · have f3 := f3 hv
      go_wp2_with fail
      (with_reducible refine (C1.out _).mono ?_)
      rintro e wc9 ⟨rfl, hbq⟩
      have hx := Hx.out.below hbq Hx.out.lt
      clear Hx
      have Hx := Lib.hid hx
      clear hx
      have hB := HB.out.trans (hbq.mono HB.out.size)
      clear HB
      have HB := Lib.hid hB
      clear hB
      clear hbq
      clear c0 c1 c2 c3 c4 c5 c6 c7 c8 c9
      have c0 := Hx.out.cell 0
      have c1 := Hx.out.cell 1
      have c2 := Hx.out.cell 2
      have c3 := Hx.out.cell 3
      have c4 := Hx.out.cell 4
      have c5 := Hx.out.cell 5
      have c6 := Hx.out.cell 6
      have c7 := Hx.out.cell 7
      have c8 := Hx.out.cell 8
      have c9 := Hx.out.cell 9
      simp at c0 c1 c2 c3 c4 c5 c6 c7 c8 c9
      go_wp2_with fail
      (with_reducible refine (C2.out _).mono ?_)
      rintro e wc10 ⟨rfl, hbq⟩
      have hx := Hx.out.below hbq Hx.out.lt
      clear Hx
      have Hx := Lib.hid hx
      clear hx
      have hB := HB.out.trans (hbq.mono HB.out.size)
      clear HB
      have HB := Lib.hid hB
      clear hB
      clear hbq
      clear c0 c1 c2 c3 c4 c5 c6 c7 c8 c9
      have c0 := Hx.out.cell 0
      have c1 := Hx.out.cell 1
      have c2 := Hx.out.cell 2
      have c3 := Hx.out.cell 3
      have c4 := Hx.out.cell 4
      have c5 := Hx.out.cell 5
      have c6 := Hx.out.cell 6
      have c7 := Hx.out.cell 7
      have c8 := Hx.out.cell 8
      have c9 := Hx.out.cell 9
      simp at c0 c1 c2 c3 c4 c5 c6 c7 c8 c9
      go_wp2_with fail
      (with_reducible refine (C3.out _).mono ?_)
      rintro e wc11 ⟨rfl, hbq⟩
      have hx := Hx.out.below hbq Hx.out.lt
      clear Hx
      have Hx := Lib.hid hx
      clear hx
      have hB := HB.out.trans (hbq.mono HB.out.size)
      clear HB
      have HB := Lib.hid hB
      clear hB
      clear hbq
      clear c0 c1 c2 c3 c4 c5 c6 c7 c8 c9
      have c0 := Hx.out.cell 0
      have c1 := Hx.out.cell 1
      have c2 := Hx.out.cell 2
      have c3 := Hx.out.cell 3
      have c4 := Hx.out.cell 4
      have c5 := Hx.out.cell 5
      have c6 := Hx.out.cell 6
      have c7 := Hx.out.cell 7
      have c8 := Hx.out.cell 8
      have c9 := Hx.out.cell 9
      simp at c0 c1 c2 c3 c4 c5 c6 c7 c8 c9
      go_wp2_with fail
      (with_reducible refine (C4.out _).mono ?_)
      rintro e wc12 ⟨rfl, hbq⟩
      have hx := Hx.out.below hbq Hx.out.lt
      clear Hx
      have Hx := Lib.hid hx
      clear hx
      have hB := HB.out.trans (hbq.mono HB.out.size)
      clear HB
      have HB := Lib.hid hB
      clear hB
      clear hbq
      go_wp2_with fail
      (with_reducible refine (alive26 _).mono ?_)
      rintro e wz ⟨rfl, hbz⟩
      have hBz := HB.out.trans (hbz.mono HB.out.size)
      have HBz := Lib.hid hBz
      clear hBz
      go_wp2
      go_ret
      exact ⟨rfl, HBz.out⟩
    · clear f3
      go_wp2_with fail
      (with_reducible refine (C1.out _).mono ?_)
      rintro e wc13 ⟨rfl, hbq⟩
      have hx := Hx.out.below hbq Hx.out.lt
      clear Hx
      have Hx := Lib.hid hx
      clear hx
      have hB := HB.out.trans (hbq.mono HB.out.size)
      clear HB
      have HB := Lib.hid hB
      clear hB
      clear hbq
      clear c0 c1 c2 c3 c4 c5 c6 c7 c8 c9
      have c0 := Hx.out.cell 0
      have c1 := Hx.out.cell 1
      have c2 := Hx.out.cell 2
      have c3 := Hx.out.cell 3
      have c4 := Hx.out.cell 4
      have c5 := Hx.out.cell 5
      have c6 := Hx.out.cell 6
      have c7 := Hx.out.cell 7
      have c8 := Hx.out.cell 8
      have c9 := Hx.out.cell 9
      simp at c0 c1 c2 c3 c4 c5 c6 c7 c8 c9
      go_wp2_with fail
      (with_reducible refine (C3.out _).mono ?_)
      rintro e wc14 ⟨rfl, hbq⟩
      have hx := Hx.out.below hbq Hx.out.lt
      clear Hx
      have Hx := Lib.hid hx
      clear hx
      have hB := HB.out.trans (hbq.mono HB.out.size)
      clear HB
      have HB := Lib.hid hB
      clear hB
      clear hbq
      clear c0 c1 c2 c3 c4 c5 c6 c7 c8 c9
      have c0 := Hx.out.cell 0
      have c1 := Hx.out.cell 1
      have c2 := Hx.out.cell 2
      have c3 := Hx.out.cell 3
      have c4 := Hx.out.cell 4
      have c5 := Hx.out.cell 5
      have c6 := Hx.out.cell 6
      have c7 := Hx.out.cell 7
      have c8 := Hx.out.cell 8
      have c9 := Hx.out.cell 9
      simp at c0 c1 c2 c3 c4 c5 c6 c7 c8 c9
      go_wp2_with fail
      (with_reducible refine (C4.out _).mono ?_)
      rintro e wc15 ⟨rfl, hbq⟩
      have hx := Hx.out.below hbq Hx.out.lt
      clear Hx
      have Hx := Lib.hid hx
      clear hx
      have hB := HB.out.trans (hbq.mono HB.out.size)
      clear HB
      have HB := Lib.hid hB
      clear hB
      clear hbq
      go_wp2_with fail
      (with_reducible refine (alive26 _).mono ?_)
      rintro e wz ⟨rfl, hbz⟩
      have hBz := HB.out.trans (hbz.mono HB.out.size)
      have HBz := Lib.hid hBz
      clear hBz
      go_wp2
      go_ret
      exact ⟨rfl, HBz.out⟩
theorem own : ownKnob Try.prog.godebug = none := by kernel_rfl
theorem laidOut : laidOutB Try.prog = true := by kernel_rfl
set_option maxRecDepth 100000 in
theorem lifted (os : Os) (started : os.Started) (H : Type) (enc : TypeId × Value → H) :
    ReturnsInHanded {} Try.checked os 3 .any (Rows.shiftWindowSpec.pre6 enc Try.prog Try.f3 Rows.shiftWindowRow.domain false) (Rows.shiftWindowSpec.post enc Try.prog Try.f3 false true false false) := by
  refine returnsInHanded_of_change (C := Try.checked) own started (by kernel_rfl) Try.func3
    (ChangeSpec.witness6 (enc := enc) (C := Try.checked) false ⟨#[], #[.int .u16 0, .int .u16 0, .int .u8 0, .int .u8 0], []⟩ 8 (by kernel_rfl) (by kernel_rfl) (by kernel_rfl) (by kernel_rfl)) ?_
  intro W base args ds gs before hval0 hW hcnd _
  have hval : ∀ (j : Nat) t v, Try.f3.params[j]? = some t → args[j]? = some v → Value.okWide Try.prog W .any base t v := hval0
  have hW' := hW
  obtain ⟨p, q, hA0, hV, rfl, hfz, hnd⟩ := hW
  have hA : DataW.TrodAll enc Try.prog W 0 (fun _ => true) true Try.f3.params.toList args.toList ds p := hA0
  rw [Try.params3] at hA hval
  obtain ⟨v0, vs0, d0, ds0, p0, q0, hargs, rfl, rfl, h0, r0⟩ := trodAll_cons hA
  obtain ⟨v1, vs1, d1, ds1, p1, q1, rfl, rfl, rfl, h1, r1⟩ := trodAll_cons r0
  obtain ⟨v2, vs2, d2, ds2, p2, q2, rfl, rfl, rfl, h2, r2⟩ := trodAll_cons r1
  obtain ⟨v3, vs3, d3, ds3, p3, q3, rfl, rfl, rfl, h3, r3⟩ := trodAll_cons r2
  obtain ⟨rfl, rfl, rfl⟩ := trodAll_nil r3
  obtain rfl : args = #[v0, v1, v2, v3] := by cases args; simp_all
  obtain ⟨rfl, rfl⟩ := trodVars_none hV
  obtain ⟨a0, rfl, rfl, rfl, w0⟩ := open_int Try.underlying22 (hval 0 22 v0 rfl rfl) h0
  obtain ⟨a1, rfl, rfl, rfl, w1⟩ := open_int Try.underlying22 (hval 1 22 v1 rfl rfl) h1
  obtain ⟨a2, rfl, rfl, rfl, w2⟩ := open_int Try.underlying5 (hval 2 5 v2 rfl rfl) h2
  obtain ⟨a3, rfl, rfl, rfl, w3⟩ := open_int Try.underlying5 (hval 3 5 v3 rfl rfl) h3
  clear hA0 hval0
  refine (walk a0 a1 a2 a3 W w0 w1 w2 w3).mono fun e W' ⟨he, bel⟩ => ?_
  subst he
  exact ⟨_, rfl, _, _, _, [], _, [], hW', trodAll_mk1 (shut_bool Try.underlying4 _), (trodAll_cons_mk (shut_int Try.underlying22 w0) (trodAll_cons_mk (shut_int Try.underlying22 w1) (trodAll_cons_mk (shut_int Try.underlying5 w2) (trodAll_cons_mk (shut_int Try.underlying5 w3) trodAll_mk0)))), rfl, bel.frame _, fun h => by cases h⟩

theorem over : Rows.shiftWindowRow.holds Try.pinned (OpenSpec.ofChange Rows.shiftWindowSpec) :=
  OpenClaim.holds_of_wide 3 Try.f3 rfl rfl rfl rfl rfl rfl rfl ⟨rfl, rfl, rfl, rfl, rfl⟩ rfl rfl rfl rfl rfl (by kernel_rfl) Try.func3 (by kernel_rfl)
    (of_decide_eq_true (by kernel_rfl)) (by unfold Func.isWrapper; first | (rw [if_pos (by decide +kernel)]; kernel_rfl) | (rw [if_neg (by decide +kernel)]; exact ⟨rfl, rfl⟩))
    (fun os started H enc _ => lifted os started H enc)

/-- THE STATEMENT -/
theorem proved : Rows.ShiftWindowSaid := over
#print axioms proved
end Go.Proofs.Ytgppkfdhfphoeaa.shiftWindow
