/- The statement ShiftTells: the walk. (Printed by gen_tells26.py.) -/
import Derived.Test.YtgppkfdhfphoeaaShiftAlive4
import Derived.Test.YtgppkfdhfphoeaaFlowV
import Derived.Test.YtgppkfdhfphoeaaFlowW
import Derived.Test.YtgppkfdhfphoeaaLoads
import Derived.Test.YtgppkfdhfphoeaaPktMay
set_option linter.unusedVariables false
set_option linter.unusedSimpArgs false
namespace Go.Proofs.Ytgppkfdhfphoeaa
open Go.RowKit Go.BigFrame

theorem eql_shift (X0 X1 X2 X3 X4 X5 X6 X7 X8 X9 : Int) (W : World) : (binOp .eql 27 (.agg #[.int .u32 X0, .int .u16 X1, .int .u32 X2, .int .u16 X3, .int .u32 X4, .int .u32 X5, .int .u32 X6, .int .u32 X7, .int .i64 X8, .int .i64 X9]) (.agg #[.int .u32 X0, .int .u16 X1, .int .u32 X2, .int .u16 X3, .int .u32 X4, .int .u32 X5, .int .u32 X6, .int .u32 X7, .int .i64 X8, .int .i64 X9])).run Try.prog W = .ok (.bool true) W := by
  go_simp
set_option maxRecDepth 100000 in
set_option maxHeartbeats 4000000 in
theorem tells_heavy (w : World) (a0 a1 a2 a3 a4 a5 a6 a7 a8 a9 b0 b1 b2 b3 b4 b5 b6 b7 b8 b9 x0 x1 x2 x3 x4 x5 x6 x7 x8 x9 s0 s1 s2 s3 s4 s5 F s7 m sc vl ec : Int) (sk tm : Bool) (A : Option Addr) (n cp : Nat) (d : ByteArray)
    (hh : ∀ W, Calls Try.prog 8 #[.agg #[.int .u32 s0, .int .u16 s1, .int .u32 s2, .int .u16 s3, .int .u32 s4, .int .u32 s5, .int .u8 F, .int .u16 s7, .int .u16 m, .int .i64 sc, .bool sk, .slice A n cp, .bool tm, .int .u32 vl, .int .u32 ec, .string d]] W fun e w' => e = .returned (.bool true) ∧ Below W.heap.size W w') :
    Calls Try.prog 5 #[.agg #[.int .u32 a0, .int .u16 a1, .int .u32 a2, .int .u16 a3, .int .u32 a4, .int .u32 a5, .int .u32 a6, .int .u32 a7, .int .i64 a8, .int .i64 a9], .agg #[.int .u32 b0, .int .u16 b1, .int .u32 b2, .int .u16 b3, .int .u32 b4, .int .u32 b5, .int .u32 b6, .int .u32 b7, .int .i64 b8, .int .i64 b9], .agg #[.int .u32 s0, .int .u16 s1, .int .u32 s2, .int .u16 s3, .int .u32 s4, .int .u32 s5, .int .u8 F, .int .u16 s7, .int .u16 m, .int .i64 sc, .bool sk, .slice A n cp, .bool tm, .int .u32 vl, .int .u32 ec, .string d], .agg #[.int .u32 x0, .int .u16 x1, .int .u32 x2, .int .u16 x3, .int .u32 x4, .int .u32 x5, .int .u32 x6, .int .u32 x7, .int .i64 x8, .int .i64 x9]] w fun e w' => e = .returned (.bool true) ∧ Below w.heap.size w w' := by
  have hb0 : Below w.heap.size w w := Below.refl _ _
  have HB := Lib.hid hb0
  clear hb0
  have Hh := Lib.hid hh
  clear hh
  go_enter Try.func5, Try.ntmps5
  go_upto_region 1 with fail
  have hp := Blk.alloc (Blk.alloc (Blk.alloc (Blk.new w 34 #[.int .u32 a0, .int .u16 a1, .int .u32 a2, .int .u16 a3, .int .u32 a4, .int .u32 a5, .int .u32 a6, .int .u32 a7, .int .i64 a8, .int .i64 a9]) (.cells #[.int .u32 b0, .int .u16 b1, .int .u32 b2, .int .u16 b3, .int .u32 b4, .int .u32 b5, .int .u32 b6, .int .u32 b7, .int .i64 b8, .int .i64 b9] 34)) (.cells #[.int .u32 s0, .int .u16 s1, .int .u32 s2, .int .u16 s3, .int .u32 s4, .int .u32 s5, .int .u8 F, .int .u16 s7, .int .u16 m, .int .i64 sc, .bool sk, .slice A n cp, .bool tm, .int .u32 vl, .int .u32 ec, .string d] 39)) (.cells #[.int .u32 x0, .int .u16 x1, .int .u32 x2, .int .u16 x3, .int .u32 x4, .int .u32 x5, .int .u32 x6, .int .u32 x7, .int .i64 x8, .int .i64 x9] 27)
  have hq := Blk.alloc (Blk.alloc (Blk.new (w.alloc (.cells #[.int .u32 a0, .int .u16 a1, .int .u32 a2, .int .u16 a3, .int .u32 a4, .int .u32 a5, .int .u32 a6, .int .u32 a7, .int .i64 a8, .int .i64 a9] 34)) 34 #[.int .u32 b0, .int .u16 b1, .int .u32 b2, .int .u16 b3, .int .u32 b4, .int .u32 b5, .int .u32 b6, .int .u32 b7, .int .i64 b8, .int .i64 b9]) (.cells #[.int .u32 s0, .int .u16 s1, .int .u32 s2, .int .u16 s3, .int .u32 s4, .int .u32 s5, .int .u8 F, .int .u16 s7, .int .u16 m, .int .i64 sc, .bool sk, .slice A n cp, .bool tm, .int .u32 vl, .int .u32 ec, .string d] 39)) (.cells #[.int .u32 x0, .int .u16 x1, .int .u32 x2, .int .u16 x3, .int .u32 x4, .int .u32 x5, .int .u32 x6, .int .u32 x7, .int .i64 x8, .int .i64 x9] 27)
  rw [show (w.alloc (.cells #[.int .u32 a0, .int .u16 a1, .int .u32 a2, .int .u16 a3, .int .u32 a4, .int .u32 a5, .int .u32 a6, .int .u32 a7, .int .i64 a8, .int .i64 a9] 34)).heap.size = w.heap.size + 1 by simp] at hq
  have hs := Blk.alloc (Blk.new ((w.alloc (.cells #[.int .u32 a0, .int .u16 a1, .int .u32 a2, .int .u16 a3, .int .u32 a4, .int .u32 a5, .int .u32 a6, .int .u32 a7, .int .i64 a8, .int .i64 a9] 34)).alloc (.cells #[.int .u32 b0, .int .u16 b1, .int .u32 b2, .int .u16 b3, .int .u32 b4, .int .u32 b5, .int .u32 b6, .int .u32 b7, .int .i64 b8, .int .i64 b9] 34)) 39 #[.int .u32 s0, .int .u16 s1, .int .u32 s2, .int .u16 s3, .int .u32 s4, .int .u32 s5, .int .u8 F, .int .u16 s7, .int .u16 m, .int .i64 sc, .bool sk, .slice A n cp, .bool tm, .int .u32 vl, .int .u32 ec, .string d]) (.cells #[.int .u32 x0, .int .u16 x1, .int .u32 x2, .int .u16 x3, .int .u32 x4, .int .u32 x5, .int .u32 x6, .int .u32 x7, .int .i64 x8, .int .i64 x9] 27)
  rw [show ((w.alloc (.cells #[.int .u32 a0, .int .u16 a1, .int .u32 a2, .int .u16 a3, .int .u32 a4, .int .u32 a5, .int .u32 a6, .int .u32 a7, .int .i64 a8, .int .i64 a9] 34)).alloc (.cells #[.int .u32 b0, .int .u16 b1, .int .u32 b2, .int .u16 b3, .int .u32 b4, .int .u32 b5, .int .u32 b6, .int .u32 b7, .int .i64 b8, .int .i64 b9] 34)).heap.size = w.heap.size + 2 by simp] at hs
  have hx := Blk.new (((w.alloc (.cells #[.int .u32 a0, .int .u16 a1, .int .u32 a2, .int .u16 a3, .int .u32 a4, .int .u32 a5, .int .u32 a6, .int .u32 a7, .int .i64 a8, .int .i64 a9] 34)).alloc (.cells #[.int .u32 b0, .int .u16 b1, .int .u32 b2, .int .u16 b3, .int .u32 b4, .int .u32 b5, .int .u32 b6, .int .u32 b7, .int .i64 b8, .int .i64 b9] 34)).alloc (.cells #[.int .u32 s0, .int .u16 s1, .int .u32 s2, .int .u16 s3, .int .u32 s4, .int .u32 s5, .int .u8 F, .int .u16 s7, .int .u16 m, .int .i64 sc, .bool sk, .slice A n cp, .bool tm, .int .u32 vl, .int .u32 ec, .string d] 39)) 27 #[.int .u32 x0, .int .u16 x1, .int .u32 x2, .int .u16 x3, .int .u32 x4, .int .u32 x5, .int .u32 x6, .int .u32 x7, .int .i64 x8, .int .i64 x9]
  rw [show (((w.alloc (.cells #[.int .u32 a0, .int .u16 a1, .int .u32 a2, .int .u16 a3, .int .u32 a4, .int .u32 a5, .int .u32 a6, .int .u32 a7, .int .i64 a8, .int .i64 a9] 34)).alloc (.cells #[.int .u32 b0, .int .u16 b1, .int .u32 b2, .int .u16 b3, .int .u32 b4, .int .u32 b5, .int .u32 b6, .int .u32 b7, .int .i64 b8, .int .i64 b9] 34)).alloc (.cells #[.int .u32 s0, .int .u16 s1, .int .u32 s2, .int .u16 s3, .int .u32 s4, .int .u32 s5, .int .u8 F, .int .u16 s7, .int .u16 m, .int .i64 sc, .bool sk, .slice A n cp, .bool tm, .int .u32 vl, .int .u32 ec, .string d] 39)).heap.size = w.heap.size + 3 by simp] at hx
  have hB := Below.alloc (Below.alloc (Below.alloc (Below.alloc (HB.out) (Nat.le_trans HB.out.size (by simp <;> omega)) (.cells #[.int .u32 a0, .int .u16 a1, .int .u32 a2, .int .u16 a3, .int .u32 a4, .int .u32 a5, .int .u32 a6, .int .u32 a7, .int .i64 a8, .int .i64 a9] 34)) (Nat.le_trans HB.out.size (by simp <;> omega)) (.cells #[.int .u32 b0, .int .u16 b1, .int .u32 b2, .int .u16 b3, .int .u32 b4, .int .u32 b5, .int .u32 b6, .int .u32 b7, .int .i64 b8, .int .i64 b9] 34)) (Nat.le_trans HB.out.size (by simp <;> omega)) (.cells #[.int .u32 s0, .int .u16 s1, .int .u32 s2, .int .u16 s3, .int .u32 s4, .int .u32 s5, .int .u8 F, .int .u16 s7, .int .u16 m, .int .i64 sc, .bool sk, .slice A n cp, .bool tm, .int .u32 vl, .int .u32 ec, .string d] 39)) (Nat.le_trans HB.out.size (by simp <;> omega)) (.cells #[.int .u32 x0, .int .u16 x1, .int .u32 x2, .int .u16 x3, .int .u32 x4, .int .u32 x5, .int .u32 x6, .int .u32 x7, .int .i64 x8, .int .i64 x9] 27)
  clear HB
  obtain ⟨gx, hgex⟩ : ∃ g, g = w.heap.size + 3 := ⟨_, rfl⟩
  rw [← hgex] at hx ⊢
  obtain ⟨gs, hges⟩ : ∃ g, g = w.heap.size + 2 := ⟨_, rfl⟩
  rw [← hges] at hs ⊢
  obtain ⟨gq, hgeq⟩ : ∃ g, g = w.heap.size + 1 := ⟨_, rfl⟩
  rw [← hgeq] at hq ⊢
  obtain ⟨gp, hgep⟩ : ∃ g, g = w.heap.size := ⟨_, rfl⟩
  rw [← hgep] at hp ⊢
  have hne_p_q : gp ≠ gq := by omega
  have hne_p_s : gp ≠ gs := by omega
  have hne_p_x : gp ≠ gx := by omega
  have hne_q_s : gq ≠ gs := by omega
  have hne_q_x : gq ≠ gx := by omega
  have hne_s_x : gs ≠ gx := by omega
  have hle_p : w.heap.size ≤ gp := by omega
  have hle_q : w.heap.size ≤ gq := by omega
  have hle_s : w.heap.size ≤ gs := by omega
  have hle_x : w.heap.size ≤ gx := by omega
  clear hgep hgeq hges hgex
  generalize (((w.alloc _).alloc _).alloc _).alloc _ = wn1 at *
  have Hp := Lib.hid hp
  clear hp
  have Hq := Lib.hid hq
  clear hq
  have Hs := Lib.hid hs
  clear hs
  have Hx := Lib.hid hx
  clear hx
  have HB := Lib.hid hB
  clear hB
  go_wp2_with (first | (refine wpl_load Hp.out legU legI rfl _ rfl rfl ?_) | (refine wpl_load Hq.out legU legI rfl _ rfl rfl ?_) | (refine wpl_load Hs.out segU segI rfl _ rfl rfl ?_) | (refine wpl_load Hx.out shiU shiI rfl _ rfl rfl ?_))
  (with_reducible refine (Hh.out _).mono ?_)
  rintro e w1 ⟨rfl, hbq⟩
  have hp := Hp.out.below hbq Hp.out.lt
  clear Hp
  have Hp := Lib.hid hp
  clear hp
  have hq := Hq.out.below hbq Hq.out.lt
  clear Hq
  have Hq := Lib.hid hq
  clear hq
  have hs := Hs.out.below hbq Hs.out.lt
  clear Hs
  have Hs := Lib.hid hs
  clear hs
  have hx := Hx.out.below hbq Hx.out.lt
  clear Hx
  have Hx := Lib.hid hx
  clear hx
  have hB := HB.out.trans (hbq.mono HB.out.size)
  clear HB
  have HB := Lib.hid hB
  clear hB
  clear hbq
  go_wp2_with fail
  (with_reducible refine (alive26 _).mono ?_)
  rintro e w2 ⟨rfl, hbq⟩
  have hp := Hp.out.below hbq Hp.out.lt
  clear Hp
  have Hp := Lib.hid hp
  clear hp
  have hq := Hq.out.below hbq Hq.out.lt
  clear Hq
  have Hq := Lib.hid hq
  clear hq
  have hs := Hs.out.below hbq Hs.out.lt
  clear Hs
  have Hs := Lib.hid hs
  clear hs
  have hx := Hx.out.below hbq Hx.out.lt
  clear Hx
  have Hx := Lib.hid hx
  clear hx
  have hB := HB.out.trans (hbq.mono HB.out.size)
  clear HB
  have HB := Lib.hid hB
  clear hB
  clear hbq
  go_wp2
  go_ret
  exact ⟨rfl, HB.out⟩
set_option maxRecDepth 100000 in
set_option maxHeartbeats 20000000 in
theorem tells_main (w : World) (a0 a1 a2 a3 a4 a5 a6 a7 a8 a9 b0 b1 b2 b3 b4 b5 b6 b7 b8 b9 x0 x1 x2 x3 x4 x5 x6 x7 x8 x9 s0 s1 s2 s3 s4 s5 F s7 m sc vl ec X0 X1 X2 X3 X4 X5 X6 X7 X8 X9 T0 T1 T2 T3 T4 T5 TF T7 T8 T9 T13 T14 E G wv : Int) (sk tm Tb Tc : Bool) (A : Option Addr) (n cp : Nat) (d td : ByteArray) (L : List (Int × Int))
    (hh : ∀ W, Calls Try.prog 8 #[.agg #[.int .u32 s0, .int .u16 s1, .int .u32 s2, .int .u16 s3, .int .u32 s4, .int .u32 s5, .int .u8 F, .int .u16 s7, .int .u16 m, .int .i64 sc, .bool sk, .slice A n cp, .bool tm, .int .u32 vl, .int .u32 ec, .string d]] W fun e w' => e = .returned (.bool false) ∧ Below W.heap.size W w')
    (hof : ∀ W, Calls Try.prog 9 #[.agg #[.int .u32 a0, .int .u16 a1, .int .u32 a2, .int .u16 a3, .int .u32 a4, .int .u32 a5, .int .u32 a6, .int .u32 a7, .int .i64 a8, .int .i64 a9], .agg #[.int .u32 b0, .int .u16 b1, .int .u32 b2, .int .u16 b3, .int .u32 b4, .int .u32 b5, .int .u32 b6, .int .u32 b7, .int .i64 b8, .int .i64 b9]] W fun e w' => e = .returned (.tuple #[.agg #[.int .u32 X0, .int .u16 X1, .int .u32 X2, .int .u16 X3, .int .u32 X4, .int .u32 X5, .int .u32 X6, .int .u32 X7, .int .i64 X8, .int .i64 X9], .int .i64 E]) ∧ Below W.heap.size W w')
    (hro : ∀ W, Calls Try.prog 12 #[.agg #[.int .u32 a0, .int .u16 a1, .int .u32 a2, .int .u16 a3, .int .u32 a4, .int .u32 a5, .int .u32 a6, .int .u32 a7, .int .i64 a8, .int .i64 a9], .agg #[.int .u32 b0, .int .u16 b1, .int .u32 b2, .int .u16 b3, .int .u32 b4, .int .u32 b5, .int .u32 b6, .int .u32 b7, .int .i64 b8, .int .i64 b9]] W fun e w' => e = .returned (.tuple #[.agg #[.int .u32 X0, .int .u16 X1, .int .u32 X2, .int .u16 X3, .int .u32 X4, .int .u32 X5, .int .u32 X6, .int .u32 X7, .int .i64 X8, .int .i64 X9], .int .i64 E]) ∧ Below W.heap.size W w')
    (hsg : ∀ W, Below w.heap.size w W → Calls Try.prog 10 #[.agg #[.int .u32 x0, .int .u16 x1, .int .u32 x2, .int .u16 x3, .int .u32 x4, .int .u32 x5, .int .u32 x6, .int .u32 x7, .int .i64 x8, .int .i64 x9], .agg #[.int .u32 s0, .int .u16 s1, .int .u32 s2, .int .u16 s3, .int .u32 s4, .int .u32 s5, .int .u8 F, .int .u16 s7, .int .u16 m, .int .i64 sc, .bool sk, .slice A n cp, .bool tm, .int .u32 vl, .int .u32 ec, .string d]] W fun e w' => ∃ A2 cq, e = .returned (.tuple #[.agg #[.int .u32 T0, .int .u16 T1, .int .u32 T2, .int .u16 T3, .int .u32 T4, .int .u32 T5, .int .u8 TF, .int .u16 T7, .int .u16 T8, .int .i64 T9, .bool Tb, .slice A2 L.length cq, .bool Tc, .int .u32 T13, .int .u32 T14, .string td], .int .i64 G]) ∧ BlR w' A2 L ∧ Below W.heap.size W w')
    (hrs : ∀ W, Below w.heap.size w W → Calls Try.prog 13 #[.agg #[.int .u32 x0, .int .u16 x1, .int .u32 x2, .int .u16 x3, .int .u32 x4, .int .u32 x5, .int .u32 x6, .int .u32 x7, .int .i64 x8, .int .i64 x9], .agg #[.int .u32 s0, .int .u16 s1, .int .u32 s2, .int .u16 s3, .int .u32 s4, .int .u32 s5, .int .u8 F, .int .u16 s7, .int .u16 m, .int .i64 sc, .bool sk, .slice A n cp, .bool tm, .int .u32 vl, .int .u32 ec, .string d]] W fun e w' => ∃ A3 cr, e = .returned (.tuple #[.agg #[.int .u32 T0, .int .u16 T1, .int .u32 T2, .int .u16 T3, .int .u32 T4, .int .u32 T5, .int .u8 TF, .int .u16 T7, .int .u16 T8, .int .i64 T9, .bool Tb, .slice A3 L.length cr, .bool Tc, .int .u32 T13, .int .u32 T14, .string td], .int .i64 G]) ∧ BlR w' A3 L ∧ Below W.heap.size W w')
    (hsm : ∀ W A2 A3 cq cr, BlR W A2 L → BlR W A3 L → Calls Try.prog 14 #[.agg #[.int .u32 T0, .int .u16 T1, .int .u32 T2, .int .u16 T3, .int .u32 T4, .int .u32 T5, .int .u8 TF, .int .u16 T7, .int .u16 T8, .int .i64 T9, .bool Tb, .slice A2 L.length cq, .bool Tc, .int .u32 T13, .int .u32 T14, .string td], .agg #[.int .u32 T0, .int .u16 T1, .int .u32 T2, .int .u16 T3, .int .u32 T4, .int .u32 T5, .int .u8 TF, .int .u16 T7, .int .u16 T8, .int .i64 T9, .bool Tb, .slice A3 L.length cr, .bool Tc, .int .u32 T13, .int .u32 T14, .string td]] W fun e w' => e = .returned (.bool true) ∧ Below W.heap.size W w')
    (hwi : ∀ W, Calls Try.prog 6 #[.agg #[.int .u32 x0, .int .u16 x1, .int .u32 x2, .int .u16 x3, .int .u32 x4, .int .u32 x5, .int .u32 x6, .int .u32 x7, .int .i64 x8, .int .i64 x9], .int .u16 s7] W fun e w' => e = .returned (.int .u16 wv) ∧ Below W.heap.size W w')
    (hrw : ∀ W, Calls Try.prog 15 #[.int .u16 s7, .int .i64 x8, .int .i64 x9] W fun e w' => e = .returned (.int .u16 wv) ∧ W = w') :
    Calls Try.prog 5 #[.agg #[.int .u32 a0, .int .u16 a1, .int .u32 a2, .int .u16 a3, .int .u32 a4, .int .u32 a5, .int .u32 a6, .int .u32 a7, .int .i64 a8, .int .i64 a9], .agg #[.int .u32 b0, .int .u16 b1, .int .u32 b2, .int .u16 b3, .int .u32 b4, .int .u32 b5, .int .u32 b6, .int .u32 b7, .int .i64 b8, .int .i64 b9], .agg #[.int .u32 s0, .int .u16 s1, .int .u32 s2, .int .u16 s3, .int .u32 s4, .int .u32 s5, .int .u8 F, .int .u16 s7, .int .u16 m, .int .i64 sc, .bool sk, .slice A n cp, .bool tm, .int .u32 vl, .int .u32 ec, .string d], .agg #[.int .u32 x0, .int .u16 x1, .int .u32 x2, .int .u16 x3, .int .u32 x4, .int .u32 x5, .int .u32 x6, .int .u32 x7, .int .i64 x8, .int .i64 x9]] w fun e w' => e = .returned (.bool true) ∧ Below w.heap.size w w' := by
  have hb0 : Below w.heap.size w w := Below.refl _ _
  have HB := Lib.hid hb0
  clear hb0
  have Hh := Lib.hid hh
  clear hh
  have Hof := Lib.hid hof
  clear hof
  have Hro := Lib.hid hro
  clear hro
  have Hsg := Lib.hid hsg
  clear hsg
  have Hrs := Lib.hid hrs
  clear hrs
  have Hsm := Lib.hid hsm
  clear hsm
  have Hwi := Lib.hid hwi
  clear hwi
  have Hrw := Lib.hid hrw
  clear hrw
  go_enter Try.func5, Try.ntmps5
  go_upto_region 1 with fail
  have hp := Blk.alloc (Blk.alloc (Blk.alloc (Blk.new w 34 #[.int .u32 a0, .int .u16 a1, .int .u32 a2, .int .u16 a3, .int .u32 a4, .int .u32 a5, .int .u32 a6, .int .u32 a7, .int .i64 a8, .int .i64 a9]) (.cells #[.int .u32 b0, .int .u16 b1, .int .u32 b2, .int .u16 b3, .int .u32 b4, .int .u32 b5, .int .u32 b6, .int .u32 b7, .int .i64 b8, .int .i64 b9] 34)) (.cells #[.int .u32 s0, .int .u16 s1, .int .u32 s2, .int .u16 s3, .int .u32 s4, .int .u32 s5, .int .u8 F, .int .u16 s7, .int .u16 m, .int .i64 sc, .bool sk, .slice A n cp, .bool tm, .int .u32 vl, .int .u32 ec, .string d] 39)) (.cells #[.int .u32 x0, .int .u16 x1, .int .u32 x2, .int .u16 x3, .int .u32 x4, .int .u32 x5, .int .u32 x6, .int .u32 x7, .int .i64 x8, .int .i64 x9] 27)
  have hq := Blk.alloc (Blk.alloc (Blk.new (w.alloc (.cells #[.int .u32 a0, .int .u16 a1, .int .u32 a2, .int .u16 a3, .int .u32 a4, .int .u32 a5, .int .u32 a6, .int .u32 a7, .int .i64 a8, .int .i64 a9] 34)) 34 #[.int .u32 b0, .int .u16 b1, .int .u32 b2, .int .u16 b3, .int .u32 b4, .int .u32 b5, .int .u32 b6, .int .u32 b7, .int .i64 b8, .int .i64 b9]) (.cells #[.int .u32 s0, .int .u16 s1, .int .u32 s2, .int .u16 s3, .int .u32 s4, .int .u32 s5, .int .u8 F, .int .u16 s7, .int .u16 m, .int .i64 sc, .bool sk, .slice A n cp, .bool tm, .int .u32 vl, .int .u32 ec, .string d] 39)) (.cells #[.int .u32 x0, .int .u16 x1, .int .u32 x2, .int .u16 x3, .int .u32 x4, .int .u32 x5, .int .u32 x6, .int .u32 x7, .int .i64 x8, .int .i64 x9] 27)
  rw [show (w.alloc (.cells #[.int .u32 a0, .int .u16 a1, .int .u32 a2, .int .u16 a3, .int .u32 a4, .int .u32 a5, .int .u32 a6, .int .u32 a7, .int .i64 a8, .int .i64 a9] 34)).heap.size = w.heap.size + 1 by simp] at hq
  have hs := Blk.alloc (Blk.new ((w.alloc (.cells #[.int .u32 a0, .int .u16 a1, .int .u32 a2, .int .u16 a3, .int .u32 a4, .int .u32 a5, .int .u32 a6, .int .u32 a7, .int .i64 a8, .int .i64 a9] 34)).alloc (.cells #[.int .u32 b0, .int .u16 b1, .int .u32 b2, .int .u16 b3, .int .u32 b4, .int .u32 b5, .int .u32 b6, .int .u32 b7, .int .i64 b8, .int .i64 b9] 34)) 39 #[.int .u32 s0, .int .u16 s1, .int .u32 s2, .int .u16 s3, .int .u32 s4, .int .u32 s5, .int .u8 F, .int .u16 s7, .int .u16 m, .int .i64 sc, .bool sk, .slice A n cp, .bool tm, .int .u32 vl, .int .u32 ec, .string d]) (.cells #[.int .u32 x0, .int .u16 x1, .int .u32 x2, .int .u16 x3, .int .u32 x4, .int .u32 x5, .int .u32 x6, .int .u32 x7, .int .i64 x8, .int .i64 x9] 27)
  rw [show ((w.alloc (.cells #[.int .u32 a0, .int .u16 a1, .int .u32 a2, .int .u16 a3, .int .u32 a4, .int .u32 a5, .int .u32 a6, .int .u32 a7, .int .i64 a8, .int .i64 a9] 34)).alloc (.cells #[.int .u32 b0, .int .u16 b1, .int .u32 b2, .int .u16 b3, .int .u32 b4, .int .u32 b5, .int .u32 b6, .int .u32 b7, .int .i64 b8, .int .i64 b9] 34)).heap.size = w.heap.size + 2 by simp] at hs
  have hx := Blk.new (((w.alloc (.cells #[.int .u32 a0, .int .u16 a1, .int .u32 a2, .int .u16 a3, .int .u32 a4, .int .u32 a5, .int .u32 a6, .int .u32 a7, .int .i64 a8, .int .i64 a9] 34)).alloc (.cells #[.int .u32 b0, .int .u16 b1, .int .u32 b2, .int .u16 b3, .int .u32 b4, .int .u32 b5, .int .u32 b6, .int .u32 b7, .int .i64 b8, .int .i64 b9] 34)).alloc (.cells #[.int .u32 s0, .int .u16 s1, .int .u32 s2, .int .u16 s3, .int .u32 s4, .int .u32 s5, .int .u8 F, .int .u16 s7, .int .u16 m, .int .i64 sc, .bool sk, .slice A n cp, .bool tm, .int .u32 vl, .int .u32 ec, .string d] 39)) 27 #[.int .u32 x0, .int .u16 x1, .int .u32 x2, .int .u16 x3, .int .u32 x4, .int .u32 x5, .int .u32 x6, .int .u32 x7, .int .i64 x8, .int .i64 x9]
  rw [show (((w.alloc (.cells #[.int .u32 a0, .int .u16 a1, .int .u32 a2, .int .u16 a3, .int .u32 a4, .int .u32 a5, .int .u32 a6, .int .u32 a7, .int .i64 a8, .int .i64 a9] 34)).alloc (.cells #[.int .u32 b0, .int .u16 b1, .int .u32 b2, .int .u16 b3, .int .u32 b4, .int .u32 b5, .int .u32 b6, .int .u32 b7, .int .i64 b8, .int .i64 b9] 34)).alloc (.cells #[.int .u32 s0, .int .u16 s1, .int .u32 s2, .int .u16 s3, .int .u32 s4, .int .u32 s5, .int .u8 F, .int .u16 s7, .int .u16 m, .int .i64 sc, .bool sk, .slice A n cp, .bool tm, .int .u32 vl, .int .u32 ec, .string d] 39)).heap.size = w.heap.size + 3 by simp] at hx
  have hB := Below.alloc (Below.alloc (Below.alloc (Below.alloc (HB.out) (Nat.le_trans HB.out.size (by simp <;> omega)) (.cells #[.int .u32 a0, .int .u16 a1, .int .u32 a2, .int .u16 a3, .int .u32 a4, .int .u32 a5, .int .u32 a6, .int .u32 a7, .int .i64 a8, .int .i64 a9] 34)) (Nat.le_trans HB.out.size (by simp <;> omega)) (.cells #[.int .u32 b0, .int .u16 b1, .int .u32 b2, .int .u16 b3, .int .u32 b4, .int .u32 b5, .int .u32 b6, .int .u32 b7, .int .i64 b8, .int .i64 b9] 34)) (Nat.le_trans HB.out.size (by simp <;> omega)) (.cells #[.int .u32 s0, .int .u16 s1, .int .u32 s2, .int .u16 s3, .int .u32 s4, .int .u32 s5, .int .u8 F, .int .u16 s7, .int .u16 m, .int .i64 sc, .bool sk, .slice A n cp, .bool tm, .int .u32 vl, .int .u32 ec, .string d] 39)) (Nat.le_trans HB.out.size (by simp <;> omega)) (.cells #[.int .u32 x0, .int .u16 x1, .int .u32 x2, .int .u16 x3, .int .u32 x4, .int .u32 x5, .int .u32 x6, .int .u32 x7, .int .i64 x8, .int .i64 x9] 27)
  clear HB
  obtain ⟨gx, hgex⟩ : ∃ g, g = w.heap.size + 3 := ⟨_, rfl⟩
  rw [← hgex] at hx ⊢
  obtain ⟨gs, hges⟩ : ∃ g, g = w.heap.size + 2 := ⟨_, rfl⟩
  rw [← hges] at hs ⊢
  obtain ⟨gq, hgeq⟩ : ∃ g, g = w.heap.size + 1 := ⟨_, rfl⟩
  rw [← hgeq] at hq ⊢
  obtain ⟨gp, hgep⟩ : ∃ g, g = w.heap.size := ⟨_, rfl⟩
  rw [← hgep] at hp ⊢
  have hne_p_q : gp ≠ gq := by omega
  have hne_p_s : gp ≠ gs := by omega
  have hne_p_x : gp ≠ gx := by omega
  have hne_q_s : gq ≠ gs := by omega
  have hne_q_x : gq ≠ gx := by omega
  have hne_s_x : gs ≠ gx := by omega
  have hle_p : w.heap.size ≤ gp := by omega
  have hle_q : w.heap.size ≤ gq := by omega
  have hle_s : w.heap.size ≤ gs := by omega
  have hle_x : w.heap.size ≤ gx := by omega
  clear hgep hgeq hges hgex
  generalize (((w.alloc _).alloc _).alloc _).alloc _ = wn2 at *
  have Hp := Lib.hid hp
  clear hp
  have Hq := Lib.hid hq
  clear hq
  have Hs := Lib.hid hs
  clear hs
  have Hx := Lib.hid hx
  clear hx
  have HB := Lib.hid hB
  clear hB
  go_wp2_with (first | (refine wpl_load Hp.out legU legI rfl _ rfl rfl ?_) | (refine wpl_load Hq.out legU legI rfl _ rfl rfl ?_) | (refine wpl_load Hs.out segU segI rfl _ rfl rfl ?_) | (refine wpl_load Hx.out shiU shiI rfl _ rfl rfl ?_))
  (with_reducible refine (Hh.out _).mono ?_)
  rintro e w1 ⟨rfl, hbq⟩
  have hp := Hp.out.below hbq Hp.out.lt
  clear Hp
  have Hp := Lib.hid hp
  clear hp
  have hq := Hq.out.below hbq Hq.out.lt
  clear Hq
  have Hq := Lib.hid hq
  clear hq
  have hs := Hs.out.below hbq Hs.out.lt
  clear Hs
  have Hs := Lib.hid hs
  clear hs
  have hx := Hx.out.below hbq Hx.out.lt
  clear Hx
  have Hx := Lib.hid hx
  clear hx
  have hB := HB.out.trans (hbq.mono HB.out.size)
  clear HB
  have HB := Lib.hid hB
  clear hB
  clear hbq
  go_wp2_with (first | (refine wpl_load Hp.out legU legI rfl _ rfl rfl ?_) | (refine wpl_load Hq.out legU legI rfl _ rfl rfl ?_) | (refine wpl_load Hs.out segU segI rfl _ rfl rfl ?_) | (refine wpl_load Hx.out shiU shiI rfl _ rfl rfl ?_))
  (with_reducible refine (Hof.out _).mono ?_)
  rintro e w2 ⟨rfl, hbq⟩
  have hp := Hp.out.below hbq Hp.out.lt
  clear Hp
  have Hp := Lib.hid hp
  clear hp
  have hq := Hq.out.below hbq Hq.out.lt
  clear Hq
  have Hq := Lib.hid hq
  clear hq
  have hs := Hs.out.below hbq Hs.out.lt
  clear Hs
  have Hs := Lib.hid hs
  clear hs
  have hx := Hx.out.below hbq Hx.out.lt
  clear Hx
  have Hx := Lib.hid hx
  clear hx
  have hB := HB.out.trans (hbq.mono HB.out.size)
  clear HB
  have HB := Lib.hid hB
  clear hB
  clear hbq
  go_upto_region 4 with fail
  have hu := Blk.new w2 27 #[.int .u32 X0, .int .u16 X1, .int .u32 X2, .int .u16 X3, .int .u32 X4, .int .u32 X5, .int .u32 X6, .int .u32 X7, .int .i64 X8, .int .i64 X9]
  have hp := Blk.alloc Hp.out (.cells #[.int .u32 X0, .int .u16 X1, .int .u32 X2, .int .u16 X3, .int .u32 X4, .int .u32 X5, .int .u32 X6, .int .u32 X7, .int .i64 X8, .int .i64 X9] 27)
  clear Hp
  have hq := Blk.alloc Hq.out (.cells #[.int .u32 X0, .int .u16 X1, .int .u32 X2, .int .u16 X3, .int .u32 X4, .int .u32 X5, .int .u32 X6, .int .u32 X7, .int .i64 X8, .int .i64 X9] 27)
  clear Hq
  have hs := Blk.alloc Hs.out (.cells #[.int .u32 X0, .int .u16 X1, .int .u32 X2, .int .u16 X3, .int .u32 X4, .int .u32 X5, .int .u32 X6, .int .u32 X7, .int .i64 X8, .int .i64 X9] 27)
  clear Hs
  have hx := Blk.alloc Hx.out (.cells #[.int .u32 X0, .int .u16 X1, .int .u32 X2, .int .u16 X3, .int .u32 X4, .int .u32 X5, .int .u32 X6, .int .u32 X7, .int .i64 X8, .int .i64 X9] 27)
  clear Hx
  have hB := HB.out.alloc HB.out.size (.cells #[.int .u32 X0, .int .u16 X1, .int .u32 X2, .int .u16 X3, .int .u32 X4, .int .u32 X5, .int .u32 X6, .int .u32 X7, .int .i64 X8, .int .i64 X9] 27)
  clear HB
  obtain ⟨gu, hge⟩ : ∃ g, g = w2.heap.size := ⟨_, rfl⟩
  rw [← hge] at hu ⊢
  clear hge
  generalize w2.alloc _ = w3 at *
  have Hp := Lib.hid hp
  clear hp
  have Hq := Lib.hid hq
  clear hq
  have Hs := Lib.hid hs
  clear hs
  have Hx := Lib.hid hx
  clear hx
  have Hu := Lib.hid hu
  clear hu
  have HB := Lib.hid hB
  clear hB
  go_wp2_with (first | (refine wpl_load Hp.out legU legI rfl _ rfl rfl ?_) | (refine wpl_load Hq.out legU legI rfl _ rfl rfl ?_) | (refine wpl_load Hs.out segU segI rfl _ rfl rfl ?_) | (refine wpl_load Hx.out shiU shiI rfl _ rfl rfl ?_))
  (with_reducible refine (Hro.out _).mono ?_)
  rintro e w4 ⟨rfl, hbq⟩
  have hp := Hp.out.below hbq Hp.out.lt
  clear Hp
  have Hp := Lib.hid hp
  clear hp
  have hq := Hq.out.below hbq Hq.out.lt
  clear Hq
  have Hq := Lib.hid hq
  clear hq
  have hs := Hs.out.below hbq Hs.out.lt
  clear Hs
  have Hs := Lib.hid hs
  clear hs
  have hx := Hx.out.below hbq Hx.out.lt
  clear Hx
  have Hx := Lib.hid hx
  clear hx
  have hu := Hu.out.below hbq Hu.out.lt
  clear Hu
  have Hu := Lib.hid hu
  clear hu
  have hB := HB.out.trans (hbq.mono HB.out.size)
  clear HB
  have HB := Lib.hid hB
  clear hB
  clear hbq
  go_upto_region 5 with fail
  have hv := Blk.new w4 27 #[.int .u32 X0, .int .u16 X1, .int .u32 X2, .int .u16 X3, .int .u32 X4, .int .u32 X5, .int .u32 X6, .int .u32 X7, .int .i64 X8, .int .i64 X9]
  have hp := Blk.alloc Hp.out (.cells #[.int .u32 X0, .int .u16 X1, .int .u32 X2, .int .u16 X3, .int .u32 X4, .int .u32 X5, .int .u32 X6, .int .u32 X7, .int .i64 X8, .int .i64 X9] 27)
  clear Hp
  have hq := Blk.alloc Hq.out (.cells #[.int .u32 X0, .int .u16 X1, .int .u32 X2, .int .u16 X3, .int .u32 X4, .int .u32 X5, .int .u32 X6, .int .u32 X7, .int .i64 X8, .int .i64 X9] 27)
  clear Hq
  have hs := Blk.alloc Hs.out (.cells #[.int .u32 X0, .int .u16 X1, .int .u32 X2, .int .u16 X3, .int .u32 X4, .int .u32 X5, .int .u32 X6, .int .u32 X7, .int .i64 X8, .int .i64 X9] 27)
  clear Hs
  have hx := Blk.alloc Hx.out (.cells #[.int .u32 X0, .int .u16 X1, .int .u32 X2, .int .u16 X3, .int .u32 X4, .int .u32 X5, .int .u32 X6, .int .u32 X7, .int .i64 X8, .int .i64 X9] 27)
  clear Hx
  have hu := Blk.alloc Hu.out (.cells #[.int .u32 X0, .int .u16 X1, .int .u32 X2, .int .u16 X3, .int .u32 X4, .int .u32 X5, .int .u32 X6, .int .u32 X7, .int .i64 X8, .int .i64 X9] 27)
  clear Hu
  have hB := HB.out.alloc HB.out.size (.cells #[.int .u32 X0, .int .u16 X1, .int .u32 X2, .int .u16 X3, .int .u32 X4, .int .u32 X5, .int .u32 X6, .int .u32 X7, .int .i64 X8, .int .i64 X9] 27)
  clear HB
  obtain ⟨gv, hge⟩ : ∃ g, g = w4.heap.size := ⟨_, rfl⟩
  rw [← hge] at hv ⊢
  clear hge
  generalize w4.alloc _ = w5 at *
  have Hp := Lib.hid hp
  clear hp
  have Hq := Lib.hid hq
  clear hq
  have Hs := Lib.hid hs
  clear hs
  have Hx := Lib.hid hx
  clear hx
  have Hu := Lib.hid hu
  clear hu
  have Hv := Lib.hid hv
  clear hv
  have HB := Lib.hid hB
  clear hB
  go_wp2_with (first | (refine wpl_load Hp.out legU legI rfl _ rfl rfl ?_) | (refine wpl_load Hq.out legU legI rfl _ rfl rfl ?_) | (refine wpl_load Hs.out segU segI rfl _ rfl rfl ?_) | (refine wpl_load Hx.out shiU shiI rfl _ rfl rfl ?_))
  (with_reducible refine (Hsg.out _ HB.out).mono ?_)
  rintro e w6 ⟨A2, cq, rfl, hl2, hbq⟩
  have hp := Hp.out.below hbq Hp.out.lt
  clear Hp
  have Hp := Lib.hid hp
  clear hp
  have hq := Hq.out.below hbq Hq.out.lt
  clear Hq
  have Hq := Lib.hid hq
  clear hq
  have hs := Hs.out.below hbq Hs.out.lt
  clear Hs
  have Hs := Lib.hid hs
  clear hs
  have hx := Hx.out.below hbq Hx.out.lt
  clear Hx
  have Hx := Lib.hid hx
  clear hx
  have hu := Hu.out.below hbq Hu.out.lt
  clear Hu
  have Hu := Lib.hid hu
  clear hu
  have hv := Hv.out.below hbq Hv.out.lt
  clear Hv
  have Hv := Lib.hid hv
  clear hv
  have hB := HB.out.trans (hbq.mono HB.out.size)
  clear HB
  have HB := Lib.hid hB
  clear hB
  clear hbq
  go_upto_region 6 with fail
  have hl2 := hl2.below ((Below.refl _ _).alloc (Nat.le_refl _) (.cells #[.int .u32 T0, .int .u16 T1, .int .u32 T2, .int .u16 T3, .int .u32 T4, .int .u32 T5, .int .u8 TF, .int .u16 T7, .int .u16 T8, .int .i64 T9, .bool Tb, .slice A2 L.length cq, .bool Tc, .int .u32 T13, .int .u32 T14, .string td] 39))
  have ht := Blk.new w6 39 #[.int .u32 T0, .int .u16 T1, .int .u32 T2, .int .u16 T3, .int .u32 T4, .int .u32 T5, .int .u8 TF, .int .u16 T7, .int .u16 T8, .int .i64 T9, .bool Tb, .slice A2 L.length cq, .bool Tc, .int .u32 T13, .int .u32 T14, .string td]
  have hp := Blk.alloc Hp.out (.cells #[.int .u32 T0, .int .u16 T1, .int .u32 T2, .int .u16 T3, .int .u32 T4, .int .u32 T5, .int .u8 TF, .int .u16 T7, .int .u16 T8, .int .i64 T9, .bool Tb, .slice A2 L.length cq, .bool Tc, .int .u32 T13, .int .u32 T14, .string td] 39)
  clear Hp
  have hq := Blk.alloc Hq.out (.cells #[.int .u32 T0, .int .u16 T1, .int .u32 T2, .int .u16 T3, .int .u32 T4, .int .u32 T5, .int .u8 TF, .int .u16 T7, .int .u16 T8, .int .i64 T9, .bool Tb, .slice A2 L.length cq, .bool Tc, .int .u32 T13, .int .u32 T14, .string td] 39)
  clear Hq
  have hs := Blk.alloc Hs.out (.cells #[.int .u32 T0, .int .u16 T1, .int .u32 T2, .int .u16 T3, .int .u32 T4, .int .u32 T5, .int .u8 TF, .int .u16 T7, .int .u16 T8, .int .i64 T9, .bool Tb, .slice A2 L.length cq, .bool Tc, .int .u32 T13, .int .u32 T14, .string td] 39)
  clear Hs
  have hx := Blk.alloc Hx.out (.cells #[.int .u32 T0, .int .u16 T1, .int .u32 T2, .int .u16 T3, .int .u32 T4, .int .u32 T5, .int .u8 TF, .int .u16 T7, .int .u16 T8, .int .i64 T9, .bool Tb, .slice A2 L.length cq, .bool Tc, .int .u32 T13, .int .u32 T14, .string td] 39)
  clear Hx
  have hu := Blk.alloc Hu.out (.cells #[.int .u32 T0, .int .u16 T1, .int .u32 T2, .int .u16 T3, .int .u32 T4, .int .u32 T5, .int .u8 TF, .int .u16 T7, .int .u16 T8, .int .i64 T9, .bool Tb, .slice A2 L.length cq, .bool Tc, .int .u32 T13, .int .u32 T14, .string td] 39)
  clear Hu
  have hv := Blk.alloc Hv.out (.cells #[.int .u32 T0, .int .u16 T1, .int .u32 T2, .int .u16 T3, .int .u32 T4, .int .u32 T5, .int .u8 TF, .int .u16 T7, .int .u16 T8, .int .i64 T9, .bool Tb, .slice A2 L.length cq, .bool Tc, .int .u32 T13, .int .u32 T14, .string td] 39)
  clear Hv
  have hB := HB.out.alloc HB.out.size (.cells #[.int .u32 T0, .int .u16 T1, .int .u32 T2, .int .u16 T3, .int .u32 T4, .int .u32 T5, .int .u8 TF, .int .u16 T7, .int .u16 T8, .int .i64 T9, .bool Tb, .slice A2 L.length cq, .bool Tc, .int .u32 T13, .int .u32 T14, .string td] 39)
  clear HB
  obtain ⟨gt, hge⟩ : ∃ g, g = w6.heap.size := ⟨_, rfl⟩
  rw [← hge] at ht ⊢
  clear hge
  generalize w6.alloc _ = w7 at *
  have Hp := Lib.hid hp
  clear hp
  have Hq := Lib.hid hq
  clear hq
  have Hs := Lib.hid hs
  clear hs
  have Hx := Lib.hid hx
  clear hx
  have Hu := Lib.hid hu
  clear hu
  have Hv := Lib.hid hv
  clear hv
  have Ht := Lib.hid ht
  clear ht
  have HB := Lib.hid hB
  clear hB
  go_wp2_with (first | (refine wpl_load Hp.out legU legI rfl _ rfl rfl ?_) | (refine wpl_load Hq.out legU legI rfl _ rfl rfl ?_) | (refine wpl_load Hs.out segU segI rfl _ rfl rfl ?_) | (refine wpl_load Hx.out shiU shiI rfl _ rfl rfl ?_))
  (with_reducible refine (Hrs.out _ HB.out).mono ?_)
  rintro e w8 ⟨A3, cr, rfl, hl3, hbq⟩
  have hl2 := hl2.below hbq
  have hp := Hp.out.below hbq Hp.out.lt
  clear Hp
  have Hp := Lib.hid hp
  clear hp
  have hq := Hq.out.below hbq Hq.out.lt
  clear Hq
  have Hq := Lib.hid hq
  clear hq
  have hs := Hs.out.below hbq Hs.out.lt
  clear Hs
  have Hs := Lib.hid hs
  clear hs
  have hx := Hx.out.below hbq Hx.out.lt
  clear Hx
  have Hx := Lib.hid hx
  clear hx
  have hu := Hu.out.below hbq Hu.out.lt
  clear Hu
  have Hu := Lib.hid hu
  clear hu
  have hv := Hv.out.below hbq Hv.out.lt
  clear Hv
  have Hv := Lib.hid hv
  clear hv
  have ht := Ht.out.below hbq Ht.out.lt
  clear Ht
  have Ht := Lib.hid ht
  clear ht
  have hB := HB.out.trans (hbq.mono HB.out.size)
  clear HB
  have HB := Lib.hid hB
  clear hB
  clear hbq
  go_upto_region 7 with fail
  have hl2 := hl2.below ((Below.refl _ _).alloc (Nat.le_refl _) (.cells #[.int .u32 T0, .int .u16 T1, .int .u32 T2, .int .u16 T3, .int .u32 T4, .int .u32 T5, .int .u8 TF, .int .u16 T7, .int .u16 T8, .int .i64 T9, .bool Tb, .slice A3 L.length cr, .bool Tc, .int .u32 T13, .int .u32 T14, .string td] 39))
  have hl3 := hl3.below ((Below.refl _ _).alloc (Nat.le_refl _) (.cells #[.int .u32 T0, .int .u16 T1, .int .u32 T2, .int .u16 T3, .int .u32 T4, .int .u32 T5, .int .u8 TF, .int .u16 T7, .int .u16 T8, .int .i64 T9, .bool Tb, .slice A3 L.length cr, .bool Tc, .int .u32 T13, .int .u32 T14, .string td] 39))
  have hz := Blk.new w8 39 #[.int .u32 T0, .int .u16 T1, .int .u32 T2, .int .u16 T3, .int .u32 T4, .int .u32 T5, .int .u8 TF, .int .u16 T7, .int .u16 T8, .int .i64 T9, .bool Tb, .slice A3 L.length cr, .bool Tc, .int .u32 T13, .int .u32 T14, .string td]
  have hp := Blk.alloc Hp.out (.cells #[.int .u32 T0, .int .u16 T1, .int .u32 T2, .int .u16 T3, .int .u32 T4, .int .u32 T5, .int .u8 TF, .int .u16 T7, .int .u16 T8, .int .i64 T9, .bool Tb, .slice A3 L.length cr, .bool Tc, .int .u32 T13, .int .u32 T14, .string td] 39)
  clear Hp
  have hq := Blk.alloc Hq.out (.cells #[.int .u32 T0, .int .u16 T1, .int .u32 T2, .int .u16 T3, .int .u32 T4, .int .u32 T5, .int .u8 TF, .int .u16 T7, .int .u16 T8, .int .i64 T9, .bool Tb, .slice A3 L.length cr, .bool Tc, .int .u32 T13, .int .u32 T14, .string td] 39)
  clear Hq
  have hs := Blk.alloc Hs.out (.cells #[.int .u32 T0, .int .u16 T1, .int .u32 T2, .int .u16 T3, .int .u32 T4, .int .u32 T5, .int .u8 TF, .int .u16 T7, .int .u16 T8, .int .i64 T9, .bool Tb, .slice A3 L.length cr, .bool Tc, .int .u32 T13, .int .u32 T14, .string td] 39)
  clear Hs
  have hx := Blk.alloc Hx.out (.cells #[.int .u32 T0, .int .u16 T1, .int .u32 T2, .int .u16 T3, .int .u32 T4, .int .u32 T5, .int .u8 TF, .int .u16 T7, .int .u16 T8, .int .i64 T9, .bool Tb, .slice A3 L.length cr, .bool Tc, .int .u32 T13, .int .u32 T14, .string td] 39)
  clear Hx
  have hu := Blk.alloc Hu.out (.cells #[.int .u32 T0, .int .u16 T1, .int .u32 T2, .int .u16 T3, .int .u32 T4, .int .u32 T5, .int .u8 TF, .int .u16 T7, .int .u16 T8, .int .i64 T9, .bool Tb, .slice A3 L.length cr, .bool Tc, .int .u32 T13, .int .u32 T14, .string td] 39)
  clear Hu
  have hv := Blk.alloc Hv.out (.cells #[.int .u32 T0, .int .u16 T1, .int .u32 T2, .int .u16 T3, .int .u32 T4, .int .u32 T5, .int .u8 TF, .int .u16 T7, .int .u16 T8, .int .i64 T9, .bool Tb, .slice A3 L.length cr, .bool Tc, .int .u32 T13, .int .u32 T14, .string td] 39)
  clear Hv
  have ht := Blk.alloc Ht.out (.cells #[.int .u32 T0, .int .u16 T1, .int .u32 T2, .int .u16 T3, .int .u32 T4, .int .u32 T5, .int .u8 TF, .int .u16 T7, .int .u16 T8, .int .i64 T9, .bool Tb, .slice A3 L.length cr, .bool Tc, .int .u32 T13, .int .u32 T14, .string td] 39)
  clear Ht
  have hB := HB.out.alloc HB.out.size (.cells #[.int .u32 T0, .int .u16 T1, .int .u32 T2, .int .u16 T3, .int .u32 T4, .int .u32 T5, .int .u8 TF, .int .u16 T7, .int .u16 T8, .int .i64 T9, .bool Tb, .slice A3 L.length cr, .bool Tc, .int .u32 T13, .int .u32 T14, .string td] 39)
  clear HB
  obtain ⟨gz, hge⟩ : ∃ g, g = w8.heap.size := ⟨_, rfl⟩
  rw [← hge] at hz ⊢
  clear hge
  generalize w8.alloc _ = w9 at *
  have Hp := Lib.hid hp
  clear hp
  have Hq := Lib.hid hq
  clear hq
  have Hs := Lib.hid hs
  clear hs
  have Hx := Lib.hid hx
  clear hx
  have Hu := Lib.hid hu
  clear hu
  have Hv := Lib.hid hv
  clear hv
  have Ht := Lib.hid ht
  clear ht
  have Hz := Lib.hid hz
  clear hz
  have HB := Lib.hid hB
  clear hB
  have hs := Hs.out
  have hx := Hx.out
  have hu := Hu.out
  have hv := Hv.out
  have ht := Ht.out
  have hz := Hz.out
  have hS0 : Fresh w9 w9 := Below.refl _ _
  have ne : Nonempty (Cls (Fresh w9)) := ⟨⟨w9, hS0⟩⟩
  have k7 : ∀ y : Cls (Fresh w9), y.w.cell? ⟨gs, 7, none⟩ = some (.int .u16 s7) := fun y => (hs.below y.h hs.lt).cell 7
  have k8 : ∀ y : Cls (Fresh w9), y.w.cell? ⟨gx, 8, none⟩ = some (.int .i64 x8) := fun y => (hx.below y.h hx.lt).cell 8
  have k9 : ∀ y : Cls (Fresh w9), y.w.cell? ⟨gx, 9, none⟩ = some (.int .i64 x9) := fun y => (hx.below y.h hx.lt).cell 9
  have cf1 : ∀ (vals : Array Value) (w : World), (callFunc 14 vals).run Try.prog w = .ok (.enter 14 vals) w := fun _ _ => by kernel_rfl
  have cf2 : ∀ (vals : Array Value) (w : World), (callFunc 6 vals).run Try.prog w = .ok (.enter 6 vals) w := fun _ _ => by kernel_rfl
  have cf3 : ∀ (vals : Array Value) (w : World), (callFunc 15 vals).run Try.prog w = .ok (.enter 15 vals) w := fun _ _ => by kernel_rfl
  have cf4 : ∀ (vals : Array Value) (w : World), (callFunc 7 vals).run Try.prog w = .ok (.enter 7 vals) w := fun _ _ => by kernel_rfl
  have m1 : ∀ y : Cls (Fresh w9), Calls Try.prog 14 #[.agg #[.int .u32 T0, .int .u16 T1, .int .u32 T2, .int .u16 T3, .int .u32 T4, .int .u32 T5, .int .u8 TF, .int .u16 T7, .int .u16 T8, .int .i64 T9, .bool Tb, .slice A2 L.length cq, .bool Tc, .int .u32 T13, .int .u32 T14, .string td], .agg #[.int .u32 T0, .int .u16 T1, .int .u32 T2, .int .u16 T3, .int .u32 T4, .int .u32 T5, .int .u8 TF, .int .u16 T7, .int .u16 T8, .int .i64 T9, .bool Tb, .slice A3 L.length cr, .bool Tc, .int .u32 T13, .int .u32 T14, .string td]] y.w fun e w'' => e = .returned (.bool true) ∧ Fresh w9 w'' ∧ Below y.w.heap.size y.w w'' := fun y => (Hsm.out y.w A2 A3 cq cr (hl2.below y.h) (hl3.below y.h)).mono fun e w' ⟨he, hb⟩ => ⟨he, Fresh.below y.h hb, hb⟩
  have m2 : ∀ y : Cls (Fresh w9), Calls Try.prog 6 #[.agg #[.int .u32 x0, .int .u16 x1, .int .u32 x2, .int .u16 x3, .int .u32 x4, .int .u32 x5, .int .u32 x6, .int .u32 x7, .int .i64 x8, .int .i64 x9], .int .u16 s7] y.w fun e w'' => e = .returned (.int .u16 wv) ∧ Fresh w9 w'' ∧ Below y.w.heap.size y.w w'' := fun y => (Hwi.out y.w).mono fun e w' ⟨he, hb⟩ => ⟨he, Fresh.below y.h hb, hb⟩
  have m3 : ∀ y : Cls (Fresh w9), Calls Try.prog 15 #[.int .u16 s7, .int .i64 x8, .int .i64 x9] y.w fun e w'' => e = .returned (.int .u16 wv) ∧ Fresh w9 w'' ∧ Below y.w.heap.size y.w w'' := fun y => (Hrw.out y.w).mono fun e w' ⟨he, hb⟩ => ⟨he, hb ▸ y.h, hb ▸ Below.refl _ _⟩
  have m4 : ∀ y : Cls (Fresh w9), Calls Try.prog 7 #[] y.w fun e w'' => e = .returned (.bool true) ∧ Fresh w9 w'' ∧ Below y.w.heap.size y.w w'' := fun y => (alive26 y.w).mono fun e w' ⟨he, hb⟩ => ⟨he, Fresh.below y.h hb, hb⟩
  have hbx : ∀ y : Cls (Fresh w9), Blk y.w gx 27 #[.int .u32 x0, .int .u16 x1, .int .u32 x2, .int .u16 x3, .int .u32 x4, .int .u32 x5, .int .u32 x6, .int .u32 x7, .int .i64 x8, .int .i64 x9] := fun y => hx.below y.h hx.lt
  have hbu : ∀ y : Cls (Fresh w9), Blk y.w gu 27 #[.int .u32 X0, .int .u16 X1, .int .u32 X2, .int .u16 X3, .int .u32 X4, .int .u32 X5, .int .u32 X6, .int .u32 X7, .int .i64 X8, .int .i64 X9] := fun y => hu.below y.h hu.lt
  have hbv : ∀ y : Cls (Fresh w9), Blk y.w gv 27 #[.int .u32 X0, .int .u16 X1, .int .u32 X2, .int .u16 X3, .int .u32 X4, .int .u32 X5, .int .u32 X6, .int .u32 X7, .int .i64 X8, .int .i64 X9] := fun y => hv.below y.h hv.lt
  have hbt : ∀ y : Cls (Fresh w9), Blk y.w gt 39 #[.int .u32 T0, .int .u16 T1, .int .u32 T2, .int .u16 T3, .int .u32 T4, .int .u32 T5, .int .u8 TF, .int .u16 T7, .int .u16 T8, .int .i64 T9, .bool Tb, .slice A2 L.length cq, .bool Tc, .int .u32 T13, .int .u32 T14, .string td] := fun y => ht.below y.h ht.lt
  have hbz : ∀ y : Cls (Fresh w9), Blk y.w gz 39 #[.int .u32 T0, .int .u16 T1, .int .u32 T2, .int .u16 T3, .int .u32 T4, .int .u32 T5, .int .u8 TF, .int .u16 T7, .int .u16 T8, .int .i64 T9, .bool Tb, .slice A3 L.length cr, .bool Tc, .int .u32 T13, .int .u32 T14, .string td] := fun y => hz.below y.h hz.lt
  have eqs : ∀ y : Cls (Fresh w9), (binOp .eql 27 (.agg #[.int .u32 X0, .int .u16 X1, .int .u32 X2, .int .u16 X3, .int .u32 X4, .int .u32 X5, .int .u32 X6, .int .u32 X7, .int .i64 X8, .int .i64 X9]) (.agg #[.int .u32 X0, .int .u16 X1, .int .u32 X2, .int .u16 X3, .int .u32 X4, .int .u32 X5, .int .u32 X6, .int .u32 X7, .int .i64 X8, .int .i64 X9])).run Try.prog y.w = .ok (.bool true) y.w := fun y => eql_shift _ _ _ _ _ _ _ _ _ _ y.w
  have eE : (E == E) = true := beq_self_eq_true _
  have eG : (G == G) = true := beq_self_eq_true _
  have eW : (wv == wv) = true := beq_self_eq_true _
  have Cf1 := Lib.hid cf1
  clear cf1
  have Cf2 := Lib.hid cf2
  clear cf2
  have Cf3 := Lib.hid cf3
  clear cf3
  have Cf4 := Lib.hid cf4
  clear cf4
  have M1 := Lib.hid m1
  clear m1
  have M2 := Lib.hid m2
  clear m2
  have M3 := Lib.hid m3
  clear m3
  have M4 := Lib.hid m4
  clear m4
  have Hbx := Lib.hid hbx
  clear hbx
  have Hbu := Lib.hid hbu
  clear hbu
  have Hbv := Lib.hid hbv
  clear hbv
  have Hbt := Lib.hid hbt
  clear hbt
  have Hbz := Lib.hid hbz
  clear hbz
  clear hs hx hu hv ht hz hl2 hl3 Hs Hx Hu Hv Ht Hz Hp Hq
  refine wp_region_flow 35 (Fresh w9) (fun w w' => Below w.heap.size w w') (by kernel_rfl) (by kernel_rfl) (by kernel_rfl) (fun w => Below.refl _ _) (Fresh.below hS0 (Below.drew (Below.refl _ _))) ?_
  simp only [List.take_succ_cons, List.take_zero, List.drop_succ_cons, List.drop_zero]
  repeat (first
    | (refine flow_load gu _ Hbu.out shiU shiI rfl (fun w => Below.refl _ _) rfl rfl rfl w9 ?_; intro K hK; go_big_quiet_op; go_big_quiet_on)
    | (refine flow_load gv _ Hbv.out shiU shiI rfl (fun w => Below.refl _ _) rfl rfl rfl w9 ?_; intro K hK; go_big_quiet_op; go_big_quiet_on)
    | (refine flow_load gx _ Hbx.out shiU shiI rfl (fun w => Below.refl _ _) rfl rfl rfl w9 ?_; intro K hK; go_big_quiet_op; go_big_quiet_on)
    | (refine flow_load gt _ Hbt.out segU segI rfl (fun w => Below.refl _ _) rfl rfl rfl w9 ?_; intro K hK; go_big_quiet_op; go_big_quiet_on)
    | (refine flow_load gz _ Hbz.out segU segI rfl (fun w => Below.refl _ _) rfl rfl rfl w9 ?_; intro K hK; go_big_quiet_op; go_big_quiet_on)
    | (refine flow_quiet (fun w => Below.refl _ _) rfl rfl rfl rfl ?_; intro K hK; go_big_quiet_op; go_big_quiet_on)
    | (refine flow_call Cf1.out _ ?_ rfl rfl rfl _ M1.out w9 ?_; (focus (simp only [List.map_toArray, List.map_cons, List.map_nil]; rfl)); intro K hK; go_big_quiet_op; go_big_quiet_on)
    | (refine flow_call Cf2.out _ ?_ rfl rfl rfl _ M2.out w9 ?_; (focus (simp only [List.map_toArray, List.map_cons, List.map_nil]; rfl)); intro K hK; go_big_quiet_op; go_big_quiet_on)
    | (refine flow_call Cf3.out _ ?_ rfl rfl rfl _ M3.out w9 ?_; (focus (simp only [List.map_toArray, List.map_cons, List.map_nil]; rfl)); intro K hK; go_big_quiet_op; go_big_quiet_on)
    | (refine flow_call Cf4.out _ ?_ rfl rfl rfl _ M4.out w9 ?_; (focus simp); intro K hK; go_big_quiet_op; go_big_quiet_on))
  refine flow_nil ?_
  intro W13 f hW hF
  simp only [fillW]
  have HW := Lib.hid hW
  clear hF f hW
  go_wp2
  go_ret
  exact ⟨rfl, HB.out.trans (HW.out.mono HB.out.size)⟩
end Go.Proofs.Ytgppkfdhfphoeaa
