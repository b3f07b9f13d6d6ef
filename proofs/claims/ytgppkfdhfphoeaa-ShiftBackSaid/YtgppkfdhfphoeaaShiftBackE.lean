/- The statement ShiftBack: the easy ways: a segment of more than it looks at; shifts, or a segment, that may not be. (Printed by gen_back2.py.) -/
import Derived.Test.YtgppkfdhfphoeaaShiftAlive4
import Derived.Test.YtgppkfdhfphoeaaLoads
import Derived.Deep.DeepCutAuto
set_option linter.unusedVariables false
set_option linter.unusedSimpArgs false
namespace Go.Proofs.Ytgppkfdhfphoeaa
open Go.RowKit Go.BigFrame

set_option maxRecDepth 100000 in
set_option maxHeartbeats 8000000 in
theorem back_heavy (w : World) (a0 a1 a2 a3 a4 a5 a6 a7 a8 a9 b0 b1 b2 b3 b4 b5 b6 b7 b8 b9 s0 s1 s2 s3 s4 s5 F s7 m sc vl ec : Int) (sk tm : Bool) (A : Option Addr) (n cp : Nat) (d : ByteArray)
    (hh : ∀ W, Calls Try.prog 8 #[.agg #[.int .u32 s0, .int .u16 s1, .int .u32 s2, .int .u16 s3, .int .u32 s4, .int .u32 s5, .int .u8 F, .int .u16 s7, .int .u16 m, .int .i64 sc, .bool sk, .slice A n cp, .bool tm, .int .u32 vl, .int .u32 ec, .string d]] W fun e w' => e = .returned (.bool true) ∧ Below W.heap.size W w') :
    Calls Try.prog 4 #[.agg #[.int .u32 a0, .int .u16 a1, .int .u32 a2, .int .u16 a3, .int .u32 a4, .int .u32 a5, .int .u32 a6, .int .u32 a7, .int .i64 a8, .int .i64 a9], .agg #[.int .u32 b0, .int .u16 b1, .int .u32 b2, .int .u16 b3, .int .u32 b4, .int .u32 b5, .int .u32 b6, .int .u32 b7, .int .i64 b8, .int .i64 b9], .agg #[.int .u32 s0, .int .u16 s1, .int .u32 s2, .int .u16 s3, .int .u32 s4, .int .u32 s5, .int .u8 F, .int .u16 s7, .int .u16 m, .int .i64 sc, .bool sk, .slice A n cp, .bool tm, .int .u32 vl, .int .u32 ec, .string d]] w fun e w' => e = .returned (.bool true) ∧ Below w.heap.size w w' := by
  have hb0 : Below w.heap.size w w := Below.refl _ _
  have HB := Lib.hid hb0
  clear hb0
  have Hh := Lib.hid hh
  clear hh
  go_enter Try.func4, Try.ntmps4
  go_upto_region 1 with fail
  have hp := Blk.alloc (Blk.alloc (Blk.new w 34 #[.int .u32 a0, .int .u16 a1, .int .u32 a2, .int .u16 a3, .int .u32 a4, .int .u32 a5, .int .u32 a6, .int .u32 a7, .int .i64 a8, .int .i64 a9]) (.cells #[.int .u32 b0, .int .u16 b1, .int .u32 b2, .int .u16 b3, .int .u32 b4, .int .u32 b5, .int .u32 b6, .int .u32 b7, .int .i64 b8, .int .i64 b9] 34)) (.cells #[.int .u32 s0, .int .u16 s1, .int .u32 s2, .int .u16 s3, .int .u32 s4, .int .u32 s5, .int .u8 F, .int .u16 s7, .int .u16 m, .int .i64 sc, .bool sk, .slice A n cp, .bool tm, .int .u32 vl, .int .u32 ec, .string d] 39)
  have hq := Blk.alloc (Blk.new (w.alloc (.cells #[.int .u32 a0, .int .u16 a1, .int .u32 a2, .int .u16 a3, .int .u32 a4, .int .u32 a5, .int .u32 a6, .int .u32 a7, .int .i64 a8, .int .i64 a9] 34)) 34 #[.int .u32 b0, .int .u16 b1, .int .u32 b2, .int .u16 b3, .int .u32 b4, .int .u32 b5, .int .u32 b6, .int .u32 b7, .int .i64 b8, .int .i64 b9]) (.cells #[.int .u32 s0, .int .u16 s1, .int .u32 s2, .int .u16 s3, .int .u32 s4, .int .u32 s5, .int .u8 F, .int .u16 s7, .int .u16 m, .int .i64 sc, .bool sk, .slice A n cp, .bool tm, .int .u32 vl, .int .u32 ec, .string d] 39)
  rw [show (w.alloc (.cells #[.int .u32 a0, .int .u16 a1, .int .u32 a2, .int .u16 a3, .int .u32 a4, .int .u32 a5, .int .u32 a6, .int .u32 a7, .int .i64 a8, .int .i64 a9] 34)).heap.size = w.heap.size + 1 by simp] at hq
  have hs := Blk.new ((w.alloc (.cells #[.int .u32 a0, .int .u16 a1, .int .u32 a2, .int .u16 a3, .int .u32 a4, .int .u32 a5, .int .u32 a6, .int .u32 a7, .int .i64 a8, .int .i64 a9] 34)).alloc (.cells #[.int .u32 b0, .int .u16 b1, .int .u32 b2, .int .u16 b3, .int .u32 b4, .int .u32 b5, .int .u32 b6, .int .u32 b7, .int .i64 b8, .int .i64 b9] 34)) 39 #[.int .u32 s0, .int .u16 s1, .int .u32 s2, .int .u16 s3, .int .u32 s4, .int .u32 s5, .int .u8 F, .int .u16 s7, .int .u16 m, .int .i64 sc, .bool sk, .slice A n cp, .bool tm, .int .u32 vl, .int .u32 ec, .string d]
  rw [show ((w.alloc (.cells #[.int .u32 a0, .int .u16 a1, .int .u32 a2, .int .u16 a3, .int .u32 a4, .int .u32 a5, .int .u32 a6, .int .u32 a7, .int .i64 a8, .int .i64 a9] 34)).alloc (.cells #[.int .u32 b0, .int .u16 b1, .int .u32 b2, .int .u16 b3, .int .u32 b4, .int .u32 b5, .int .u32 b6, .int .u32 b7, .int .i64 b8, .int .i64 b9] 34)).heap.size = w.heap.size + 2 by simp] at hs
  have hB := Below.alloc (Below.alloc (Below.alloc (HB.out) (Nat.le_trans HB.out.size (by simp <;> omega)) (.cells #[.int .u32 a0, .int .u16 a1, .int .u32 a2, .int .u16 a3, .int .u32 a4, .int .u32 a5, .int .u32 a6, .int .u32 a7, .int .i64 a8, .int .i64 a9] 34)) (Nat.le_trans HB.out.size (by simp <;> omega)) (.cells #[.int .u32 b0, .int .u16 b1, .int .u32 b2, .int .u16 b3, .int .u32 b4, .int .u32 b5, .int .u32 b6, .int .u32 b7, .int .i64 b8, .int .i64 b9] 34)) (Nat.le_trans HB.out.size (by simp <;> omega)) (.cells #[.int .u32 s0, .int .u16 s1, .int .u32 s2, .int .u16 s3, .int .u32 s4, .int .u32 s5, .int .u8 F, .int .u16 s7, .int .u16 m, .int .i64 sc, .bool sk, .slice A n cp, .bool tm, .int .u32 vl, .int .u32 ec, .string d] 39)
  clear HB
  obtain ⟨gs, hges⟩ : ∃ g, g = w.heap.size + 2 := ⟨_, rfl⟩
  rw [← hges] at hs ⊢
  obtain ⟨gq, hgeq⟩ : ∃ g, g = w.heap.size + 1 := ⟨_, rfl⟩
  rw [← hgeq] at hq ⊢
  obtain ⟨gp, hgep⟩ : ∃ g, g = w.heap.size := ⟨_, rfl⟩
  rw [← hgep] at hp ⊢
  have hne_p_q : gp ≠ gq := by omega
  have hne_p_s : gp ≠ gs := by omega
  have hne_q_s : gq ≠ gs := by omega
  have hle_p : w.heap.size ≤ gp := by omega
  have hle_q : w.heap.size ≤ gq := by omega
  have hle_s : w.heap.size ≤ gs := by omega
  clear hgep hgeq hges
  generalize ((w.alloc _).alloc _).alloc _ = wn1 at *
  have Hp := Lib.hid hp
  clear hp
  have Hq := Lib.hid hq
  clear hq
  have Hs := Lib.hid hs
  clear hs
  have HB := Lib.hid hB
  clear hB
  go_wp2_with (first | (refine wpl_load Hs.out segU segI rfl _ rfl rfl ?_))
  (with_reducible refine (Hh.out _).mono ?_)
  rintro e w1 ⟨rfl, hbq⟩
  have hp := Hp.out.below hbq Hp.out.lt
  clear Hp
  have Hp := Lib.hid hp
  clear hp
  have hq := Hq.out.below hbq Hq.out.lt
  clear Hq
  have Hq := Lib.hid hq
  clear hq
  have hs := Hs.out.below hbq Hs.out.lt
  clear Hs
  have Hs := Lib.hid hs
  clear hs
  have hB := HB.out.trans (hbq.mono HB.out.size)
  clear HB
  have HB := Lib.hid hB
  clear hB
  clear hbq
  go_wp2_with fail
  (with_reducible refine (alive26 _).mono ?_)
  rintro e w2 ⟨rfl, hbq⟩
  have hp := Hp.out.below hbq Hp.out.lt
  clear Hp
  have Hp := Lib.hid hp
  clear hp
  have hq := Hq.out.below hbq Hq.out.lt
  clear Hq
  have Hq := Lib.hid hq
  clear hq
  have hs := Hs.out.below hbq Hs.out.lt
  clear Hs
  have Hs := Lib.hid hs
  clear hs
  have hB := HB.out.trans (hbq.mono HB.out.size)
  clear HB
  have HB := Lib.hid hB
  clear hB
  clear hbq
  go_wp2
  go_ret
  exact ⟨rfl, HB.out⟩
set_option maxRecDepth 100000 in
set_option maxHeartbeats 20000000 in
theorem back_easy (w : World) (a0 a1 a2 a3 a4 a5 a6 a7 a8 a9 b0 b1 b2 b3 b4 b5 b6 b7 b8 b9 s0 s1 s2 s3 s4 s5 F s7 m sc vl ec X0 X1 X2 X3 X4 X5 X6 X7 X8 X9 Y0 Y1 Y2 Y3 Y4 Y5 Y6 Y7 Y8 Y9 T0 T1 T2 T3 T4 T5 TF T7 T8 T9 T13 T14 E G : Int) (sk tm Tb Tc : Bool) (A A2 : Option Addr) (n cp n2 cq : Nat) (d td : ByteArray)
    (hh : ∀ W, Calls Try.prog 8 #[.agg #[.int .u32 s0, .int .u16 s1, .int .u32 s2, .int .u16 s3, .int .u32 s4, .int .u32 s5, .int .u8 F, .int .u16 s7, .int .u16 m, .int .i64 sc, .bool sk, .slice A n cp, .bool tm, .int .u32 vl, .int .u32 ec, .string d]] W fun e w' => e = .returned (.bool false) ∧ Below W.heap.size W w')
    (hx : ∀ W, Calls Try.prog 9 #[.agg #[.int .u32 a0, .int .u16 a1, .int .u32 a2, .int .u16 a3, .int .u32 a4, .int .u32 a5, .int .u32 a6, .int .u32 a7, .int .i64 a8, .int .i64 a9], .agg #[.int .u32 b0, .int .u16 b1, .int .u32 b2, .int .u16 b3, .int .u32 b4, .int .u32 b5, .int .u32 b6, .int .u32 b7, .int .i64 b8, .int .i64 b9]] W fun e w' => e = .returned (.tuple #[.agg #[.int .u32 X0, .int .u16 X1, .int .u32 X2, .int .u16 X3, .int .u32 X4, .int .u32 X5, .int .u32 X6, .int .u32 X7, .int .i64 X8, .int .i64 X9], .int .i64 E]) ∧ Below W.heap.size W w')
    (hy : ∀ W, Calls Try.prog 9 #[.agg #[.int .u32 b0, .int .u16 b1, .int .u32 b2, .int .u16 b3, .int .u32 b4, .int .u32 b5, .int .u32 b6, .int .u32 b7, .int .i64 b8, .int .i64 b9], .agg #[.int .u32 a0, .int .u16 a1, .int .u32 a2, .int .u16 a3, .int .u32 a4, .int .u32 a5, .int .u32 a6, .int .u32 a7, .int .i64 a8, .int .i64 a9]] W fun e w' => e = .returned (.tuple #[.agg #[.int .u32 Y0, .int .u16 Y1, .int .u32 Y2, .int .u16 Y3, .int .u32 Y4, .int .u32 Y5, .int .u32 Y6, .int .u32 Y7, .int .i64 Y8, .int .i64 Y9], .int .i64 E]) ∧ Below W.heap.size W w')
    (hsx : ∀ W, Below w.heap.size w W → Calls Try.prog 10 #[.agg #[.int .u32 X0, .int .u16 X1, .int .u32 X2, .int .u16 X3, .int .u32 X4, .int .u32 X5, .int .u32 X6, .int .u32 X7, .int .i64 X8, .int .i64 X9], .agg #[.int .u32 s0, .int .u16 s1, .int .u32 s2, .int .u16 s3, .int .u32 s4, .int .u32 s5, .int .u8 F, .int .u16 s7, .int .u16 m, .int .i64 sc, .bool sk, .slice A n cp, .bool tm, .int .u32 vl, .int .u32 ec, .string d]] W fun e w' => ∃ A2 n2 cq, e = .returned (.tuple #[.agg #[.int .u32 T0, .int .u16 T1, .int .u32 T2, .int .u16 T3, .int .u32 T4, .int .u32 T5, .int .u8 TF, .int .u16 T7, .int .u16 T8, .int .i64 T9, .bool Tb, .slice A2 n2 cq, .bool Tc, .int .u32 T13, .int .u32 T14, .string td], .int .i64 G]) ∧ Below W.heap.size W w')
    (hne : E ≠ 0 ∨ G ≠ 0) :
    Calls Try.prog 4 #[.agg #[.int .u32 a0, .int .u16 a1, .int .u32 a2, .int .u16 a3, .int .u32 a4, .int .u32 a5, .int .u32 a6, .int .u32 a7, .int .i64 a8, .int .i64 a9], .agg #[.int .u32 b0, .int .u16 b1, .int .u32 b2, .int .u16 b3, .int .u32 b4, .int .u32 b5, .int .u32 b6, .int .u32 b7, .int .i64 b8, .int .i64 b9], .agg #[.int .u32 s0, .int .u16 s1, .int .u32 s2, .int .u16 s3, .int .u32 s4, .int .u32 s5, .int .u8 F, .int .u16 s7, .int .u16 m, .int .i64 sc, .bool sk, .slice A n cp, .bool tm, .int .u32 vl, .int .u32 ec, .string d]] w fun e w' => e = .returned (.bool true) ∧ Below w.heap.size w w' := by
  have hb0 : Below w.heap.size w w := Below.refl _ _
  have HB := Lib.hid hb0
  clear hb0
  have Hh := Lib.hid hh
  clear hh
  have Hx := Lib.hid hx
  clear hx
  have Hy := Lib.hid hy
  clear hy
  have Hsx := Lib.hid hsx
  clear hsx
  have Hne := Lib.hid hne
  clear hne
  have HHs := Hx
  have HHy := Hy
  clear Hx Hy
  go_enter Try.func4, Try.ntmps4
  go_upto_region 1 with fail
  have hp := Blk.alloc (Blk.alloc (Blk.new w 34 #[.int .u32 a0, .int .u16 a1, .int .u32 a2, .int .u16 a3, .int .u32 a4, .int .u32 a5, .int .u32 a6, .int .u32 a7, .int .i64 a8, .int .i64 a9]) (.cells #[.int .u32 b0, .int .u16 b1, .int .u32 b2, .int .u16 b3, .int .u32 b4, .int .u32 b5, .int .u32 b6, .int .u32 b7, .int .i64 b8, .int .i64 b9] 34)) (.cells #[.int .u32 s0, .int .u16 s1, .int .u32 s2, .int .u16 s3, .int .u32 s4, .int .u32 s5, .int .u8 F, .int .u16 s7, .int .u16 m, .int .i64 sc, .bool sk, .slice A n cp, .bool tm, .int .u32 vl, .int .u32 ec, .string d] 39)
  have hq := Blk.alloc (Blk.new (w.alloc (.cells #[.int .u32 a0, .int .u16 a1, .int .u32 a2, .int .u16 a3, .int .u32 a4, .int .u32 a5, .int .u32 a6, .int .u32 a7, .int .i64 a8, .int .i64 a9] 34)) 34 #[.int .u32 b0, .int .u16 b1, .int .u32 b2, .int .u16 b3, .int .u32 b4, .int .u32 b5, .int .u32 b6, .int .u32 b7, .int .i64 b8, .int .i64 b9]) (.cells #[.int .u32 s0, .int .u16 s1, .int .u32 s2, .int .u16 s3, .int .u32 s4, .int .u32 s5, .int .u8 F, .int .u16 s7, .int .u16 m, .int .i64 sc, .bool sk, .slice A n cp, .bool tm, .int .u32 vl, .int .u32 ec, .string d] 39)
  rw [show (w.alloc (.cells #[.int .u32 a0, .int .u16 a1, .int .u32 a2, .int .u16 a3, .int .u32 a4, .int .u32 a5, .int .u32 a6, .int .u32 a7, .int .i64 a8, .int .i64 a9] 34)).heap.size = w.heap.size + 1 by simp] at hq
  have hs := Blk.new ((w.alloc (.cells #[.int .u32 a0, .int .u16 a1, .int .u32 a2, .int .u16 a3, .int .u32 a4, .int .u32 a5, .int .u32 a6, .int .u32 a7, .int .i64 a8, .int .i64 a9] 34)).alloc (.cells #[.int .u32 b0, .int .u16 b1, .int .u32 b2, .int .u16 b3, .int .u32 b4, .int .u32 b5, .int .u32 b6, .int .u32 b7, .int .i64 b8, .int .i64 b9] 34)) 39 #[.int .u32 s0, .int .u16 s1, .int .u32 s2, .int .u16 s3, .int .u32 s4, .int .u32 s5, .int .u8 F, .int .u16 s7, .int .u16 m, .int .i64 sc, .bool sk, .slice A n cp, .bool tm, .int .u32 vl, .int .u32 ec, .string d]
  rw [show ((w.alloc (.cells #[.int .u32 a0, .int .u16 a1, .int .u32 a2, .int .u16 a3, .int .u32 a4, .int .u32 a5, .int .u32 a6, .int .u32 a7, .int .i64 a8, .int .i64 a9] 34)).alloc (.cells #[.int .u32 b0, .int .u16 b1, .int .u32 b2, .int .u16 b3, .int .u32 b4, .int .u32 b5, .int .u32 b6, .int .u32 b7, .int .i64 b8, .int .i64 b9] 34)).heap.size = w.heap.size + 2 by simp] at hs
  have hB := Below.alloc (Below.alloc (Below.alloc (HB.out) (Nat.le_trans HB.out.size (by simp <;> omega)) (.cells #[.int .u32 a0, .int .u16 a1, .int .u32 a2, .int .u16 a3, .int .u32 a4, .int .u32 a5, .int .u32 a6, .int .u32 a7, .int .i64 a8, .int .i64 a9] 34)) (Nat.le_trans HB.out.size (by simp <;> omega)) (.cells #[.int .u32 b0, .int .u16 b1, .int .u32 b2, .int .u16 b3, .int .u32 b4, .int .u32 b5, .int .u32 b6, .int .u32 b7, .int .i64 b8, .int .i64 b9] 34)) (Nat.le_trans HB.out.size (by simp <;> omega)) (.cells #[.int .u32 s0, .int .u16 s1, .int .u32 s2, .int .u16 s3, .int .u32 s4, .int .u32 s5, .int .u8 F, .int .u16 s7, .int .u16 m, .int .i64 sc, .bool sk, .slice A n cp, .bool tm, .int .u32 vl, .int .u32 ec, .string d] 39)
  clear HB
  obtain ⟨gs, hges⟩ : ∃ g, g = w.heap.size + 2 := ⟨_, rfl⟩
  rw [← hges] at hs ⊢
  obtain ⟨gq, hgeq⟩ : ∃ g, g = w.heap.size + 1 := ⟨_, rfl⟩
  rw [← hgeq] at hq ⊢
  obtain ⟨gp, hgep⟩ : ∃ g, g = w.heap.size := ⟨_, rfl⟩
  rw [← hgep] at hp ⊢
  have hne_p_q : gp ≠ gq := by omega
  have hne_p_s : gp ≠ gs := by omega
  have hne_q_s : gq ≠ gs := by omega
  have hle_p : w.heap.size ≤ gp := by omega
  have hle_q : w.heap.size ≤ gq := by omega
  have hle_s : w.heap.size ≤ gs := by omega
  clear hgep hgeq hges
  generalize ((w.alloc _).alloc _).alloc _ = wn2 at *
  have Hp := Lib.hid hp
  clear hp
  have Hq := Lib.hid hq
  clear hq
  have Hs := Lib.hid hs
  clear hs
  have HB := Lib.hid hB
  clear hB
  go_wp2_with (first | (refine wpl_load Hs.out segU segI rfl _ rfl rfl ?_))
  (with_reducible refine (Hh.out _).mono ?_)
  rintro e w1 ⟨rfl, hbq⟩
  have hp := Hp.out.below hbq Hp.out.lt
  clear Hp
  have Hp := Lib.hid hp
  clear hp
  have hq := Hq.out.below hbq Hq.out.lt
  clear Hq
  have Hq := Lib.hid hq
  clear hq
  have hs := Hs.out.below hbq Hs.out.lt
  clear Hs
  have Hs := Lib.hid hs
  clear hs
  have hB := HB.out.trans (hbq.mono HB.out.size)
  clear HB
  have HB := Lib.hid hB
  clear hB
  clear hbq
  go_wp2_with (first | (refine wpl_load Hp.out legU legI rfl _ rfl rfl ?_) | (refine wpl_load Hq.out legU legI rfl _ rfl rfl ?_))
  (with_reducible refine (HHs.out _).mono ?_)
  rintro e w2 ⟨rfl, hbq⟩
  have hp := Hp.out.below hbq Hp.out.lt
  clear Hp
  have Hp := Lib.hid hp
  clear hp
  have hq := Hq.out.below hbq Hq.out.lt
  clear Hq
  have Hq := Lib.hid hq
  clear hq
  have hs := Hs.out.below hbq Hs.out.lt
  clear Hs
  have Hs := Lib.hid hs
  clear hs
  have hB := HB.out.trans (hbq.mono HB.out.size)
  clear HB
  have HB := Lib.hid hB
  clear hB
  clear hbq
  go_upto_region 4 with fail
  have hx := Blk.new w2 27 #[.int .u32 X0, .int .u16 X1, .int .u32 X2, .int .u16 X3, .int .u32 X4, .int .u32 X5, .int .u32 X6, .int .u32 X7, .int .i64 X8, .int .i64 X9]
  have hp := Blk.alloc Hp.out (.cells #[.int .u32 X0, .int .u16 X1, .int .u32 X2, .int .u16 X3, .int .u32 X4, .int .u32 X5, .int .u32 X6, .int .u32 X7, .int .i64 X8, .int .i64 X9] 27)
  clear Hp
  have hq := Blk.alloc Hq.out (.cells #[.int .u32 X0, .int .u16 X1, .int .u32 X2, .int .u16 X3, .int .u32 X4, .int .u32 X5, .int .u32 X6, .int .u32 X7, .int .i64 X8, .int .i64 X9] 27)
  clear Hq
  have hs := Blk.alloc Hs.out (.cells #[.int .u32 X0, .int .u16 X1, .int .u32 X2, .int .u16 X3, .int .u32 X4, .int .u32 X5, .int .u32 X6, .int .u32 X7, .int .i64 X8, .int .i64 X9] 27)
  clear Hs
  have hB := HB.out.alloc HB.out.size (.cells #[.int .u32 X0, .int .u16 X1, .int .u32 X2, .int .u16 X3, .int .u32 X4, .int .u32 X5, .int .u32 X6, .int .u32 X7, .int .i64 X8, .int .i64 X9] 27)
  clear HB
  obtain ⟨gx, hge⟩ : ∃ g, g = w2.heap.size := ⟨_, rfl⟩
  rw [← hge] at hx ⊢
  clear hge
  generalize w2.alloc _ = w3 at *
  have Hp := Lib.hid hp
  clear hp
  have Hq := Lib.hid hq
  clear hq
  have Hs := Lib.hid hs
  clear hs
  have Hx := Lib.hid hx
  clear hx
  have HB := Lib.hid hB
  clear hB
  go_wp2_with (first | (refine wpl_load Hp.out legU legI rfl _ rfl rfl ?_) | (refine wpl_load Hq.out legU legI rfl _ rfl rfl ?_))
  (with_reducible refine (HHy.out _).mono ?_)
  rintro e w4 ⟨rfl, hbq⟩
  have hp := Hp.out.below hbq Hp.out.lt
  clear Hp
  have Hp := Lib.hid hp
  clear hp
  have hq := Hq.out.below hbq Hq.out.lt
  clear Hq
  have Hq := Lib.hid hq
  clear hq
  have hs := Hs.out.below hbq Hs.out.lt
  clear Hs
  have Hs := Lib.hid hs
  clear hs
  have hx := Hx.out.below hbq Hx.out.lt
  clear Hx
  have Hx := Lib.hid hx
  clear hx
  have hB := HB.out.trans (hbq.mono HB.out.size)
  clear HB
  have HB := Lib.hid hB
  clear hB
  clear hbq
  go_upto_region 5 with fail
  have hy := Blk.new w4 27 #[.int .u32 Y0, .int .u16 Y1, .int .u32 Y2, .int .u16 Y3, .int .u32 Y4, .int .u32 Y5, .int .u32 Y6, .int .u32 Y7, .int .i64 Y8, .int .i64 Y9]
  have hp := Blk.alloc Hp.out (.cells #[.int .u32 Y0, .int .u16 Y1, .int .u32 Y2, .int .u16 Y3, .int .u32 Y4, .int .u32 Y5, .int .u32 Y6, .int .u32 Y7, .int .i64 Y8, .int .i64 Y9] 27)
  clear Hp
  have hq := Blk.alloc Hq.out (.cells #[.int .u32 Y0, .int .u16 Y1, .int .u32 Y2, .int .u16 Y3, .int .u32 Y4, .int .u32 Y5, .int .u32 Y6, .int .u32 Y7, .int .i64 Y8, .int .i64 Y9] 27)
  clear Hq
  have hs := Blk.alloc Hs.out (.cells #[.int .u32 Y0, .int .u16 Y1, .int .u32 Y2, .int .u16 Y3, .int .u32 Y4, .int .u32 Y5, .int .u32 Y6, .int .u32 Y7, .int .i64 Y8, .int .i64 Y9] 27)
  clear Hs
  have hx := Blk.alloc Hx.out (.cells #[.int .u32 Y0, .int .u16 Y1, .int .u32 Y2, .int .u16 Y3, .int .u32 Y4, .int .u32 Y5, .int .u32 Y6, .int .u32 Y7, .int .i64 Y8, .int .i64 Y9] 27)
  clear Hx
  have hB := HB.out.alloc HB.out.size (.cells #[.int .u32 Y0, .int .u16 Y1, .int .u32 Y2, .int .u16 Y3, .int .u32 Y4, .int .u32 Y5, .int .u32 Y6, .int .u32 Y7, .int .i64 Y8, .int .i64 Y9] 27)
  clear HB
  obtain ⟨gy, hge⟩ : ∃ g, g = w4.heap.size := ⟨_, rfl⟩
  rw [← hge] at hy ⊢
  clear hge
  generalize w4.alloc _ = w5 at *
  have Hp := Lib.hid hp
  clear hp
  have Hq := Lib.hid hq
  clear hq
  have Hs := Lib.hid hs
  clear hs
  have Hx := Lib.hid hx
  clear hx
  have Hy := Lib.hid hy
  clear hy
  have HB := Lib.hid hB
  clear hB
  go_wp2_with (first | (refine wpl_load Hx.out shiU shiI rfl _ rfl rfl ?_) | (refine wpl_load Hs.out segU segI rfl _ rfl rfl ?_))
  (with_reducible refine (Hsx.out _ HB.out).mono ?_)
  rintro e w6 ⟨A2, n2, cq, rfl, hbq⟩
  have hp := Hp.out.below hbq Hp.out.lt
  clear Hp
  have Hp := Lib.hid hp
  clear hp
  have hq := Hq.out.below hbq Hq.out.lt
  clear Hq
  have Hq := Lib.hid hq
  clear hq
  have hs := Hs.out.below hbq Hs.out.lt
  clear Hs
  have Hs := Lib.hid hs
  clear hs
  have hx := Hx.out.below hbq Hx.out.lt
  clear Hx
  have Hx := Lib.hid hx
  clear hx
  have hy := Hy.out.below hbq Hy.out.lt
  clear Hy
  have Hy := Lib.hid hy
  clear hy
  have hB := HB.out.trans (hbq.mono HB.out.size)
  clear HB
  have HB := Lib.hid hB
  clear hB
  clear hbq
  go_upto_region 6 with fail
  have ht := Blk.new w6 39 #[.int .u32 T0, .int .u16 T1, .int .u32 T2, .int .u16 T3, .int .u32 T4, .int .u32 T5, .int .u8 TF, .int .u16 T7, .int .u16 T8, .int .i64 T9, .bool Tb, .slice A2 n2 cq, .bool Tc, .int .u32 T13, .int .u32 T14, .string td]
  have hp := Blk.alloc Hp.out (.cells #[.int .u32 T0, .int .u16 T1, .int .u32 T2, .int .u16 T3, .int .u32 T4, .int .u32 T5, .int .u8 TF, .int .u16 T7, .int .u16 T8, .int .i64 T9, .bool Tb, .slice A2 n2 cq, .bool Tc, .int .u32 T13, .int .u32 T14, .string td] 39)
  clear Hp
  have hq := Blk.alloc Hq.out (.cells #[.int .u32 T0, .int .u16 T1, .int .u32 T2, .int .u16 T3, .int .u32 T4, .int .u32 T5, .int .u8 TF, .int .u16 T7, .int .u16 T8, .int .i64 T9, .bool Tb, .slice A2 n2 cq, .bool Tc, .int .u32 T13, .int .u32 T14, .string td] 39)
  clear Hq
  have hs := Blk.alloc Hs.out (.cells #[.int .u32 T0, .int .u16 T1, .int .u32 T2, .int .u16 T3, .int .u32 T4, .int .u32 T5, .int .u8 TF, .int .u16 T7, .int .u16 T8, .int .i64 T9, .bool Tb, .slice A2 n2 cq, .bool Tc, .int .u32 T13, .int .u32 T14, .string td] 39)
  clear Hs
  have hx := Blk.alloc Hx.out (.cells #[.int .u32 T0, .int .u16 T1, .int .u32 T2, .int .u16 T3, .int .u32 T4, .int .u32 T5, .int .u8 TF, .int .u16 T7, .int .u16 T8, .int .i64 T9, .bool Tb, .slice A2 n2 cq, .bool Tc, .int .u32 T13, .int .u32 T14, .string td] 39)
  clear Hx
  have hy := Blk.alloc Hy.out (.cells #[.int .u32 T0, .int .u16 T1, .int .u32 T2, .int .u16 T3, .int .u32 T4, .int .u32 T5, .int .u8 TF, .int .u16 T7, .int .u16 T8, .int .i64 T9, .bool Tb, .slice A2 n2 cq, .bool Tc, .int .u32 T13, .int .u32 T14, .string td] 39)
  clear Hy
  have hB := HB.out.alloc HB.out.size (.cells #[.int .u32 T0, .int .u16 T1, .int .u32 T2, .int .u16 T3, .int .u32 T4, .int .u32 T5, .int .u8 TF, .int .u16 T7, .int .u16 T8, .int .i64 T9, .bool Tb, .slice A2 n2 cq, .bool Tc, .int .u32 T13, .int .u32 T14, .string td] 39)
  clear HB
  obtain ⟨gt, hge⟩ : ∃ g, g = w6.heap.size := ⟨_, rfl⟩
  rw [← hge] at ht ⊢
  clear hge
  generalize w6.alloc _ = w7 at *
  have Hp := Lib.hid hp
  clear hp
  have Hq := Lib.hid hq
  clear hq
  have Hs := Lib.hid hs
  clear hs
  have Hx := Lib.hid hx
  clear hx
  have Hy := Lib.hid hy
  clear hy
  have Ht := Lib.hid ht
  clear ht
  have HB := Lib.hid hB
  clear hB
  have hne := Hne.out
  clear Hne
  by_cases hE : E = 0
  · subst hE
    have hG : (G != 0) = true := by rcases hne with h | h; exact absurd rfl h; simpa using h
    have hG2 : (G == 0) = false := by simpa using hG
    have hG3 : ¬ G = 0 := by simpa using hG
    clear hne
    go_wp2_with fail
    (with_reducible refine (alive26 _).mono ?_)
    rintro e w8 ⟨rfl, hbq⟩
    have hp := Hp.out.below hbq Hp.out.lt
    clear Hp
    have Hp := Lib.hid hp
    clear hp
    have hq := Hq.out.below hbq Hq.out.lt
    clear Hq
    have Hq := Lib.hid hq
    clear hq
    have hs := Hs.out.below hbq Hs.out.lt
    clear Hs
    have Hs := Lib.hid hs
    clear hs
    have hx := Hx.out.below hbq Hx.out.lt
    clear Hx
    have Hx := Lib.hid hx
    clear hx
    have hy := Hy.out.below hbq Hy.out.lt
    clear Hy
    have Hy := Lib.hid hy
    clear hy
    have ht := Ht.out.below hbq Ht.out.lt
    clear Ht
    have Ht := Lib.hid ht
    clear ht
    have hB := HB.out.trans (hbq.mono HB.out.size)
    clear HB
    have HB := Lib.hid hB
    clear hB
    clear hbq
    go_wp2
    go_ret
    exact ⟨rfl, HB.out⟩
  · have hE1 : (E != 0) = true := by simpa using hE
    have hE2 : (E == 0) = false := by simpa using hE
    clear hne
    go_wp2_with fail
    (with_reducible refine (alive26 _).mono ?_)
    rintro e w8 ⟨rfl, hbq⟩
    have hp := Hp.out.below hbq Hp.out.lt
    clear Hp
    have Hp := Lib.hid hp
    clear hp
    have hq := Hq.out.below hbq Hq.out.lt
    clear Hq
    have Hq := Lib.hid hq
    clear hq
    have hs := Hs.out.below hbq Hs.out.lt
    clear Hs
    have Hs := Lib.hid hs
    clear hs
    have hx := Hx.out.below hbq Hx.out.lt
    clear Hx
    have Hx := Lib.hid hx
    clear hx
    have hy := Hy.out.below hbq Hy.out.lt
    clear Hy
    have Hy := Lib.hid hy
    clear hy
    have ht := Ht.out.below hbq Ht.out.lt
    clear Ht
    have Ht := Lib.hid ht
    clear ht
    have hB := HB.out.trans (hbq.mono HB.out.size)
    clear HB
    have HB := Lib.hid hB
    clear hB
    clear hbq
    go_wp2
    go_ret
    exact ⟨rfl, HB.out⟩
end Go.Proofs.Ytgppkfdhfphoeaa
