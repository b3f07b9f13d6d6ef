/- Contracts of layer 26 (shift), with those of layers 7 and 8 that the examples take. -/
import Derived.Test.YtgppkfdhfphoeaaShift
import Derived.Test.YtgppkfdhfphoeaaPktTurnedA
set_option linter.unusedVariables false
set_option linter.unusedSimpArgs false
namespace Go.Proofs.Ytgppkfdhfphoeaa
open Go.RowKit Go.BigFrame

set_option maxRecDepth 100000 in
theorem ones_0 (w : World) : Calls Try.prog 21 #[.int .u8 0] w fun e w' => e = .returned (.int .i64 0) ∧ w = w' := by
  go_enter Try.func21, Try.ntmps21
  go_wp2
  go_ret
  exact ⟨by kernel_rfl, rfl⟩
theorem flags_16 (w : World) : Calls Try.prog 28 #[.int .u8 16] w fun e w' => e = .returned (.bool true) ∧ w = w' := by
  go_enter Try.func28, Try.ntmps28
  go_wp2_with fail
  (with_reducible refine (ones_0 _).mono ?_)
  rintro e w1 ⟨rfl, rfl⟩
  go_wp2
  go_ret
  exact ⟨rfl, rfl⟩
theorem flags_255 (w : World) : Calls Try.prog 28 #[.int .u8 255] w fun e w' => e = .returned (.bool false) ∧ w = w' := by
  go_enter Try.func28, Try.ntmps28
  go_wp2
  go_ret
  exact ⟨rfl, rfl⟩
theorem none_opts (w : World) : Calls Try.prog 17 #[] w fun e w' => e = .returned (.agg #[.int .u16 0, .int .i64 (-1), .bool false, .slice none 0 0, .bool false, .int .u32 0, .int .u32 0]) ∧ Below w.heap.size w w' := by
  go_enter Try.func17, Try.ntmps17
  go_upto_region 1 with fail
  have hb0 : Below w.heap.size w w := Below.refl _ _
  have HB := Lib.hid hb0
  clear hb0
  have hp := Blk.new w 37 #[.int .u16 0, .int .i64 0, .bool false, .slice none 0 0, .bool false, .int .u32 0, .int .u32 0]
  have hB := Below.alloc (HB.out) (Nat.le_trans HB.out.size (by simp <;> omega)) (.cells #[.int .u16 0, .int .i64 0, .bool false, .slice none 0 0, .bool false, .int .u32 0, .int .u32 0] 37)
  clear HB
  obtain ⟨gp, hgep⟩ : ∃ g, g = w.heap.size := ⟨_, rfl⟩
  rw [← hgep] at hp ⊢
  have hle_p : w.heap.size ≤ gp := by omega
  clear hgep
  generalize w.alloc _ = wn1 at *
  have Hp := Lib.hid hp
  clear hp
  have HB := Lib.hid hB
  clear hB
  have c0 := Hp.out.cell 0
  have c1 := Hp.out.cell 1
  have c2 := Hp.out.cell 2
  have c3 := Hp.out.cell 3
  have c4 := Hp.out.cell 4
  have c5 := Hp.out.cell 5
  have c6 := Hp.out.cell 6
  simp at c0 c1 c2 c3 c4 c5 c6
  have fr := Hp.out.frozen
  go_wp2
  generalize hWf : World.setCell _ _ _ = Wf
  have hf : Blk Wf gp 37 #[.int .u16 0, .int .i64 (-1), .bool false, .slice none 0 0, .bool false, .int .u32 0, .int .u32 0] := by
    rw [← hWf]
    have := ((((((Hp.out.set_ 0 (.int .u16 0)).set_ 1 (.int .i64 (-1))).set_ 2 (.bool false)).set_ 3 (.slice none 0 0)).set_ 4 (.bool false)).set_ 5 (.int .u32 0)).set_ 6 (.int .u32 0)
    simpa using this
  have hBf : Below w.heap.size w Wf := by
    rw [← hWf]
    repeat (refine Below.setCell ?_ hle_p _)
    exact HB.out
  clear hWf c0 c1 c2 c3 c4 c5 c6 fr
  have z0 := hf.cell 0
  have z1 := hf.cell 1
  have z2 := hf.cell 2
  have z3 := hf.cell 3
  have z4 := hf.cell 4
  have z5 := hf.cell 5
  have z6 := hf.cell 6
  simp at z0 z1 z2 z3 z4 z5 z6
  exact bodyPost_ret (v := .agg #[.int .u16 0, .int .i64 (-1), .bool false, .slice none 0 0, .bool false, .int .u32 0, .int .u32 0]) (by simp [results, Try.results17, go_sem, z0, z1, z2, z3, z4, z5, z6]) rfl ⟨rfl, hBf⟩
set_option maxHeartbeats 1000000 in
theorem raw_none (w : World) : Calls Try.prog 33 #[.agg #[.int .u16 0, .int .i64 (-1), .bool false, .slice none 0 0, .bool false, .int .u32 0, .int .u32 0]] w fun e w' => e = .returned (.string ⟨#[]⟩) ∧ Below w.heap.size w w' := by
  have hb0 : Below w.heap.size w w := Below.refl _ _
  have HB := Lib.hid hb0
  clear hb0
  go_enter Try.func33, Try.ntmps33
  go_upto_region 1 with fail
  have hp := Blk.new w 37 #[.int .u16 0, .int .i64 (-1), .bool false, .slice none 0 0, .bool false, .int .u32 0, .int .u32 0]
  have hB := HB.out.alloc HB.out.size (.cells #[.int .u16 0, .int .i64 (-1), .bool false, .slice none 0 0, .bool false, .int .u32 0, .int .u32 0] 37)
  clear HB
  obtain ⟨gp, hge⟩ : ∃ g, g = w.heap.size := ⟨_, rfl⟩
  rw [← hge] at hp ⊢
  clear hge
  generalize w.alloc _ = wn2 at *
  have Hp := Lib.hid hp
  clear hp
  have HB := Lib.hid hB
  clear hB
  have c0 := Hp.out.cell 0
  have c1 := Hp.out.cell 1
  have c2 := Hp.out.cell 2
  have c3 := Hp.out.cell 3
  have c4 := Hp.out.cell 4
  have c5 := Hp.out.cell 5
  have c6 := Hp.out.cell 6
  simp at c0 c1 c2 c3 c4 c5 c6
  go_wp2
  clear c0 c1 c2 c3 c4 c5 c6
  go_loopw [63, 2] (fun i s wr => i = .int .i64 0 ∧ s = .string ⟨#[]⟩ ∧ wn2 = wr) (fun i _ _ => 0)
  case atStart => exact ⟨rfl, rfl, rfl⟩
  case round =>
    obtain ⟨rfl, rfl, rfl⟩ := hrel
    go_wp2
    go_ret
    exact ⟨rfl, HB.out⟩
set_option maxHeartbeats 1000000 in
theorem may_none (w : World) : Calls Try.prog 29 #[.agg #[.int .u16 0, .int .i64 (-1), .bool false, .slice none 0 0, .bool false, .int .u32 0, .int .u32 0]] w fun e w' => e = .returned (.bool true) ∧ Below w.heap.size w w' := by
  have hb0 : Below w.heap.size w w := Below.refl _ _
  have HB := Lib.hid hb0
  clear hb0
  go_enter Try.func29, Try.ntmps29
  go_upto_region 1 with fail
  have hp := Blk.new w 37 #[.int .u16 0, .int .i64 (-1), .bool false, .slice none 0 0, .bool false, .int .u32 0, .int .u32 0]
  have hB := HB.out.alloc HB.out.size (.cells #[.int .u16 0, .int .i64 (-1), .bool false, .slice none 0 0, .bool false, .int .u32 0, .int .u32 0] 37)
  clear HB
  obtain ⟨gp, hge⟩ : ∃ g, g = w.heap.size := ⟨_, rfl⟩
  rw [← hge] at hp ⊢
  clear hge
  generalize w.alloc _ = wn3 at *
  have Hp := Lib.hid hp
  clear hp
  have HB := Lib.hid hB
  clear hB
  have c0 := Hp.out.cell 0
  have c1 := Hp.out.cell 1
  have c2 := Hp.out.cell 2
  have c3 := Hp.out.cell 3
  have c4 := Hp.out.cell 4
  have c5 := Hp.out.cell 5
  have c6 := Hp.out.cell 6
  simp at c0 c1 c2 c3 c4 c5 c6
  go_wp2_with fail
  (with_reducible refine (raw_none _).mono ?_)
  rintro e wc4 ⟨rfl, hbq⟩
  have hp := Hp.out.below hbq Hp.out.lt
  clear Hp
  have Hp := Lib.hid hp
  clear hp
  have hB := HB.out.trans (hbq.mono HB.out.size)
  clear HB
  have HB := Lib.hid hB
  clear hB
  clear hbq
  go_wp2
  go_ret
  exact ⟨rfl, HB.out⟩
set_option maxHeartbeats 1000000 in
theorem pmay_16 (w : World) : Calls Try.prog 20 #[.agg #[.int .u32 0, .int .u16 0, .int .u32 0, .int .u16 0, .int .u32 101, .int .u32 201, .int .u8 16, .int .u16 5, .int .u16 0, .int .i64 (-1), .bool false, .slice none 0 0, .bool false, .int .u32 0, .int .u32 0, .string ⟨#[]⟩]] w fun e w' => e = .returned (.bool true) ∧ Below w.heap.size w w' := by
  have hb0 : Below w.heap.size w w := Below.refl _ _
  have HB := Lib.hid hb0
  clear hb0
  go_enter Try.func20, Try.ntmps20
  go_upto_region 1 with fail
  have hp := Blk.new w 39 #[.int .u32 0, .int .u16 0, .int .u32 0, .int .u16 0, .int .u32 101, .int .u32 201, .int .u8 16, .int .u16 5, .int .u16 0, .int .i64 (-1), .bool false, .slice none 0 0, .bool false, .int .u32 0, .int .u32 0, .string ⟨#[]⟩]
  have hB := HB.out.alloc HB.out.size (.cells #[.int .u32 0, .int .u16 0, .int .u32 0, .int .u16 0, .int .u32 101, .int .u32 201, .int .u8 16, .int .u16 5, .int .u16 0, .int .i64 (-1), .bool false, .slice none 0 0, .bool false, .int .u32 0, .int .u32 0, .string ⟨#[]⟩] 39)
  clear HB
  obtain ⟨gp, hge⟩ : ∃ g, g = w.heap.size := ⟨_, rfl⟩
  rw [← hge] at hp ⊢
  clear hge
  generalize w.alloc _ = wn5 at *
  have Hp := Lib.hid hp
  clear hp
  have HB := Lib.hid hB
  clear hB
  have c0 := Hp.out.cell 0
  have c1 := Hp.out.cell 1
  have c2 := Hp.out.cell 2
  have c3 := Hp.out.cell 3
  have c4 := Hp.out.cell 4
  have c5 := Hp.out.cell 5
  have c6 := Hp.out.cell 6
  have c7 := Hp.out.cell 7
  have c8 := Hp.out.cell 8
  have c9 := Hp.out.cell 9
  have c10 := Hp.out.cell 10
  have c11 := Hp.out.cell 11
  have c12 := Hp.out.cell 12
  have c13 := Hp.out.cell 13
  have c14 := Hp.out.cell 14
  have c15 := Hp.out.cell 15
  simp at c0 c1 c2 c3 c4 c5 c6 c7 c8 c9 c10 c11 c12 c13 c14 c15
  go_wp2_with fail
  (with_reducible refine (flags_16 _).mono ?_)
  rintro e w1 ⟨rfl, rfl⟩
  clear c0 c1 c2 c3 c4 c5 c6 c7 c8 c9 c10 c11 c12 c13 c14 c15
  have c0 := Hp.out.cell 0
  have c1 := Hp.out.cell 1
  have c2 := Hp.out.cell 2
  have c3 := Hp.out.cell 3
  have c4 := Hp.out.cell 4
  have c5 := Hp.out.cell 5
  have c6 := Hp.out.cell 6
  have c7 := Hp.out.cell 7
  have c8 := Hp.out.cell 8
  have c9 := Hp.out.cell 9
  have c10 := Hp.out.cell 10
  have c11 := Hp.out.cell 11
  have c12 := Hp.out.cell 12
  have c13 := Hp.out.cell 13
  have c14 := Hp.out.cell 14
  have c15 := Hp.out.cell 15
  simp at c0 c1 c2 c3 c4 c5 c6 c7 c8 c9 c10 c11 c12 c13 c14 c15
  go_wp2_with fail
  (with_reducible refine (may_none _).mono ?_)
  rintro e wc6 ⟨rfl, hbq⟩
  have hp := Hp.out.below hbq Hp.out.lt
  clear Hp
  have Hp := Lib.hid hp
  clear hp
  have hB := HB.out.trans (hbq.mono HB.out.size)
  clear HB
  have HB := Lib.hid hB
  clear hB
  clear hbq
  clear c0 c1 c2 c3 c4 c5 c6 c7 c8 c9 c10 c11 c12 c13 c14 c15
  have c0 := Hp.out.cell 0
  have c1 := Hp.out.cell 1
  have c2 := Hp.out.cell 2
  have c3 := Hp.out.cell 3
  have c4 := Hp.out.cell 4
  have c5 := Hp.out.cell 5
  have c6 := Hp.out.cell 6
  have c7 := Hp.out.cell 7
  have c8 := Hp.out.cell 8
  have c9 := Hp.out.cell 9
  have c10 := Hp.out.cell 10
  have c11 := Hp.out.cell 11
  have c12 := Hp.out.cell 12
  have c13 := Hp.out.cell 13
  have c14 := Hp.out.cell 14
  have c15 := Hp.out.cell 15
  simp at c0 c1 c2 c3 c4 c5 c6 c7 c8 c9 c10 c11 c12 c13 c14 c15
  go_wp2
  go_ret
  exact ⟨rfl, HB.out⟩
set_option maxHeartbeats 1000000 in
theorem pmay_255 (w : World) : Calls Try.prog 20 #[.agg #[.int .u32 0, .int .u16 0, .int .u32 0, .int .u16 0, .int .u32 0, .int .u32 0, .int .u8 255, .int .u16 0, .int .u16 0, .int .i64 0, .bool false, .slice none 0 0, .bool false, .int .u32 0, .int .u32 0, .string ⟨#[]⟩]] w fun e w' => e = .returned (.bool false) ∧ Below w.heap.size w w' := by
  have hb0 : Below w.heap.size w w := Below.refl _ _
  have HB := Lib.hid hb0
  clear hb0
  go_enter Try.func20, Try.ntmps20
  go_upto_region 1 with fail
  have hp := Blk.new w 39 #[.int .u32 0, .int .u16 0, .int .u32 0, .int .u16 0, .int .u32 0, .int .u32 0, .int .u8 255, .int .u16 0, .int .u16 0, .int .i64 0, .bool false, .slice none 0 0, .bool false, .int .u32 0, .int .u32 0, .string ⟨#[]⟩]
  have hB := HB.out.alloc HB.out.size (.cells #[.int .u32 0, .int .u16 0, .int .u32 0, .int .u16 0, .int .u32 0, .int .u32 0, .int .u8 255, .int .u16 0, .int .u16 0, .int .i64 0, .bool false, .slice none 0 0, .bool false, .int .u32 0, .int .u32 0, .string ⟨#[]⟩] 39)
  clear HB
  obtain ⟨gp, hge⟩ : ∃ g, g = w.heap.size := ⟨_, rfl⟩
  rw [← hge] at hp ⊢
  clear hge
  generalize w.alloc _ = wn7 at *
  have Hp := Lib.hid hp
  clear hp
  have HB := Lib.hid hB
  clear hB
  have c0 := Hp.out.cell 0
  have c1 := Hp.out.cell 1
  have c2 := Hp.out.cell 2
  have c3 := Hp.out.cell 3
  have c4 := Hp.out.cell 4
  have c5 := Hp.out.cell 5
  have c6 := Hp.out.cell 6
  have c7 := Hp.out.cell 7
  have c8 := Hp.out.cell 8
  have c9 := Hp.out.cell 9
  have c10 := Hp.out.cell 10
  have c11 := Hp.out.cell 11
  have c12 := Hp.out.cell 12
  have c13 := Hp.out.cell 13
  have c14 := Hp.out.cell 14
  have c15 := Hp.out.cell 15
  simp at c0 c1 c2 c3 c4 c5 c6 c7 c8 c9 c10 c11 c12 c13 c14 c15
  go_wp2_with fail
  (with_reducible refine (flags_255 _).mono ?_)
  rintro e w1 ⟨rfl, rfl⟩
  clear c0 c1 c2 c3 c4 c5 c6 c7 c8 c9 c10 c11 c12 c13 c14 c15
  have c0 := Hp.out.cell 0
  have c1 := Hp.out.cell 1
  have c2 := Hp.out.cell 2
  have c3 := Hp.out.cell 3
  have c4 := Hp.out.cell 4
  have c5 := Hp.out.cell 5
  have c6 := Hp.out.cell 6
  have c7 := Hp.out.cell 7
  have c8 := Hp.out.cell 8
  have c9 := Hp.out.cell 9
  have c10 := Hp.out.cell 10
  have c11 := Hp.out.cell 11
  have c12 := Hp.out.cell 12
  have c13 := Hp.out.cell 13
  have c14 := Hp.out.cell 14
  have c15 := Hp.out.cell 15
  simp at c0 c1 c2 c3 c4 c5 c6 c7 c8 c9 c10 c11 c12 c13 c14 c15
  go_wp2
  go_ret
  exact ⟨rfl, HB.out⟩
set_option maxRecDepth 100000 in
set_option maxHeartbeats 4000000 in
theorem sseg_255 (x0 x1 x2 x3 x4 x5 x6 x7 x8 x9 : Int) (w : World) : Calls Try.prog 10 #[.agg #[.int .u32 x0, .int .u16 x1, .int .u32 x2, .int .u16 x3, .int .u32 x4, .int .u32 x5, .int .u32 x6, .int .u32 x7, .int .i64 x8, .int .i64 x9], .agg #[.int .u32 0, .int .u16 0, .int .u32 0, .int .u16 0, .int .u32 0, .int .u32 0, .int .u8 255, .int .u16 0, .int .u16 0, .int .i64 0, .bool false, .slice none 0 0, .bool false, .int .u32 0, .int .u32 0, .string ⟨#[]⟩]] w fun e w' => e = .returned (.tuple #[.agg #[.int .u32 0, .int .u16 0, .int .u32 0, .int .u16 0, .int .u32 0, .int .u32 0, .int .u8 0, .int .u16 0, .int .u16 0, .int .i64 0, .bool false, .slice none 0 0, .bool false, .int .u32 0, .int .u32 0, .string ⟨#[]⟩], .int .i64 2]) ∧ Below w.heap.size w w' := by
  have hb0 : Below w.heap.size w w := Below.refl _ _
  have HB := Lib.hid hb0
  clear hb0
  go_enter Try.func10, Try.ntmps10
  go_upto_region 1 with fail
  have hx := Blk.alloc (Blk.alloc (Blk.new w 27 #[.int .u32 x0, .int .u16 x1, .int .u32 x2, .int .u16 x3, .int .u32 x4, .int .u32 x5, .int .u32 x6, .int .u32 x7, .int .i64 x8, .int .i64 x9]) (.cells #[.int .u32 0, .int .u16 0, .int .u32 0, .int .u16 0, .int .u32 0, .int .u32 0, .int .u8 255, .int .u16 0, .int .u16 0, .int .i64 0, .bool false, .slice none 0 0, .bool false, .int .u32 0, .int .u32 0, .string ⟨#[]⟩] 39)) (.cells #[.int .u32 0, .int .u16 0, .int .u32 0, .int .u16 0, .int .u32 0, .int .u32 0, .int .u8 0, .int .u16 0, .int .u16 0, .int .i64 0, .bool false, .slice none 0 0, .bool false, .int .u32 0, .int .u32 0, .string ⟨#[]⟩] 39)
  have hs := Blk.alloc (Blk.new (w.alloc (.cells #[.int .u32 x0, .int .u16 x1, .int .u32 x2, .int .u16 x3, .int .u32 x4, .int .u32 x5, .int .u32 x6, .int .u32 x7, .int .i64 x8, .int .i64 x9] 27)) 39 #[.int .u32 0, .int .u16 0, .int .u32 0, .int .u16 0, .int .u32 0, .int .u32 0, .int .u8 255, .int .u16 0, .int .u16 0, .int .i64 0, .bool false, .slice none 0 0, .bool false, .int .u32 0, .int .u32 0, .string ⟨#[]⟩]) (.cells #[.int .u32 0, .int .u16 0, .int .u32 0, .int .u16 0, .int .u32 0, .int .u32 0, .int .u8 0, .int .u16 0, .int .u16 0, .int .i64 0, .bool false, .slice none 0 0, .bool false, .int .u32 0, .int .u32 0, .string ⟨#[]⟩] 39)
  rw [show (w.alloc (.cells #[.int .u32 x0, .int .u16 x1, .int .u32 x2, .int .u16 x3, .int .u32 x4, .int .u32 x5, .int .u32 x6, .int .u32 x7, .int .i64 x8, .int .i64 x9] 27)).heap.size = w.heap.size + 1 by simp] at hs
  have hr := Blk.new ((w.alloc (.cells #[.int .u32 x0, .int .u16 x1, .int .u32 x2, .int .u16 x3, .int .u32 x4, .int .u32 x5, .int .u32 x6, .int .u32 x7, .int .i64 x8, .int .i64 x9] 27)).alloc (.cells #[.int .u32 0, .int .u16 0, .int .u32 0, .int .u16 0, .int .u32 0, .int .u32 0, .int .u8 255, .int .u16 0, .int .u16 0, .int .i64 0, .bool false, .slice none 0 0, .bool false, .int .u32 0, .int .u32 0, .string ⟨#[]⟩] 39)) 39 #[.int .u32 0, .int .u16 0, .int .u32 0, .int .u16 0, .int .u32 0, .int .u32 0, .int .u8 0, .int .u16 0, .int .u16 0, .int .i64 0, .bool false, .slice none 0 0, .bool false, .int .u32 0, .int .u32 0, .string ⟨#[]⟩]
  rw [show ((w.alloc (.cells #[.int .u32 x0, .int .u16 x1, .int .u32 x2, .int .u16 x3, .int .u32 x4, .int .u32 x5, .int .u32 x6, .int .u32 x7, .int .i64 x8, .int .i64 x9] 27)).alloc (.cells #[.int .u32 0, .int .u16 0, .int .u32 0, .int .u16 0, .int .u32 0, .int .u32 0, .int .u8 255, .int .u16 0, .int .u16 0, .int .i64 0, .bool false, .slice none 0 0, .bool false, .int .u32 0, .int .u32 0, .string ⟨#[]⟩] 39)).heap.size = w.heap.size + 2 by simp] at hr
  have hB := Below.alloc (Below.alloc (Below.alloc (HB.out) (Nat.le_trans HB.out.size (by simp <;> omega)) (.cells #[.int .u32 x0, .int .u16 x1, .int .u32 x2, .int .u16 x3, .int .u32 x4, .int .u32 x5, .int .u32 x6, .int .u32 x7, .int .i64 x8, .int .i64 x9] 27)) (Nat.le_trans HB.out.size (by simp <;> omega)) (.cells #[.int .u32 0, .int .u16 0, .int .u32 0, .int .u16 0, .int .u32 0, .int .u32 0, .int .u8 255, .int .u16 0, .int .u16 0, .int .i64 0, .bool false, .slice none 0 0, .bool false, .int .u32 0, .int .u32 0, .string ⟨#[]⟩] 39)) (Nat.le_trans HB.out.size (by simp <;> omega)) (.cells #[.int .u32 0, .int .u16 0, .int .u32 0, .int .u16 0, .int .u32 0, .int .u32 0, .int .u8 0, .int .u16 0, .int .u16 0, .int .i64 0, .bool false, .slice none 0 0, .bool false, .int .u32 0, .int .u32 0, .string ⟨#[]⟩] 39)
  clear HB
  obtain ⟨gr, hger⟩ : ∃ g, g = w.heap.size + 2 := ⟨_, rfl⟩
  rw [← hger] at hr ⊢
  obtain ⟨gs, hges⟩ : ∃ g, g = w.heap.size + 1 := ⟨_, rfl⟩
  rw [← hges] at hs ⊢
  obtain ⟨gx, hgex⟩ : ∃ g, g = w.heap.size := ⟨_, rfl⟩
  rw [← hgex] at hx ⊢
  have hne_x_s : gx ≠ gs := by omega
  have hne_x_r : gx ≠ gr := by omega
  have hne_s_r : gs ≠ gr := by omega
  have hle_x : w.heap.size ≤ gx := by omega
  have hle_s : w.heap.size ≤ gs := by omega
  have hle_r : w.heap.size ≤ gr := by omega
  clear hgex hges hger
  generalize ((w.alloc _).alloc _).alloc _ = wn8 at *
  have Hx := Lib.hid hx
  clear hx
  have Hs := Lib.hid hs
  clear hs
  have Hr := Lib.hid hr
  clear hr
  have HB := Lib.hid hB
  clear hB
  have c0 := Hs.out.cell 0
  have c1 := Hs.out.cell 1
  have c2 := Hs.out.cell 2
  have c3 := Hs.out.cell 3
  have c4 := Hs.out.cell 4
  have c5 := Hs.out.cell 5
  have c6 := Hs.out.cell 6
  have c7 := Hs.out.cell 7
  have c8 := Hs.out.cell 8
  have c9 := Hs.out.cell 9
  have c10 := Hs.out.cell 10
  have c11 := Hs.out.cell 11
  have c12 := Hs.out.cell 12
  have c13 := Hs.out.cell 13
  have c14 := Hs.out.cell 14
  have c15 := Hs.out.cell 15
  simp at c0 c1 c2 c3 c4 c5 c6 c7 c8 c9 c10 c11 c12 c13 c14 c15
  go_wp2_with fail
  (with_reducible refine (pmay_255 _).mono ?_)
  rintro e wc9 ⟨rfl, hbq⟩
  have hx := Hx.out.below hbq Hx.out.lt
  clear Hx
  have Hx := Lib.hid hx
  clear hx
  have hs := Hs.out.below hbq Hs.out.lt
  clear Hs
  have Hs := Lib.hid hs
  clear hs
  have hr := Hr.out.below hbq Hr.out.lt
  clear Hr
  have Hr := Lib.hid hr
  clear hr
  have hB := HB.out.trans (hbq.mono HB.out.size)
  clear HB
  have HB := Lib.hid hB
  clear hB
  clear hbq
  clear c0 c1 c2 c3 c4 c5 c6 c7 c8 c9 c10 c11 c12 c13 c14 c15
  have d0 := Hr.out.cell 0
  have d1 := Hr.out.cell 1
  have d2 := Hr.out.cell 2
  have d3 := Hr.out.cell 3
  have d4 := Hr.out.cell 4
  have d5 := Hr.out.cell 5
  have d6 := Hr.out.cell 6
  have d7 := Hr.out.cell 7
  have d8 := Hr.out.cell 8
  have d9 := Hr.out.cell 9
  have d10 := Hr.out.cell 10
  have d11 := Hr.out.cell 11
  have d12 := Hr.out.cell 12
  have d13 := Hr.out.cell 13
  have d14 := Hr.out.cell 14
  have d15 := Hr.out.cell 15
  simp at d0 d1 d2 d3 d4 d5 d6 d7 d8 d9 d10 d11 d12 d13 d14 d15
  have fr := Hr.out.frozen
  go_wp2
  generalize hWf : World.setCell _ _ _ = Wf
  have hf : Blk Wf gr 39 #[.int .u32 0, .int .u16 0, .int .u32 0, .int .u16 0, .int .u32 0, .int .u32 0, .int .u8 0, .int .u16 0, .int .u16 0, .int .i64 0, .bool false, .slice none 0 0, .bool false, .int .u32 0, .int .u32 0, .string ⟨#[]⟩] := by
    rw [← hWf]
    have := (((((((((((((((Hr.out.set_ 0 (.int .u32 0)).set_ 1 (.int .u16 0)).set_ 2 (.int .u32 0)).set_ 3 (.int .u16 0)).set_ 4 (.int .u32 0)).set_ 5 (.int .u32 0)).set_ 6 (.int .u8 0)).set_ 7 (.int .u16 0)).set_ 8 (.int .u16 0)).set_ 9 (.int .i64 0)).set_ 10 (.bool false)).set_ 11 (.slice none 0 0)).set_ 12 (.bool false)).set_ 13 (.int .u32 0)).set_ 14 (.int .u32 0)).set_ 15 (.string ⟨#[]⟩)
    simpa using this
  have hBf : Below w.heap.size w Wf := by
    rw [← hWf]
    repeat (refine Below.setCell ?_ hle_r _)
    exact HB.out
  clear hWf d0 d1 d2 d3 d4 d5 d6 d7 d8 d9 d10 d11 d12 d13 d14 d15 fr
  have z0 := hf.cell 0
  have z1 := hf.cell 1
  have z2 := hf.cell 2
  have z3 := hf.cell 3
  have z4 := hf.cell 4
  have z5 := hf.cell 5
  have z6 := hf.cell 6
  have z7 := hf.cell 7
  have z8 := hf.cell 8
  have z9 := hf.cell 9
  have z10 := hf.cell 10
  have z11 := hf.cell 11
  have z12 := hf.cell 12
  have z13 := hf.cell 13
  have z14 := hf.cell 14
  have z15 := hf.cell 15
  simp at z0 z1 z2 z3 z4 z5 z6 z7 z8 z9 z10 z11 z12 z13 z14 z15
  exact bodyPost_ret (v := .tuple #[.agg #[.int .u32 0, .int .u16 0, .int .u32 0, .int .u16 0, .int .u32 0, .int .u32 0, .int .u8 0, .int .u16 0, .int .u16 0, .int .i64 0, .bool false, .slice none 0 0, .bool false, .int .u32 0, .int .u32 0, .string ⟨#[]⟩], .int .i64 2]) (by simp [results, Try.results10, go_sem, z0, z1, z2, z3, z4, z5, z6, z7, z8, z9, z10, z11, z12, z13, z14, z15]) rfl ⟨rfl, hBf⟩
end Go.Proofs.Ytgppkfdhfphoeaa
