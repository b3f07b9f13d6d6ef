/- Contracts of the reference: transomref26.May, Of; transomref08.Window. -/
import Derived.Test.YtgppkfdhfphoeaaShift
import Derived.Laws.Bits64
set_option linter.unusedVariables false
set_option linter.unusedSimpArgs false
namespace Go.Proofs.Ytgppkfdhfphoeaa
open Go.RowKit Go.BigFrame

set_option maxHeartbeats 2000000 in
theorem rmay_leg (a0 a1 a2 a3 a4 a5 a6 a7 a8 a9 : Int) (w : World) : Calls Try.prog 22 #[.agg #[.int .u32 a0, .int .u16 a1, .int .u32 a2, .int .u16 a3, .int .u32 a4, .int .u32 a5, .int .u32 a6, .int .u32 a7, .int .i64 a8, .int .i64 a9]] w fun e w' => e = .returned (.bool (scB a8 && scB a9)) ∧ Below w.heap.size w w' := by
  have hB : Below w.heap.size w (w.alloc (.cells #[.int .u32 a0, .int .u16 a1, .int .u32 a2, .int .u16 a3, .int .u32 a4, .int .u32 a5, .int .u32 a6, .int .u32 a7, .int .i64 a8, .int .i64 a9] 34)) := (Below.refl _ _).alloc (Nat.le_refl _) _
  obtain ⟨V, hV⟩ : ∃ V, V = (scB a8 && scB a9) := ⟨_, rfl⟩
  rw [← hV]
  unfold scB at hV
  have HB := Lib.hid hB
  clear hB
  by_cases h0 : 0 ≤ a8
  · by_cases h1 : a8 ≤ 14
    · by_cases h2 : 0 ≤ a9
      · by_cases h3 : a9 ≤ 14
        · have hv : V = true := by rw [hV]; simp <;> omega
          clear hV
          have Hv := Lib.hid hv
          clear hv
          go_enter Try.func22, Try.ntmps22
          go_wp2
          go_ret
          exact ⟨ret_bool (by first | exact Hv.out.symm | (rw [Hv.out]; simp; omega)), HB.out⟩
        · have n3 : 14 < a9 := by omega
          clear h3
          have hv : V = false := by rw [hV]; simp <;> omega
          clear hV
          have Hv := Lib.hid hv
          clear hv
          go_enter Try.func22, Try.ntmps22
          go_wp2
          go_ret
          exact ⟨ret_bool (by first | exact Hv.out.symm | (rw [Hv.out]; simp; omega)), HB.out⟩
      · have n2 : a9 < 0 := by omega
        clear h2
        have hv : V = false := by rw [hV]; simp <;> omega
        clear hV
        have Hv := Lib.hid hv
        clear hv
        go_enter Try.func22, Try.ntmps22
        go_wp2
        go_ret
        exact ⟨ret_bool (by first | exact Hv.out.symm | (rw [Hv.out]; simp; omega)), HB.out⟩
    · have n1 : 14 < a8 := by omega
      clear h1
      have hv : V = false := by rw [hV]; simp <;> omega
      clear hV
      have Hv := Lib.hid hv
      clear hv
      go_enter Try.func22, Try.ntmps22
      go_wp2
      go_ret
      exact ⟨ret_bool (by first | exact Hv.out.symm | (rw [Hv.out]; simp; omega)), HB.out⟩
  · have n0 : a8 < 0 := by omega
    clear h0
    have hv : V = false := by rw [hV]; simp <;> omega
    clear hV
    have Hv := Lib.hid hv
    clear hv
    go_enter Try.func22, Try.ntmps22
    go_wp2
    go_ret
    exact ⟨ret_bool (by first | exact Hv.out.symm | (rw [Hv.out]; simp; omega)), HB.out⟩

set_option maxRecDepth 100000 in
set_option maxHeartbeats 4000000 in
theorem rof_any (a0 a1 a2 a3 a4 a5 a6 a7 a8 a9 b0 b1 b2 b3 b4 b5 b6 b7 b8 b9 : Int) (w : World) : Calls Try.prog 12 #[.agg #[.int .u32 a0, .int .u16 a1, .int .u32 a2, .int .u16 a3, .int .u32 a4, .int .u32 a5, .int .u32 a6, .int .u32 a7, .int .i64 a8, .int .i64 a9], .agg #[.int .u32 b0, .int .u16 b1, .int .u32 b2, .int .u16 b3, .int .u32 b4, .int .u32 b5, .int .u32 b6, .int .u32 b7, .int .i64 b8, .int .i64 b9]] w fun e w' => e = .returned (ofV a0 a1 a2 a3 a4 a5 a6 a7 a8 a9 b0 b1 b2 b3 b4 b5 b6 b7 b8 b9) ∧ Below w.heap.size w w' := by
  have hb0 : Below w.heap.size w w := Below.refl _ _
  have HB := Lib.hid hb0
  have m1 := fun W => rmay_leg a0 a1 a2 a3 a4 a5 a6 a7 a8 a9 W
  have m2 := fun W => rmay_leg b0 b1 b2 b3 b4 b5 b6 b7 b8 b9 W
  have hV : ofV a0 a1 a2 a3 a4 a5 a6 a7 a8 a9 b0 b1 b2 b3 b4 b5 b6 b7 b8 b9 = if (scB a8 && scB a9) = true ∧ (scB b8 && scB b9) = true then .tuple #[.agg #[.int .u32 b2, .int .u16 b3, .int .u32 b0, .int .u16 b1, .int .u32 ((b4 - a5) % 4294967296), .int .u32 ((b5 - a4) % 4294967296), .int .u32 ((b6 - a7) % 4294967296), .int .u32 ((b7 - a6) % 4294967296), .int .i64 a9, .int .i64 b8], .int .i64 0] else .tuple #[.agg #[.int .u32 0, .int .u16 0, .int .u32 0, .int .u16 0, .int .u32 0, .int .u32 0, .int .u32 0, .int .u32 0, .int .i64 0, .int .i64 0], .int .i64 2] := rfl
  generalize (scB a8 && scB a9) = s1 at *
  generalize (scB b8 && scB b9) = s2 at *
  generalize ofV a0 a1 a2 a3 a4 a5 a6 a7 a8 a9 b0 b1 b2 b3 b4 b5 b6 b7 b8 b9 = V at *
  have M1 := Lib.hid m1
  clear m1
  have M2 := Lib.hid m2
  clear m2
  have HV := Lib.hid hV
  clear hV
  clear hb0
  cases s1
  · go_enter Try.func12, Try.ntmps12
    go_upto_region 1 with fail
    have hp := Blk.alloc (Blk.alloc (Blk.new w 34 #[.int .u32 a0, .int .u16 a1, .int .u32 a2, .int .u16 a3, .int .u32 a4, .int .u32 a5, .int .u32 a6, .int .u32 a7, .int .i64 a8, .int .i64 a9]) (.cells #[.int .u32 b0, .int .u16 b1, .int .u32 b2, .int .u16 b3, .int .u32 b4, .int .u32 b5, .int .u32 b6, .int .u32 b7, .int .i64 b8, .int .i64 b9] 34)) (.cells #[.int .u32 0, .int .u16 0, .int .u32 0, .int .u16 0, .int .u32 0, .int .u32 0, .int .u32 0, .int .u32 0, .int .i64 0, .int .i64 0] 27)
    have hq := Blk.alloc (Blk.new (w.alloc (.cells #[.int .u32 a0, .int .u16 a1, .int .u32 a2, .int .u16 a3, .int .u32 a4, .int .u32 a5, .int .u32 a6, .int .u32 a7, .int .i64 a8, .int .i64 a9] 34)) 34 #[.int .u32 b0, .int .u16 b1, .int .u32 b2, .int .u16 b3, .int .u32 b4, .int .u32 b5, .int .u32 b6, .int .u32 b7, .int .i64 b8, .int .i64 b9]) (.cells #[.int .u32 0, .int .u16 0, .int .u32 0, .int .u16 0, .int .u32 0, .int .u32 0, .int .u32 0, .int .u32 0, .int .i64 0, .int .i64 0] 27)
    rw [show (w.alloc (.cells #[.int .u32 a0, .int .u16 a1, .int .u32 a2, .int .u16 a3, .int .u32 a4, .int .u32 a5, .int .u32 a6, .int .u32 a7, .int .i64 a8, .int .i64 a9] 34)).heap.size = w.heap.size + 1 by simp] at hq
    have hr := Blk.new ((w.alloc (.cells #[.int .u32 a0, .int .u16 a1, .int .u32 a2, .int .u16 a3, .int .u32 a4, .int .u32 a5, .int .u32 a6, .int .u32 a7, .int .i64 a8, .int .i64 a9] 34)).alloc (.cells #[.int .u32 b0, .int .u16 b1, .int .u32 b2, .int .u16 b3, .int .u32 b4, .int .u32 b5, .int .u32 b6, .int .u32 b7, .int .i64 b8, .int .i64 b9] 34)) 27 #[.int .u32 0, .int .u16 0, .int .u32 0, .int .u16 0, .int .u32 0, .int .u32 0, .int .u32 0, .int .u32 0, .int .i64 0, .int .i64 0]
    rw [show ((w.alloc (.cells #[.int .u32 a0, .int .u16 a1, .int .u32 a2, .int .u16 a3, .int .u32 a4, .int .u32 a5, .int .u32 a6, .int .u32 a7, .int .i64 a8, .int .i64 a9] 34)).alloc (.cells #[.int .u32 b0, .int .u16 b1, .int .u32 b2, .int .u16 b3, .int .u32 b4, .int .u32 b5, .int .u32 b6, .int .u32 b7, .int .i64 b8, .int .i64 b9] 34)).heap.size = w.heap.size + 2 by simp] at hr
    have hB := Below.alloc (Below.alloc (Below.alloc (HB.out) (Nat.le_trans HB.out.size (by simp <;> omega)) (.cells #[.int .u32 a0, .int .u16 a1, .int .u32 a2, .int .u16 a3, .int .u32 a4, .int .u32 a5, .int .u32 a6, .int .u32 a7, .int .i64 a8, .int .i64 a9] 34)) (Nat.le_trans HB.out.size (by simp <;> omega)) (.cells #[.int .u32 b0, .int .u16 b1, .int .u32 b2, .int .u16 b3, .int .u32 b4, .int .u32 b5, .int .u32 b6, .int .u32 b7, .int .i64 b8, .int .i64 b9] 34)) (Nat.le_trans HB.out.size (by simp <;> omega)) (.cells #[.int .u32 0, .int .u16 0, .int .u32 0, .int .u16 0, .int .u32 0, .int .u32 0, .int .u32 0, .int .u32 0, .int .i64 0, .int .i64 0] 27)
    clear HB
    obtain ⟨gr, hger⟩ : ∃ g, g = w.heap.size + 2 := ⟨_, rfl⟩
    rw [← hger] at hr ⊢
    obtain ⟨gq, hgeq⟩ : ∃ g, g = w.heap.size + 1 := ⟨_, rfl⟩
    rw [← hgeq] at hq ⊢
    obtain ⟨gp, hgep⟩ : ∃ g, g = w.heap.size := ⟨_, rfl⟩
    rw [← hgep] at hp ⊢
    have hne_p_q : gp ≠ gq := by omega
    have hne_p_r : gp ≠ gr := by omega
    have hne_q_r : gq ≠ gr := by omega
    have hle_p : w.heap.size ≤ gp := by omega
    have hle_q : w.heap.size ≤ gq := by omega
    have hle_r : w.heap.size ≤ gr := by omega
    clear hgep hgeq hger
    generalize ((w.alloc _).alloc _).alloc _ = wn1 at *
    have Hp := Lib.hid hp
    clear hp
    have Hq := Lib.hid hq
    clear hq
    have Hr := Lib.hid hr
    clear hr
    have HB := Lib.hid hB
    clear hB
    have c0 := Hp.out.cell 0
    have c1 := Hp.out.cell 1
    have c2 := Hp.out.cell 2
    have c3 := Hp.out.cell 3
    have c4 := Hp.out.cell 4
    have c5 := Hp.out.cell 5
    have c6 := Hp.out.cell 6
    have c7 := Hp.out.cell 7
    have c8 := Hp.out.cell 8
    have c9 := Hp.out.cell 9
    simp at c0 c1 c2 c3 c4 c5 c6 c7 c8 c9
    go_wp2_with fail
    (with_reducible refine (M1.out _).mono ?_)
    rintro e wc2 ⟨rfl, hbq⟩
    have hp := Hp.out.below hbq Hp.out.lt
    clear Hp
    have Hp := Lib.hid hp
    clear hp
    have hq := Hq.out.below hbq Hq.out.lt
    clear Hq
    have Hq := Lib.hid hq
    clear hq
    have hr := Hr.out.below hbq Hr.out.lt
    clear Hr
    have Hr := Lib.hid hr
    clear hr
    have hB := HB.out.trans (hbq.mono HB.out.size)
    clear HB
    have HB := Lib.hid hB
    clear hB
    clear hbq
    clear c0 c1 c2 c3 c4 c5 c6 c7 c8 c9
    have d0 := Hr.out.cell 0
    have d1 := Hr.out.cell 1
    have d2 := Hr.out.cell 2
    have d3 := Hr.out.cell 3
    have d4 := Hr.out.cell 4
    have d5 := Hr.out.cell 5
    have d6 := Hr.out.cell 6
    have d7 := Hr.out.cell 7
    have d8 := Hr.out.cell 8
    have d9 := Hr.out.cell 9
    simp at d0 d1 d2 d3 d4 d5 d6 d7 d8 d9
    have fr := Hr.out.frozen
    go_wp2
    have hv : V = .tuple #[.agg #[.int .u32 0, .int .u16 0, .int .u32 0, .int .u16 0, .int .u32 0, .int .u32 0, .int .u32 0, .int .u32 0, .int .i64 0, .int .i64 0], .int .i64 2] := by rw [HV.out]; simp
    subst hv
    generalize hWf : World.setCell _ _ _ = Wf
    have hf : Blk Wf gr 27 #[.int .u32 0, .int .u16 0, .int .u32 0, .int .u16 0, .int .u32 0, .int .u32 0, .int .u32 0, .int .u32 0, .int .i64 0, .int .i64 0] := by
      rw [← hWf]
      have := ((((((((((Hr.out.set_ 0 (.int .u32 0)).set_ 1 (.int .u16 0)).set_ 2 (.int .u32 0)).set_ 3 (.int .u16 0)).set_ 4 (.int .u32 0)).set_ 5 (.int .u32 0)).set_ 6 (.int .u32 0)).set_ 7 (.int .u32 0)).set_ 8 (.int .i64 0)).set_ 9 (.int .i64 0))
      simpa using this
    have hBf : Below w.heap.size w Wf := by
      rw [← hWf]
      repeat (refine Below.setCell ?_ hle_r _)
      exact HB.out
    clear hWf d0 d1 d2 d3 d4 d5 d6 d7 d8 d9 fr
    have z0 := hf.cell 0
    have z1 := hf.cell 1
    have z2 := hf.cell 2
    have z3 := hf.cell 3
    have z4 := hf.cell 4
    have z5 := hf.cell 5
    have z6 := hf.cell 6
    have z7 := hf.cell 7
    have z8 := hf.cell 8
    have z9 := hf.cell 9
    simp at z0 z1 z2 z3 z4 z5 z6 z7 z8 z9
    exact bodyPost_ret (v := .tuple #[.agg #[.int .u32 0, .int .u16 0, .int .u32 0, .int .u16 0, .int .u32 0, .int .u32 0, .int .u32 0, .int .u32 0, .int .i64 0, .int .i64 0], .int .i64 2]) (by simp [results, Try.results12, go_sem, z0, z1, z2, z3, z4, z5, z6, z7, z8, z9]) rfl ⟨rfl, hBf⟩
  cases s2
  · go_enter Try.func12, Try.ntmps12
    go_upto_region 1 with fail
    have hp := Blk.alloc (Blk.alloc (Blk.new w 34 #[.int .u32 a0, .int .u16 a1, .int .u32 a2, .int .u16 a3, .int .u32 a4, .int .u32 a5, .int .u32 a6, .int .u32 a7, .int .i64 a8, .int .i64 a9]) (.cells #[.int .u32 b0, .int .u16 b1, .int .u32 b2, .int .u16 b3, .int .u32 b4, .int .u32 b5, .int .u32 b6, .int .u32 b7, .int .i64 b8, .int .i64 b9] 34)) (.cells #[.int .u32 0, .int .u16 0, .int .u32 0, .int .u16 0, .int .u32 0, .int .u32 0, .int .u32 0, .int .u32 0, .int .i64 0, .int .i64 0] 27)
    have hq := Blk.alloc (Blk.new (w.alloc (.cells #[.int .u32 a0, .int .u16 a1, .int .u32 a2, .int .u16 a3, .int .u32 a4, .int .u32 a5, .int .u32 a6, .int .u32 a7, .int .i64 a8, .int .i64 a9] 34)) 34 #[.int .u32 b0, .int .u16 b1, .int .u32 b2, .int .u16 b3, .int .u32 b4, .int .u32 b5, .int .u32 b6, .int .u32 b7, .int .i64 b8, .int .i64 b9]) (.cells #[.int .u32 0, .int .u16 0, .int .u32 0, .int .u16 0, .int .u32 0, .int .u32 0, .int .u32 0, .int .u32 0, .int .i64 0, .int .i64 0] 27)
    rw [show (w.alloc (.cells #[.int .u32 a0, .int .u16 a1, .int .u32 a2, .int .u16 a3, .int .u32 a4, .int .u32 a5, .int .u32 a6, .int .u32 a7, .int .i64 a8, .int .i64 a9] 34)).heap.size = w.heap.size + 1 by simp] at hq
    have hr := Blk.new ((w.alloc (.cells #[.int .u32 a0, .int .u16 a1, .int .u32 a2, .int .u16 a3, .int .u32 a4, .int .u32 a5, .int .u32 a6, .int .u32 a7, .int .i64 a8, .int .i64 a9] 34)).alloc (.cells #[.int .u32 b0, .int .u16 b1, .int .u32 b2, .int .u16 b3, .int .u32 b4, .int .u32 b5, .int .u32 b6, .int .u32 b7, .int .i64 b8, .int .i64 b9] 34)) 27 #[.int .u32 0, .int .u16 0, .int .u32 0, .int .u16 0, .int .u32 0, .int .u32 0, .int .u32 0, .int .u32 0, .int .i64 0, .int .i64 0]
    rw [show ((w.alloc (.cells #[.int .u32 a0, .int .u16 a1, .int .u32 a2, .int .u16 a3, .int .u32 a4, .int .u32 a5, .int .u32 a6, .int .u32 a7, .int .i64 a8, .int .i64 a9] 34)).alloc (.cells #[.int .u32 b0, .int .u16 b1, .int .u32 b2, .int .u16 b3, .int .u32 b4, .int .u32 b5, .int .u32 b6, .int .u32 b7, .int .i64 b8, .int .i64 b9] 34)).heap.size = w.heap.size + 2 by simp] at hr
    have hB := Below.alloc (Below.alloc (Below.alloc (HB.out) (Nat.le_trans HB.out.size (by simp <;> omega)) (.cells #[.int .u32 a0, .int .u16 a1, .int .u32 a2, .int .u16 a3, .int .u32 a4, .int .u32 a5, .int .u32 a6, .int .u32 a7, .int .i64 a8, .int .i64 a9] 34)) (Nat.le_trans HB.out.size (by simp <;> omega)) (.cells #[.int .u32 b0, .int .u16 b1, .int .u32 b2, .int .u16 b3, .int .u32 b4, .int .u32 b5, .int .u32 b6, .int .u32 b7, .int .i64 b8, .int .i64 b9] 34)) (Nat.le_trans HB.out.size (by simp <;> omega)) (.cells #[.int .u32 0, .int .u16 0, .int .u32 0, .int .u16 0, .int .u32 0, .int .u32 0, .int .u32 0, .int .u32 0, .int .i64 0, .int .i64 0] 27)
    clear HB
    obtain ⟨gr, hger⟩ : ∃ g, g = w.heap.size + 2 := ⟨_, rfl⟩
    rw [← hger] at hr ⊢
    obtain ⟨gq, hgeq⟩ : ∃ g, g = w.heap.size + 1 := ⟨_, rfl⟩
    rw [← hgeq] at hq ⊢
    obtain ⟨gp, hgep⟩ : ∃ g, g = w.heap.size := ⟨_, rfl⟩
    rw [← hgep] at hp ⊢
    have hne_p_q : gp ≠ gq := by omega
    have hne_p_r : gp ≠ gr := by omega
    have hne_q_r : gq ≠ gr := by omega
    have hle_p : w.heap.size ≤ gp := by omega
    have hle_q : w.heap.size ≤ gq := by omega
    have hle_r : w.heap.size ≤ gr := by omega
    clear hgep hgeq hger
    generalize ((w.alloc _).alloc _).alloc _ = wn3 at *
    have Hp := Lib.hid hp
    clear hp
    have Hq := Lib.hid hq
    clear hq
    have Hr := Lib.hid hr
    clear hr
    have HB := Lib.hid hB
    clear hB
    have c0 := Hp.out.cell 0
    have c1 := Hp.out.cell 1
    have c2 := Hp.out.cell 2
    have c3 := Hp.out.cell 3
    have c4 := Hp.out.cell 4
    have c5 := Hp.out.cell 5
    have c6 := Hp.out.cell 6
    have c7 := Hp.out.cell 7
    have c8 := Hp.out.cell 8
    have c9 := Hp.out.cell 9
    simp at c0 c1 c2 c3 c4 c5 c6 c7 c8 c9
    go_wp2_with fail
    (with_reducible refine (M1.out _).mono ?_)
    rintro e wc4 ⟨rfl, hbq⟩
    have hp := Hp.out.below hbq Hp.out.lt
    clear Hp
    have Hp := Lib.hid hp
    clear hp
    have hq := Hq.out.below hbq Hq.out.lt
    clear Hq
    have Hq := Lib.hid hq
    clear hq
    have hr := Hr.out.below hbq Hr.out.lt
    clear Hr
    have Hr := Lib.hid hr
    clear hr
    have hB := HB.out.trans (hbq.mono HB.out.size)
    clear HB
    have HB := Lib.hid hB
    clear hB
    clear hbq
    clear c0 c1 c2 c3 c4 c5 c6 c7 c8 c9
    have c0 := Hq.out.cell 0
    have c1 := Hq.out.cell 1
    have c2 := Hq.out.cell 2
    have c3 := Hq.out.cell 3
    have c4 := Hq.out.cell 4
    have c5 := Hq.out.cell 5
    have c6 := Hq.out.cell 6
    have c7 := Hq.out.cell 7
    have c8 := Hq.out.cell 8
    have c9 := Hq.out.cell 9
    simp at c0 c1 c2 c3 c4 c5 c6 c7 c8 c9
    go_wp2_with fail
    (with_reducible refine (M2.out _).mono ?_)
    rintro e wc5 ⟨rfl, hbq⟩
    have hp := Hp.out.below hbq Hp.out.lt
    clear Hp
    have Hp := Lib.hid hp
    clear hp
    have hq := Hq.out.below hbq Hq.out.lt
    clear Hq
    have Hq := Lib.hid hq
    clear hq
    have hr := Hr.out.below hbq Hr.out.lt
    clear Hr
    have Hr := Lib.hid hr
    clear hr
    have hB := HB.out.trans (hbq.mono HB.out.size)
    clear HB
    have HB := Lib.hid hB
    clear hB
    clear hbq
    clear c0 c1 c2 c3 c4 c5 c6 c7 c8 c9
    have d0 := Hr.out.cell 0
    have d1 := Hr.out.cell 1
    have d2 := Hr.out.cell 2
    have d3 := Hr.out.cell 3
    have d4 := Hr.out.cell 4
    have d5 := Hr.out.cell 5
    have d6 := Hr.out.cell 6
    have d7 := Hr.out.cell 7
    have d8 := Hr.out.cell 8
    have d9 := Hr.out.cell 9
    simp at d0 d1 d2 d3 d4 d5 d6 d7 d8 d9
    have fr := Hr.out.frozen
    go_wp2
    have hv : V = .tuple #[.agg #[.int .u32 0, .int .u16 0, .int .u32 0, .int .u16 0, .int .u32 0, .int .u32 0, .int .u32 0, .int .u32 0, .int .i64 0, .int .i64 0], .int .i64 2] := by rw [HV.out]; simp
    subst hv
    generalize hWf : World.setCell _ _ _ = Wf
    have hf : Blk Wf gr 27 #[.int .u32 0, .int .u16 0, .int .u32 0, .int .u16 0, .int .u32 0, .int .u32 0, .int .u32 0, .int .u32 0, .int .i64 0, .int .i64 0] := by
      rw [← hWf]
      have := ((((((((((Hr.out.set_ 0 (.int .u32 0)).set_ 1 (.int .u16 0)).set_ 2 (.int .u32 0)).set_ 3 (.int .u16 0)).set_ 4 (.int .u32 0)).set_ 5 (.int .u32 0)).set_ 6 (.int .u32 0)).set_ 7 (.int .u32 0)).set_ 8 (.int .i64 0)).set_ 9 (.int .i64 0))
      simpa using this
    have hBf : Below w.heap.size w Wf := by
      rw [← hWf]
      repeat (refine Below.setCell ?_ hle_r _)
      exact HB.out
    clear hWf d0 d1 d2 d3 d4 d5 d6 d7 d8 d9 fr
    have z0 := hf.cell 0
    have z1 := hf.cell 1
    have z2 := hf.cell 2
    have z3 := hf.cell 3
    have z4 := hf.cell 4
    have z5 := hf.cell 5
    have z6 := hf.cell 6
    have z7 := hf.cell 7
    have z8 := hf.cell 8
    have z9 := hf.cell 9
    simp at z0 z1 z2 z3 z4 z5 z6 z7 z8 z9
    exact bodyPost_ret (v := .tuple #[.agg #[.int .u32 0, .int .u16 0, .int .u32 0, .int .u16 0, .int .u32 0, .int .u32 0, .int .u32 0, .int .u32 0, .int .i64 0, .int .i64 0], .int .i64 2]) (by simp [results, Try.results12, go_sem, z0, z1, z2, z3, z4, z5, z6, z7, z8, z9]) rfl ⟨rfl, hBf⟩
  · have hv : V = .tuple #[.agg #[.int .u32 b2, .int .u16 b3, .int .u32 b0, .int .u16 b1, .int .u32 ((b4 - a5) % 4294967296), .int .u32 ((b5 - a4) % 4294967296), .int .u32 ((b6 - a7) % 4294967296), .int .u32 ((b7 - a6) % 4294967296), .int .i64 a9, .int .i64 b8], .int .i64 0] := by rw [HV.out]; simp
    subst hv
    go_enter Try.func12, Try.ntmps12
    go_upto_region 1 with fail
    have hp := Blk.alloc (Blk.alloc (Blk.new w 34 #[.int .u32 a0, .int .u16 a1, .int .u32 a2, .int .u16 a3, .int .u32 a4, .int .u32 a5, .int .u32 a6, .int .u32 a7, .int .i64 a8, .int .i64 a9]) (.cells #[.int .u32 b0, .int .u16 b1, .int .u32 b2, .int .u16 b3, .int .u32 b4, .int .u32 b5, .int .u32 b6, .int .u32 b7, .int .i64 b8, .int .i64 b9] 34)) (.cells #[.int .u32 0, .int .u16 0, .int .u32 0, .int .u16 0, .int .u32 0, .int .u32 0, .int .u32 0, .int .u32 0, .int .i64 0, .int .i64 0] 27)
    have hq := Blk.alloc (Blk.new (w.alloc (.cells #[.int .u32 a0, .int .u16 a1, .int .u32 a2, .int .u16 a3, .int .u32 a4, .int .u32 a5, .int .u32 a6, .int .u32 a7, .int .i64 a8, .int .i64 a9] 34)) 34 #[.int .u32 b0, .int .u16 b1, .int .u32 b2, .int .u16 b3, .int .u32 b4, .int .u32 b5, .int .u32 b6, .int .u32 b7, .int .i64 b8, .int .i64 b9]) (.cells #[.int .u32 0, .int .u16 0, .int .u32 0, .int .u16 0, .int .u32 0, .int .u32 0, .int .u32 0, .int .u32 0, .int .i64 0, .int .i64 0] 27)
    rw [show (w.alloc (.cells #[.int .u32 a0, .int .u16 a1, .int .u32 a2, .int .u16 a3, .int .u32 a4, .int .u32 a5, .int .u32 a6, .int .u32 a7, .int .i64 a8, .int .i64 a9] 34)).heap.size = w.heap.size + 1 by simp] at hq
    have hr := Blk.new ((w.alloc (.cells #[.int .u32 a0, .int .u16 a1, .int .u32 a2, .int .u16 a3, .int .u32 a4, .int .u32 a5, .int .u32 a6, .int .u32 a7, .int .i64 a8, .int .i64 a9] 34)).alloc (.cells #[.int .u32 b0, .int .u16 b1, .int .u32 b2, .int .u16 b3, .int .u32 b4, .int .u32 b5, .int .u32 b6, .int .u32 b7, .int .i64 b8, .int .i64 b9] 34)) 27 #[.int .u32 0, .int .u16 0, .int .u32 0, .int .u16 0, .int .u32 0, .int .u32 0, .int .u32 0, .int .u32 0, .int .i64 0, .int .i64 0]
    rw [show ((w.alloc (.cells #[.int .u32 a0, .int .u16 a1, .int .u32 a2, .int .u16 a3, .int .u32 a4, .int .u32 a5, .int .u32 a6, .int .u32 a7, .int .i64 a8, .int .i64 a9] 34)).alloc (.cells #[.int .u32 b0, .int .u16 b1, .int .u32 b2, .int .u16 b3, .int .u32 b4, .int .u32 b5, .int .u32 b6, .int .u32 b7, .int .i64 b8, .int .i64 b9] 34)).heap.size = w.heap.size + 2 by simp] at hr
    have hB := Below.alloc (Below.alloc (Below.alloc (HB.out) (Nat.le_trans HB.out.size (by simp <;> omega)) (.cells #[.int .u32 a0, .int .u16 a1, .int .u32 a2, .int .u16 a3, .int .u32 a4, .int .u32 a5, .int .u32 a6, .int .u32 a7, .int .i64 a8, .int .i64 a9] 34)) (Nat.le_trans HB.out.size (by simp <;> omega)) (.cells #[.int .u32 b0, .int .u16 b1, .int .u32 b2, .int .u16 b3, .int .u32 b4, .int .u32 b5, .int .u32 b6, .int .u32 b7, .int .i64 b8, .int .i64 b9] 34)) (Nat.le_trans HB.out.size (by simp <;> omega)) (.cells #[.int .u32 0, .int .u16 0, .int .u32 0, .int .u16 0, .int .u32 0, .int .u32 0, .int .u32 0, .int .u32 0, .int .i64 0, .int .i64 0] 27)
    clear HB
    obtain ⟨gr, hger⟩ : ∃ g, g = w.heap.size + 2 := ⟨_, rfl⟩
    rw [← hger] at hr ⊢
    obtain ⟨gq, hgeq⟩ : ∃ g, g = w.heap.size + 1 := ⟨_, rfl⟩
    rw [← hgeq] at hq ⊢
    obtain ⟨gp, hgep⟩ : ∃ g, g = w.heap.size := ⟨_, rfl⟩
    rw [← hgep] at hp ⊢
    have hne_p_q : gp ≠ gq := by omega
    have hne_p_r : gp ≠ gr := by omega
    have hne_q_r : gq ≠ gr := by omega
    have hle_p : w.heap.size ≤ gp := by omega
    have hle_q : w.heap.size ≤ gq := by omega
    have hle_r : w.heap.size ≤ gr := by omega
    clear hgep hgeq hger
    generalize ((w.alloc _).alloc _).alloc _ = wn6 at *
    have Hp := Lib.hid hp
    clear hp
    have Hq := Lib.hid hq
    clear hq
    have Hr := Lib.hid hr
    clear hr
    have HB := Lib.hid hB
    clear hB
    have c0 := Hp.out.cell 0
    have c1 := Hp.out.cell 1
    have c2 := Hp.out.cell 2
    have c3 := Hp.out.cell 3
    have c4 := Hp.out.cell 4
    have c5 := Hp.out.cell 5
    have c6 := Hp.out.cell 6
    have c7 := Hp.out.cell 7
    have c8 := Hp.out.cell 8
    have c9 := Hp.out.cell 9
    simp at c0 c1 c2 c3 c4 c5 c6 c7 c8 c9
    go_wp2_with fail
    (with_reducible refine (M1.out _).mono ?_)
    rintro e wc7 ⟨rfl, hbq⟩
    have hp := Hp.out.below hbq Hp.out.lt
    clear Hp
    have Hp := Lib.hid hp
    clear hp
    have hq := Hq.out.below hbq Hq.out.lt
    clear Hq
    have Hq := Lib.hid hq
    clear hq
    have hr := Hr.out.below hbq Hr.out.lt
    clear Hr
    have Hr := Lib.hid hr
    clear hr
    have hB := HB.out.trans (hbq.mono HB.out.size)
    clear HB
    have HB := Lib.hid hB
    clear hB
    clear hbq
    clear c0 c1 c2 c3 c4 c5 c6 c7 c8 c9
    have c0 := Hq.out.cell 0
    have c1 := Hq.out.cell 1
    have c2 := Hq.out.cell 2
    have c3 := Hq.out.cell 3
    have c4 := Hq.out.cell 4
    have c5 := Hq.out.cell 5
    have c6 := Hq.out.cell 6
    have c7 := Hq.out.cell 7
    have c8 := Hq.out.cell 8
    have c9 := Hq.out.cell 9
    simp at c0 c1 c2 c3 c4 c5 c6 c7 c8 c9
    go_wp2_with fail
    (with_reducible refine (M2.out _).mono ?_)
    rintro e w5 ⟨rfl, hbq⟩
    have hp := Hp.out.below hbq Hp.out.lt
    clear Hp
    have Hp := Lib.hid hp
    clear hp
    have hq := Hq.out.below hbq Hq.out.lt
    clear Hq
    have Hq := Lib.hid hq
    clear hq
    have hr := Hr.out.below hbq Hr.out.lt
    clear Hr
    have Hr := Lib.hid hr
    clear hr
    have hB := HB.out.trans (hbq.mono HB.out.size)
    clear HB
    have HB := Lib.hid hB
    clear hB
    clear hbq
    clear c0 c1 c2 c3 c4 c5 c6 c7 c8 c9
    have c0 := Hp.out.cell 0
    have c1 := Hp.out.cell 1
    have c2 := Hp.out.cell 2
    have c3 := Hp.out.cell 3
    have c4 := Hp.out.cell 4
    have c5 := Hp.out.cell 5
    have c6 := Hp.out.cell 6
    have c7 := Hp.out.cell 7
    have c8 := Hp.out.cell 8
    have c9 := Hp.out.cell 9
    simp at c0 c1 c2 c3 c4 c5 c6 c7 c8 c9
    have e0 := Hq.out.cell 0
    have e1 := Hq.out.cell 1
    have e2 := Hq.out.cell 2
    have e3 := Hq.out.cell 3
    have e4 := Hq.out.cell 4
    have e5 := Hq.out.cell 5
    have e6 := Hq.out.cell 6
    have e7 := Hq.out.cell 7
    have e8 := Hq.out.cell 8
    have e9 := Hq.out.cell 9
    simp at e0 e1 e2 e3 e4 e5 e6 e7 e8 e9
    have d0 := Hr.out.cell 0
    have d1 := Hr.out.cell 1
    have d2 := Hr.out.cell 2
    have d3 := Hr.out.cell 3
    have d4 := Hr.out.cell 4
    have d5 := Hr.out.cell 5
    have d6 := Hr.out.cell 6
    have d7 := Hr.out.cell 7
    have d8 := Hr.out.cell 8
    have d9 := Hr.out.cell 9
    simp at d0 d1 d2 d3 d4 d5 d6 d7 d8 d9
    have fr := Hr.out.frozen
    go_wp2
    clear c0 c1 c2 c3 c4 c5 c6 c7 c8 c9 e0 e1 e2 e3 e4 e5 e6 e7 e8 e9
    generalize hWf : World.setCell _ _ _ = Wf
    have hf : Blk Wf gr 27 #[.int .u32 b2, .int .u16 b3, .int .u32 b0, .int .u16 b1, .int .u32 ((b4 - a5) % 4294967296), .int .u32 ((b5 - a4) % 4294967296), .int .u32 ((b6 - a7) % 4294967296), .int .u32 ((b7 - a6) % 4294967296), .int .i64 a9, .int .i64 b8] := by
      rw [← hWf]
      have := ((((((((((Hr.out.set_ 0 (.int .u32 b2)).set_ 1 (.int .u16 b3)).set_ 2 (.int .u32 b0)).set_ 3 (.int .u16 b1)).set_ 4 (.int .u32 ((b4 - a5) % 4294967296))).set_ 5 (.int .u32 ((b5 - a4) % 4294967296))).set_ 6 (.int .u32 ((b6 - a7) % 4294967296))).set_ 7 (.int .u32 ((b7 - a6) % 4294967296))).set_ 8 (.int .i64 a9)).set_ 9 (.int .i64 b8))
      simpa using this
    have hBf : Below w.heap.size w Wf := by
      rw [← hWf]
      repeat (refine Below.setCell ?_ hle_r _)
      exact HB.out
    clear hWf d0 d1 d2 d3 d4 d5 d6 d7 d8 d9 fr
    have z0 := hf.cell 0
    have z1 := hf.cell 1
    have z2 := hf.cell 2
    have z3 := hf.cell 3
    have z4 := hf.cell 4
    have z5 := hf.cell 5
    have z6 := hf.cell 6
    have z7 := hf.cell 7
    have z8 := hf.cell 8
    have z9 := hf.cell 9
    simp at z0 z1 z2 z3 z4 z5 z6 z7 z8 z9
    exact bodyPost_ret (v := .tuple #[.agg #[.int .u32 b2, .int .u16 b3, .int .u32 b0, .int .u16 b1, .int .u32 ((b4 - a5) % 4294967296), .int .u32 ((b5 - a4) % 4294967296), .int .u32 ((b6 - a7) % 4294967296), .int .u32 ((b7 - a6) % 4294967296), .int .i64 a9, .int .i64 b8], .int .i64 0]) (by simp [results, Try.results12, go_sem, z0, z1, z2, z3, z4, z5, z6, z7, z8, z9]) rfl ⟨rfl, hBf⟩
theorem rwin_any (s7 x8 x9 : Int) (w : World) (h0 : 0 ≤ s7) (h1 : s7 < 65536) : Calls Try.prog 15 #[.int .u16 s7, .int .i64 x8, .int .i64 x9] w fun e w' => e = .returned (.int .u16 (winT s7 x8 x9)) ∧ w = w' := by
  have hx : min (max x8 0) 14 = ((scN x8 : Nat) : Int) := by unfold scN; omega
  have hy : min (max x9 0) 14 = ((scN x9 : Nat) : Int) := by unfold scN; omega
  have hx14 := scN_le x8
  have hy14 := scN_le x9
  have hw : ∀ u v, u = scN x8 → v = scN x9 → IntKind.u16.wrap (min (IntKind.u64.wrap (s7 * 2 ^ u) / 2 ^ v) 65535) = winT s7 x8 x9 := fun u v hu hv => win_eq s7 x8 x9 u v hu hv h0 h1
  generalize winT s7 x8 x9 = V at *
  have hw := hw _ _ rfl rfl
  generalize scN x8 = u at *
  generalize scN x9 = v at *
  have b1 : (u : Int) ≤ 14 := by omega
  have b2 : (v : Int) ≤ 14 := by omega
  have b3 : (0 : Int) ≤ (u : Int) := by omega
  have b4 : (0 : Int) ≤ (v : Int) := by omega
  have e1 : IntKind.u64.wrap (u : Int) = (u : Int) := by rw [IntKind.wrap_u64]; omega
  have e2 : IntKind.u64.wrap (v : Int) = (v : Int) := by rw [IntKind.wrap_u64]; omega
  have Hw := Lib.hid hw
  clear hw
  go_enter Try.func15, Try.ntmps15
  go_wp2
  go_ret
  exact ⟨rfl, rfl⟩
end Go.Proofs.Ytgppkfdhfphoeaa
