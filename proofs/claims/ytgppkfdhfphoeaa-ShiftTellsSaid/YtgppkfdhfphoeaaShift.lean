/- Contracts of layer 26 (shift): may, ahead, Of. -/
import Derived.Test.YtgppkfdhfphoeaaPktTurned
import Derived.Test.YtgppkfdhfphoeaaFlatK
set_option linter.unusedVariables false
set_option linter.unusedSimpArgs false
namespace Go.Proofs.Ytgppkfdhfphoeaa
open Go.RowKit Go.BigFrame

def scB (n : Int) : Bool := decide (0 ≤ n) && decide (n ≤ 14)
theorem scale_may (n : Int) (w : World) : Calls Try.prog 27 #[.int .i64 n] w fun e w' => e = .returned (.bool (scB n)) ∧ w = w' := by
  by_cases h : 0 ≤ n
  · have hs : scB n = decide (n ≤ 14) := by unfold scB; simp [h]
    have HS := Lib.hid hs
    clear hs
    go_enter Try.func27, Try.ntmps27
    go_wp2
    go_ret
    exact ⟨ret_bool HS.out.symm, rfl⟩
  · have hs : scB n = false := by unfold scB; simp [h]
    have HS := Lib.hid hs
    have h2 : n < 0 := by omega
    clear hs h
    go_enter Try.func27, Try.ntmps27
    go_wp2
    go_ret
    exact ⟨ret_bool HS.out.symm, rfl⟩
theorem ahead_any (a b : Int) (w : World) : Calls Try.prog 19 #[.int .u32 a, .int .u32 b] w fun e w' => e = .returned (.int .u32 ((a - b) % 4294967296)) ∧ w = w' := by
  go_enter Try.func19, Try.ntmps19
  go_wp2
  go_ret
  exact ⟨rfl, rfl⟩
set_option maxHeartbeats 1000000 in
theorem may_leg (a0 a1 a2 a3 a4 a5 a6 a7 a8 a9 : Int) (w : World) : Calls Try.prog 18 #[.agg #[.int .u32 a0, .int .u16 a1, .int .u32 a2, .int .u16 a3, .int .u32 a4, .int .u32 a5, .int .u32 a6, .int .u32 a7, .int .i64 a8, .int .i64 a9]] w fun e w' => e = .returned (.bool (scB a8 && scB a9)) ∧ Below w.heap.size w w' := by
  have m8 := fun W => scale_may a8 W
  have m9 := fun W => scale_may a9 W
  have hB : Below w.heap.size w (w.alloc (.cells #[.int .u32 a0, .int .u16 a1, .int .u32 a2, .int .u16 a3, .int .u32 a4, .int .u32 a5, .int .u32 a6, .int .u32 a7, .int .i64 a8, .int .i64 a9] 34)) := (Below.refl _ _).alloc (Nat.le_refl _) _
  generalize scB a8 = s8 at *
  generalize scB a9 = s9 at *
  have M8 := Lib.hid m8
  clear m8
  have M9 := Lib.hid m9
  clear m9
  have HB := Lib.hid hB
  clear hB
  cases s8
  · go_enter Try.func18, Try.ntmps18
    go_wp2_with fail
    (with_reducible refine (M8.out _).mono ?_)
    rintro e w1 ⟨rfl, rfl⟩
    go_wp2
    go_ret
    exact ⟨rfl, HB.out⟩
  · go_enter Try.func18, Try.ntmps18
    go_wp2_with fail
    (with_reducible refine (M8.out _).mono ?_)
    rintro e w1 ⟨rfl, rfl⟩
    go_wp2_with fail
    (with_reducible refine (M9.out _).mono ?_)
    rintro e w1 ⟨rfl, rfl⟩
    go_wp2
    go_ret
    exact ⟨by simp, HB.out⟩
def LegS (w : World) (gp gq gr : Nat) (ca cb cz : Array Value) (W : World) : Prop := Blk W gp 34 ca ∧ Blk W gq 34 cb ∧ Blk W gr 27 cz ∧ Below w.heap.size w W
theorem LegS.below {w : World} {gp gq gr : Nat} {ca cb cz : Array Value} (W W' : World) (h : LegS w gp gq gr ca cb cz W) (hb : Below W.heap.size W W') : LegS w gp gq gr ca cb cz W' := ⟨h.1.below hb h.1.lt, h.2.1.below hb h.2.1.lt, h.2.2.1.below hb h.2.2.1.lt, h.2.2.2.trans (hb.mono h.2.2.2.size)⟩
def ofV (a0 a1 a2 a3 a4 a5 a6 a7 a8 a9 b0 b1 b2 b3 b4 b5 b6 b7 b8 b9 : Int) : Value := if (scB a8 && scB a9) = true ∧ (scB b8 && scB b9) = true then .tuple #[.agg #[.int .u32 b2, .int .u16 b3, .int .u32 b0, .int .u16 b1, .int .u32 ((b4 - a5) % 4294967296), .int .u32 ((b5 - a4) % 4294967296), .int .u32 ((b6 - a7) % 4294967296), .int .u32 ((b7 - a6) % 4294967296), .int .i64 a9, .int .i64 b8], .int .i64 0] else .tuple #[.agg #[.int .u32 0, .int .u16 0, .int .u32 0, .int .u16 0, .int .u32 0, .int .u32 0, .int .u32 0, .int .u32 0, .int .i64 0, .int .i64 0], .int .i64 2]
set_option maxRecDepth 100000 in
set_option maxHeartbeats 4000000 in
theorem of_any (a0 a1 a2 a3 a4 a5 a6 a7 a8 a9 b0 b1 b2 b3 b4 b5 b6 b7 b8 b9 : Int) (w : World) : Calls Try.prog 9 #[.agg #[.int .u32 a0, .int .u16 a1, .int .u32 a2, .int .u16 a3, .int .u32 a4, .int .u32 a5, .int .u32 a6, .int .u32 a7, .int .i64 a8, .int .i64 a9], .agg #[.int .u32 b0, .int .u16 b1, .int .u32 b2, .int .u16 b3, .int .u32 b4, .int .u32 b5, .int .u32 b6, .int .u32 b7, .int .i64 b8, .int .i64 b9]] w fun e w' => e = .returned (ofV a0 a1 a2 a3 a4 a5 a6 a7 a8 a9 b0 b1 b2 b3 b4 b5 b6 b7 b8 b9) ∧ Below w.heap.size w w' := by
  have hb0 : Below w.heap.size w w := Below.refl _ _
  have HB := Lib.hid hb0
  have m1 := fun W => may_leg a0 a1 a2 a3 a4 a5 a6 a7 a8 a9 W
  have m2 := fun W => may_leg b0 b1 b2 b3 b4 b5 b6 b7 b8 b9 W
  have hV : ofV a0 a1 a2 a3 a4 a5 a6 a7 a8 a9 b0 b1 b2 b3 b4 b5 b6 b7 b8 b9 = if (scB a8 && scB a9) = true ∧ (scB b8 && scB b9) = true then .tuple #[.agg #[.int .u32 b2, .int .u16 b3, .int .u32 b0, .int .u16 b1, .int .u32 ((b4 - a5) % 4294967296), .int .u32 ((b5 - a4) % 4294967296), .int .u32 ((b6 - a7) % 4294967296), .int .u32 ((b7 - a6) % 4294967296), .int .i64 a9, .int .i64 b8], .int .i64 0] else .tuple #[.agg #[.int .u32 0, .int .u16 0, .int .u32 0, .int .u16 0, .int .u32 0, .int .u32 0, .int .u32 0, .int .u32 0, .int .i64 0, .int .i64 0], .int .i64 2] := rfl
  generalize (scB a8 && scB a9) = s1 at *
  generalize (scB b8 && scB b9) = s2 at *
  generalize ofV a0 a1 a2 a3 a4 a5 a6 a7 a8 a9 b0 b1 b2 b3 b4 b5 b6 b7 b8 b9 = V at *
  have M1 := Lib.hid m1
  clear m1
  have M2 := Lib.hid m2
  clear m2
  have HV := Lib.hid hV
  clear hV
  clear hb0
  cases s1
  · go_enter Try.func9, Try.ntmps9
    go_upto_region 1 with fail
    have hp := Blk.alloc (Blk.alloc (Blk.new w 34 #[.int .u32 a0, .int .u16 a1, .int .u32 a2, .int .u16 a3, .int .u32 a4, .int .u32 a5, .int .u32 a6, .int .u32 a7, .int .i64 a8, .int .i64 a9]) (.cells #[.int .u32 b0, .int .u16 b1, .int .u32 b2, .int .u16 b3, .int .u32 b4, .int .u32 b5, .int .u32 b6, .int .u32 b7, .int .i64 b8, .int .i64 b9] 34)) (.cells #[.int .u32 0, .int .u16 0, .int .u32 0, .int .u16 0, .int .u32 0, .int .u32 0, .int .u32 0, .int .u32 0, .int .i64 0, .int .i64 0] 27)
    have hq := Blk.alloc (Blk.new (w.alloc (.cells #[.int .u32 a0, .int .u16 a1, .int .u32 a2, .int .u16 a3, .int .u32 a4, .int .u32 a5, .int .u32 a6, .int .u32 a7, .int .i64 a8, .int .i64 a9] 34)) 34 #[.int .u32 b0, .int .u16 b1, .int .u32 b2, .int .u16 b3, .int .u32 b4, .int .u32 b5, .int .u32 b6, .int .u32 b7, .int .i64 b8, .int .i64 b9]) (.cells #[.int .u32 0, .int .u16 0, .int .u32 0, .int .u16 0, .int .u32 0, .int .u32 0, .int .u32 0, .int .u32 0, .int .i64 0, .int .i64 0] 27)
    rw [show (w.alloc (.cells #[.int .u32 a0, .int .u16 a1, .int .u32 a2, .int .u16 a3, .int .u32 a4, .int .u32 a5, .int .u32 a6, .int .u32 a7, .int .i64 a8, .int .i64 a9] 34)).heap.size = w.heap.size + 1 by simp] at hq
    have hr := Blk.new ((w.alloc (.cells #[.int .u32 a0, .int .u16 a1, .int .u32 a2, .int .u16 a3, .int .u32 a4, .int .u32 a5, .int .u32 a6, .int .u32 a7, .int .i64 a8, .int .i64 a9] 34)).alloc (.cells #[.int .u32 b0, .int .u16 b1, .int .u32 b2, .int .u16 b3, .int .u32 b4, .int .u32 b5, .int .u32 b6, .int .u32 b7, .int .i64 b8, .int .i64 b9] 34)) 27 #[.int .u32 0, .int .u16 0, .int .u32 0, .int .u16 0, .int .u32 0, .int .u32 0, .int .u32 0, .int .u32 0, .int .i64 0, .int .i64 0]
    rw [show ((w.alloc (.cells #[.int .u32 a0, .int .u16 a1, .int .u32 a2, .int .u16 a3, .int .u32 a4, .int .u32 a5, .int .u32 a6, .int .u32 a7, .int .i64 a8, .int .i64 a9] 34)).alloc (.cells #[.int .u32 b0, .int .u16 b1, .int .u32 b2, .int .u16 b3, .int .u32 b4, .int .u32 b5, .int .u32 b6, .int .u32 b7, .int .i64 b8, .int .i64 b9] 34)).heap.size = w.heap.size + 2 by simp] at hr
    have hB := Below.alloc (Below.alloc (Below.alloc (HB.out) (Nat.le_trans HB.out.size (by simp <;> omega)) (.cells #[.int .u32 a0, .int .u16 a1, .int .u32 a2, .int .u16 a3, .int .u32 a4, .int .u32 a5, .int .u32 a6, .int .u32 a7, .int .i64 a8, .int .i64 a9] 34)) (Nat.le_trans HB.out.size (by simp <;> omega)) (.cells #[.int .u32 b0, .int .u16 b1, .int .u32 b2, .int .u16 b3, .int .u32 b4, .int .u32 b5, .int .u32 b6, .int .u32 b7, .int .i64 b8, .int .i64 b9] 34)) (Nat.le_trans HB.out.size (by simp <;> omega)) (.cells #[.int .u32 0, .int .u16 0, .int .u32 0, .int .u16 0, .int .u32 0, .int .u32 0, .int .u32 0, .int .u32 0, .int .i64 0, .int .i64 0] 27)
    clear HB
    obtain ⟨gr, hger⟩ : ∃ g, g = w.heap.size + 2 := ⟨_, rfl⟩
    rw [← hger] at hr ⊢
    obtain ⟨gq, hgeq⟩ : ∃ g, g = w.heap.size + 1 := ⟨_, rfl⟩
    rw [← hgeq] at hq ⊢
    obtain ⟨gp, hgep⟩ : ∃ g, g = w.heap.size := ⟨_, rfl⟩
    rw [← hgep] at hp ⊢
    have hne_p_q : gp ≠ gq := by omega
    have hne_p_r : gp ≠ gr := by omega
    have hne_q_r : gq ≠ gr := by omega
    have hle_p : w.heap.size ≤ gp := by omega
    have hle_q : w.heap.size ≤ gq := by omega
    have hle_r : w.heap.size ≤ gr := by omega
    clear hgep hgeq hger
    generalize ((w.alloc _).alloc _).alloc _ = wn1 at *
    have Hp := Lib.hid hp
    clear hp
    have Hq := Lib.hid hq
    clear hq
    have Hr := Lib.hid hr
    clear hr
    have HB := Lib.hid hB
    clear hB
    have c0 := Hp.out.cell 0
    have c1 := Hp.out.cell 1
    have c2 := Hp.out.cell 2
    have c3 := Hp.out.cell 3
    have c4 := Hp.out.cell 4
    have c5 := Hp.out.cell 5
    have c6 := Hp.out.cell 6
    have c7 := Hp.out.cell 7
    have c8 := Hp.out.cell 8
    have c9 := Hp.out.cell 9
    simp at c0 c1 c2 c3 c4 c5 c6 c7 c8 c9
    go_wp2_with fail
    (with_reducible refine (M1.out _).mono ?_)
    rintro e wc2 ⟨rfl, hbq⟩
    have hp := Hp.out.below hbq Hp.out.lt
    clear Hp
    have Hp := Lib.hid hp
    clear hp
    have hq := Hq.out.below hbq Hq.out.lt
    clear Hq
    have Hq := Lib.hid hq
    clear hq
    have hr := Hr.out.below hbq Hr.out.lt
    clear Hr
    have Hr := Lib.hid hr
    clear hr
    have hB := HB.out.trans (hbq.mono HB.out.size)
    clear HB
    have HB := Lib.hid hB
    clear hB
    clear hbq
    clear c0 c1 c2 c3 c4 c5 c6 c7 c8 c9
    have d0 := Hr.out.cell 0
    have d1 := Hr.out.cell 1
    have d2 := Hr.out.cell 2
    have d3 := Hr.out.cell 3
    have d4 := Hr.out.cell 4
    have d5 := Hr.out.cell 5
    have d6 := Hr.out.cell 6
    have d7 := Hr.out.cell 7
    have d8 := Hr.out.cell 8
    have d9 := Hr.out.cell 9
    simp at d0 d1 d2 d3 d4 d5 d6 d7 d8 d9
    have fr := Hr.out.frozen
    go_wp2
    have hv : V = .tuple #[.agg #[.int .u32 0, .int .u16 0, .int .u32 0, .int .u16 0, .int .u32 0, .int .u32 0, .int .u32 0, .int .u32 0, .int .i64 0, .int .i64 0], .int .i64 2] := by rw [HV.out]; simp
    subst hv
    generalize hWf : World.setCell _ _ _ = Wf
    have hf : Blk Wf gr 27 #[.int .u32 0, .int .u16 0, .int .u32 0, .int .u16 0, .int .u32 0, .int .u32 0, .int .u32 0, .int .u32 0, .int .i64 0, .int .i64 0] := by
      rw [← hWf]
      have := (((((((((Hr.out.set_ 0 (.int .u32 0)).set_ 1 (.int .u16 0)).set_ 2 (.int .u32 0)).set_ 3 (.int .u16 0)).set_ 4 (.int .u32 0)).set_ 5 (.int .u32 0)).set_ 6 (.int .u32 0)).set_ 7 (.int .u32 0)).set_ 8 (.int .i64 0)).set_ 9 (.int .i64 0)
      simpa using this
    have hBf : Below w.heap.size w Wf := by
      rw [← hWf]
      repeat (refine Below.setCell ?_ hle_r _)
      exact HB.out
    clear hWf d0 d1 d2 d3 d4 d5 d6 d7 d8 d9 fr
    have z0 := hf.cell 0
    have z1 := hf.cell 1
    have z2 := hf.cell 2
    have z3 := hf.cell 3
    have z4 := hf.cell 4
    have z5 := hf.cell 5
    have z6 := hf.cell 6
    have z7 := hf.cell 7
    have z8 := hf.cell 8
    have z9 := hf.cell 9
    simp at z0 z1 z2 z3 z4 z5 z6 z7 z8 z9
    exact bodyPost_ret (v := .tuple #[.agg #[.int .u32 0, .int .u16 0, .int .u32 0, .int .u16 0, .int .u32 0, .int .u32 0, .int .u32 0, .int .u32 0, .int .i64 0, .int .i64 0], .int .i64 2]) (by simp [results, Try.results9, go_sem, z0, z1, z2, z3, z4, z5, z6, z7, z8, z9]) rfl ⟨rfl, hBf⟩
  cases s2
  · go_enter Try.func9, Try.ntmps9
    go_upto_region 1 with fail
    have hp := Blk.alloc (Blk.alloc (Blk.new w 34 #[.int .u32 a0, .int .u16 a1, .int .u32 a2, .int .u16 a3, .int .u32 a4, .int .u32 a5, .int .u32 a6, .int .u32 a7, .int .i64 a8, .int .i64 a9]) (.cells #[.int .u32 b0, .int .u16 b1, .int .u32 b2, .int .u16 b3, .int .u32 b4, .int .u32 b5, .int .u32 b6, .int .u32 b7, .int .i64 b8, .int .i64 b9] 34)) (.cells #[.int .u32 0, .int .u16 0, .int .u32 0, .int .u16 0, .int .u32 0, .int .u32 0, .int .u32 0, .int .u32 0, .int .i64 0, .int .i64 0] 27)
    have hq := Blk.alloc (Blk.new (w.alloc (.cells #[.int .u32 a0, .int .u16 a1, .int .u32 a2, .int .u16 a3, .int .u32 a4, .int .u32 a5, .int .u32 a6, .int .u32 a7, .int .i64 a8, .int .i64 a9] 34)) 34 #[.int .u32 b0, .int .u16 b1, .int .u32 b2, .int .u16 b3, .int .u32 b4, .int .u32 b5, .int .u32 b6, .int .u32 b7, .int .i64 b8, .int .i64 b9]) (.cells #[.int .u32 0, .int .u16 0, .int .u32 0, .int .u16 0, .int .u32 0, .int .u32 0, .int .u32 0, .int .u32 0, .int .i64 0, .int .i64 0] 27)
    rw [show (w.alloc (.cells #[.int .u32 a0, .int .u16 a1, .int .u32 a2, .int .u16 a3, .int .u32 a4, .int .u32 a5, .int .u32 a6, .int .u32 a7, .int .i64 a8, .int .i64 a9] 34)).heap.size = w.heap.size + 1 by simp] at hq
    have hr := Blk.new ((w.alloc (.cells #[.int .u32 a0, .int .u16 a1, .int .u32 a2, .int .u16 a3, .int .u32 a4, .int .u32 a5, .int .u32 a6, .int .u32 a7, .int .i64 a8, .int .i64 a9] 34)).alloc (.cells #[.int .u32 b0, .int .u16 b1, .int .u32 b2, .int .u16 b3, .int .u32 b4, .int .u32 b5, .int .u32 b6, .int .u32 b7, .int .i64 b8, .int .i64 b9] 34)) 27 #[.int .u32 0, .int .u16 0, .int .u32 0, .int .u16 0, .int .u32 0, .int .u32 0, .int .u32 0, .int .u32 0, .int .i64 0, .int .i64 0]
    rw [show ((w.alloc (.cells #[.int .u32 a0, .int .u16 a1, .int .u32 a2, .int .u16 a3, .int .u32 a4, .int .u32 a5, .int .u32 a6, .int .u32 a7, .int .i64 a8, .int .i64 a9] 34)).alloc (.cells #[.int .u32 b0, .int .u16 b1, .int .u32 b2, .int .u16 b3, .int .u32 b4, .int .u32 b5, .int .u32 b6, .int .u32 b7, .int .i64 b8, .int .i64 b9] 34)).heap.size = w.heap.size + 2 by simp] at hr
    have hB := Below.alloc (Below.alloc (Below.alloc (HB.out) (Nat.le_trans HB.out.size (by simp <;> omega)) (.cells #[.int .u32 a0, .int .u16 a1, .int .u32 a2, .int .u16 a3, .int .u32 a4, .int .u32 a5, .int .u32 a6, .int .u32 a7, .int .i64 a8, .int .i64 a9] 34)) (Nat.le_trans HB.out.size (by simp <;> omega)) (.cells #[.int .u32 b0, .int .u16 b1, .int .u32 b2, .int .u16 b3, .int .u32 b4, .int .u32 b5, .int .u32 b6, .int .u32 b7, .int .i64 b8, .int .i64 b9] 34)) (Nat.le_trans HB.out.size (by simp <;> omega)) (.cells #[.int .u32 0, .int .u16 0, .int .u32 0, .int .u16 0, .int .u32 0, .int .u32 0, .int .u32 0, .int .u32 0, .int .i64 0, .int .i64 0] 27)
    clear HB
    obtain ⟨gr, hger⟩ : ∃ g, g = w.heap.size + 2 := ⟨_, rfl⟩
    rw [← hger] at hr ⊢
    obtain ⟨gq, hgeq⟩ : ∃ g, g = w.heap.size + 1 := ⟨_, rfl⟩
    rw [← hgeq] at hq ⊢
    obtain ⟨gp, hgep⟩ : ∃ g, g = w.heap.size := ⟨_, rfl⟩
    rw [← hgep] at hp ⊢
    have hne_p_q : gp ≠ gq := by omega
    have hne_p_r : gp ≠ gr := by omega
    have hne_q_r : gq ≠ gr := by omega
    have hle_p : w.heap.size ≤ gp := by omega
    have hle_q : w.heap.size ≤ gq := by omega
    have hle_r : w.heap.size ≤ gr := by omega
    clear hgep hgeq hger
    generalize ((w.alloc _).alloc _).alloc _ = wn3 at *
    have Hp := Lib.hid hp
    clear hp
    have Hq := Lib.hid hq
    clear hq
    have Hr := Lib.hid hr
    clear hr
    have HB := Lib.hid hB
    clear hB
    have c0 := Hp.out.cell 0
    have c1 := Hp.out.cell 1
    have c2 := Hp.out.cell 2
    have c3 := Hp.out.cell 3
    have c4 := Hp.out.cell 4
    have c5 := Hp.out.cell 5
    have c6 := Hp.out.cell 6
    have c7 := Hp.out.cell 7
    have c8 := Hp.out.cell 8
    have c9 := Hp.out.cell 9
    simp at c0 c1 c2 c3 c4 c5 c6 c7 c8 c9
    go_wp2_with fail
    (with_reducible refine (M1.out _).mono ?_)
    rintro e wc4 ⟨rfl, hbq⟩
    have hp := Hp.out.below hbq Hp.out.lt
    clear Hp
    have Hp := Lib.hid hp
    clear hp
    have hq := Hq.out.below hbq Hq.out.lt
    clear Hq
    have Hq := Lib.hid hq
    clear hq
    have hr := Hr.out.below hbq Hr.out.lt
    clear Hr
    have Hr := Lib.hid hr
    clear hr
    have hB := HB.out.trans (hbq.mono HB.out.size)
    clear HB
    have HB := Lib.hid hB
    clear hB
    clear hbq
    clear c0 c1 c2 c3 c4 c5 c6 c7 c8 c9
    have c0 := Hq.out.cell 0
    have c1 := Hq.out.cell 1
    have c2 := Hq.out.cell 2
    have c3 := Hq.out.cell 3
    have c4 := Hq.out.cell 4
    have c5 := Hq.out.cell 5
    have c6 := Hq.out.cell 6
    have c7 := Hq.out.cell 7
    have c8 := Hq.out.cell 8
    have c9 := Hq.out.cell 9
    simp at c0 c1 c2 c3 c4 c5 c6 c7 c8 c9
    go_wp2_with fail
    (with_reducible refine (M2.out _).mono ?_)
    rintro e wc5 ⟨rfl, hbq⟩
    have hp := Hp.out.below hbq Hp.out.lt
    clear Hp
    have Hp := Lib.hid hp
    clear hp
    have hq := Hq.out.below hbq Hq.out.lt
    clear Hq
    have Hq := Lib.hid hq
    clear hq
    have hr := Hr.out.below hbq Hr.out.lt
    clear Hr
    have Hr := Lib.hid hr
    clear hr
    have hB := HB.out.trans (hbq.mono HB.out.size)
    clear HB
    have HB := Lib.hid hB
    clear hB
    clear hbq
    clear c0 c1 c2 c3 c4 c5 c6 c7 c8 c9
    have d0 := Hr.out.cell 0
    have d1 := Hr.out.cell 1
    have d2 := Hr.out.cell 2
    have d3 := Hr.out.cell 3
    have d4 := Hr.out.cell 4
    have d5 := Hr.out.cell 5
    have d6 := Hr.out.cell 6
    have d7 := Hr.out.cell 7
    have d8 := Hr.out.cell 8
    have d9 := Hr.out.cell 9
    simp at d0 d1 d2 d3 d4 d5 d6 d7 d8 d9
    have fr := Hr.out.frozen
    go_wp2
    have hv : V = .tuple #[.agg #[.int .u32 0, .int .u16 0, .int .u32 0, .int .u16 0, .int .u32 0, .int .u32 0, .int .u32 0, .int .u32 0, .int .i64 0, .int .i64 0], .int .i64 2] := by rw [HV.out]; simp
    subst hv
    generalize hWf : World.setCell _ _ _ = Wf
    have hf : Blk Wf gr 27 #[.int .u32 0, .int .u16 0, .int .u32 0, .int .u16 0, .int .u32 0, .int .u32 0, .int .u32 0, .int .u32 0, .int .i64 0, .int .i64 0] := by
      rw [← hWf]
      have := (((((((((Hr.out.set_ 0 (.int .u32 0)).set_ 1 (.int .u16 0)).set_ 2 (.int .u32 0)).set_ 3 (.int .u16 0)).set_ 4 (.int .u32 0)).set_ 5 (.int .u32 0)).set_ 6 (.int .u32 0)).set_ 7 (.int .u32 0)).set_ 8 (.int .i64 0)).set_ 9 (.int .i64 0)
      simpa using this
    have hBf : Below w.heap.size w Wf := by
      rw [← hWf]
      repeat (refine Below.setCell ?_ hle_r _)
      exact HB.out
    clear hWf d0 d1 d2 d3 d4 d5 d6 d7 d8 d9 fr
    have z0 := hf.cell 0
    have z1 := hf.cell 1
    have z2 := hf.cell 2
    have z3 := hf.cell 3
    have z4 := hf.cell 4
    have z5 := hf.cell 5
    have z6 := hf.cell 6
    have z7 := hf.cell 7
    have z8 := hf.cell 8
    have z9 := hf.cell 9
    simp at z0 z1 z2 z3 z4 z5 z6 z7 z8 z9
    exact bodyPost_ret (v := .tuple #[.agg #[.int .u32 0, .int .u16 0, .int .u32 0, .int .u16 0, .int .u32 0, .int .u32 0, .int .u32 0, .int .u32 0, .int .i64 0, .int .i64 0], .int .i64 2]) (by simp [results, Try.results9, go_sem, z0, z1, z2, z3, z4, z5, z6, z7, z8, z9]) rfl ⟨rfl, hBf⟩
  · have hv : V = .tuple #[.agg #[.int .u32 b2, .int .u16 b3, .int .u32 b0, .int .u16 b1, .int .u32 ((b4 - a5) % 4294967296), .int .u32 ((b5 - a4) % 4294967296), .int .u32 ((b6 - a7) % 4294967296), .int .u32 ((b7 - a6) % 4294967296), .int .i64 a9, .int .i64 b8], .int .i64 0] := by rw [HV.out]; simp
    subst hv
    go_enter Try.func9, Try.ntmps9
    go_upto_region 1 with fail
    have hp := Blk.alloc (Blk.alloc (Blk.new w 34 #[.int .u32 a0, .int .u16 a1, .int .u32 a2, .int .u16 a3, .int .u32 a4, .int .u32 a5, .int .u32 a6, .int .u32 a7, .int .i64 a8, .int .i64 a9]) (.cells #[.int .u32 b0, .int .u16 b1, .int .u32 b2, .int .u16 b3, .int .u32 b4, .int .u32 b5, .int .u32 b6, .int .u32 b7, .int .i64 b8, .int .i64 b9] 34)) (.cells #[.int .u32 0, .int .u16 0, .int .u32 0, .int .u16 0, .int .u32 0, .int .u32 0, .int .u32 0, .int .u32 0, .int .i64 0, .int .i64 0] 27)
    have hq := Blk.alloc (Blk.new (w.alloc (.cells #[.int .u32 a0, .int .u16 a1, .int .u32 a2, .int .u16 a3, .int .u32 a4, .int .u32 a5, .int .u32 a6, .int .u32 a7, .int .i64 a8, .int .i64 a9] 34)) 34 #[.int .u32 b0, .int .u16 b1, .int .u32 b2, .int .u16 b3, .int .u32 b4, .int .u32 b5, .int .u32 b6, .int .u32 b7, .int .i64 b8, .int .i64 b9]) (.cells #[.int .u32 0, .int .u16 0, .int .u32 0, .int .u16 0, .int .u32 0, .int .u32 0, .int .u32 0, .int .u32 0, .int .i64 0, .int .i64 0] 27)
    rw [show (w.alloc (.cells #[.int .u32 a0, .int .u16 a1, .int .u32 a2, .int .u16 a3, .int .u32 a4, .int .u32 a5, .int .u32 a6, .int .u32 a7, .int .i64 a8, .int .i64 a9] 34)).heap.size = w.heap.size + 1 by simp] at hq
    have hr := Blk.new ((w.alloc (.cells #[.int .u32 a0, .int .u16 a1, .int .u32 a2, .int .u16 a3, .int .u32 a4, .int .u32 a5, .int .u32 a6, .int .u32 a7, .int .i64 a8, .int .i64 a9] 34)).alloc (.cells #[.int .u32 b0, .int .u16 b1, .int .u32 b2, .int .u16 b3, .int .u32 b4, .int .u32 b5, .int .u32 b6, .int .u32 b7, .int .i64 b8, .int .i64 b9] 34)) 27 #[.int .u32 0, .int .u16 0, .int .u32 0, .int .u16 0, .int .u32 0, .int .u32 0, .int .u32 0, .int .u32 0, .int .i64 0, .int .i64 0]
    rw [show ((w.alloc (.cells #[.int .u32 a0, .int .u16 a1, .int .u32 a2, .int .u16 a3, .int .u32 a4, .int .u32 a5, .int .u32 a6, .int .u32 a7, .int .i64 a8, .int .i64 a9] 34)).alloc (.cells #[.int .u32 b0, .int .u16 b1, .int .u32 b2, .int .u16 b3, .int .u32 b4, .int .u32 b5, .int .u32 b6, .int .u32 b7, .int .i64 b8, .int .i64 b9] 34)).heap.size = w.heap.size + 2 by simp] at hr
    have hB := Below.alloc (Below.alloc (Below.alloc (HB.out) (Nat.le_trans HB.out.size (by simp <;> omega)) (.cells #[.int .u32 a0, .int .u16 a1, .int .u32 a2, .int .u16 a3, .int .u32 a4, .int .u32 a5, .int .u32 a6, .int .u32 a7, .int .i64 a8, .int .i64 a9] 34)) (Nat.le_trans HB.out.size (by simp <;> omega)) (.cells #[.int .u32 b0, .int .u16 b1, .int .u32 b2, .int .u16 b3, .int .u32 b4, .int .u32 b5, .int .u32 b6, .int .u32 b7, .int .i64 b8, .int .i64 b9] 34)) (Nat.le_trans HB.out.size (by simp <;> omega)) (.cells #[.int .u32 0, .int .u16 0, .int .u32 0, .int .u16 0, .int .u32 0, .int .u32 0, .int .u32 0, .int .u32 0, .int .i64 0, .int .i64 0] 27)
    clear HB
    obtain ⟨gr, hger⟩ : ∃ g, g = w.heap.size + 2 := ⟨_, rfl⟩
    rw [← hger] at hr ⊢
    obtain ⟨gq, hgeq⟩ : ∃ g, g = w.heap.size + 1 := ⟨_, rfl⟩
    rw [← hgeq] at hq ⊢
    obtain ⟨gp, hgep⟩ : ∃ g, g = w.heap.size := ⟨_, rfl⟩
    rw [← hgep] at hp ⊢
    have hne_p_q : gp ≠ gq := by omega
    have hne_p_r : gp ≠ gr := by omega
    have hne_q_r : gq ≠ gr := by omega
    have hle_p : w.heap.size ≤ gp := by omega
    have hle_q : w.heap.size ≤ gq := by omega
    have hle_r : w.heap.size ≤ gr := by omega
    clear hgep hgeq hger
    generalize ((w.alloc _).alloc _).alloc _ = wn6 at *
    have Hp := Lib.hid hp
    clear hp
    have Hq := Lib.hid hq
    clear hq
    have Hr := Lib.hid hr
    clear hr
    have HB := Lib.hid hB
    clear hB
    have c0 := Hp.out.cell 0
    have c1 := Hp.out.cell 1
    have c2 := Hp.out.cell 2
    have c3 := Hp.out.cell 3
    have c4 := Hp.out.cell 4
    have c5 := Hp.out.cell 5
    have c6 := Hp.out.cell 6
    have c7 := Hp.out.cell 7
    have c8 := Hp.out.cell 8
    have c9 := Hp.out.cell 9
    simp at c0 c1 c2 c3 c4 c5 c6 c7 c8 c9
    go_wp2_with fail
    (with_reducible refine (M1.out _).mono ?_)
    rintro e wc7 ⟨rfl, hbq⟩
    have hp := Hp.out.below hbq Hp.out.lt
    clear Hp
    have Hp := Lib.hid hp
    clear hp
    have hq := Hq.out.below hbq Hq.out.lt
    clear Hq
    have Hq := Lib.hid hq
    clear hq
    have hr := Hr.out.below hbq Hr.out.lt
    clear Hr
    have Hr := Lib.hid hr
    clear hr
    have hB := HB.out.trans (hbq.mono HB.out.size)
    clear HB
    have HB := Lib.hid hB
    clear hB
    clear hbq
    clear c0 c1 c2 c3 c4 c5 c6 c7 c8 c9
    have c0 := Hq.out.cell 0
    have c1 := Hq.out.cell 1
    have c2 := Hq.out.cell 2
    have c3 := Hq.out.cell 3
    have c4 := Hq.out.cell 4
    have c5 := Hq.out.cell 5
    have c6 := Hq.out.cell 6
    have c7 := Hq.out.cell 7
    have c8 := Hq.out.cell 8
    have c9 := Hq.out.cell 9
    simp at c0 c1 c2 c3 c4 c5 c6 c7 c8 c9
    go_wp2_with fail
    (with_reducible refine (M2.out _).mono ?_)
    rintro e w5 ⟨rfl, hbq⟩
    have hp := Hp.out.below hbq Hp.out.lt
    clear Hp
    have Hp := Lib.hid hp
    clear hp
    have hq := Hq.out.below hbq Hq.out.lt
    clear Hq
    have Hq := Lib.hid hq
    clear hq
    have hr := Hr.out.below hbq Hr.out.lt
    clear Hr
    have Hr := Lib.hid hr
    clear hr
    have hB := HB.out.trans (hbq.mono HB.out.size)
    clear HB
    have HB := Lib.hid hB
    clear hB
    clear hbq
    clear c0 c1 c2 c3 c4 c5 c6 c7 c8 c9
    go_upto_region 3 with fail
    have hS0 : LegS w gp gq gr #[.int .u32 a0, .int .u16 a1, .int .u32 a2, .int .u16 a3, .int .u32 a4, .int .u32 a5, .int .u32 a6, .int .u32 a7, .int .i64 a8, .int .i64 a9] #[.int .u32 b0, .int .u16 b1, .int .u32 b2, .int .u16 b3, .int .u32 b4, .int .u32 b5, .int .u32 b6, .int .u32 b7, .int .i64 b8, .int .i64 b9] #[.int .u32 0, .int .u16 0, .int .u32 0, .int .u16 0, .int .u32 0, .int .u32 0, .int .u32 0, .int .u32 0, .int .i64 0, .int .i64 0] w5 := ⟨Hp.out, Hq.out, Hr.out, HB.out⟩
    have ne : Nonempty (Cls (LegS w gp gq gr #[.int .u32 a0, .int .u16 a1, .int .u32 a2, .int .u16 a3, .int .u32 a4, .int .u32 a5, .int .u32 a6, .int .u32 a7, .int .i64 a8, .int .i64 a9] #[.int .u32 b0, .int .u16 b1, .int .u32 b2, .int .u16 b3, .int .u32 b4, .int .u32 b5, .int .u32 b6, .int .u32 b7, .int .i64 b8, .int .i64 b9] #[.int .u32 0, .int .u16 0, .int .u32 0, .int .u16 0, .int .u32 0, .int .u32 0, .int .u32 0, .int .u32 0, .int .i64 0, .int .i64 0])) := ⟨⟨w5, hS0⟩⟩
    have k0 : ∀ y : Cls (LegS w gp gq gr #[.int .u32 a0, .int .u16 a1, .int .u32 a2, .int .u16 a3, .int .u32 a4, .int .u32 a5, .int .u32 a6, .int .u32 a7, .int .i64 a8, .int .i64 a9] #[.int .u32 b0, .int .u16 b1, .int .u32 b2, .int .u16 b3, .int .u32 b4, .int .u32 b5, .int .u32 b6, .int .u32 b7, .int .i64 b8, .int .i64 b9] #[.int .u32 0, .int .u16 0, .int .u32 0, .int .u16 0, .int .u32 0, .int .u32 0, .int .u32 0, .int .u32 0, .int .i64 0, .int .i64 0]), y.w.cell? ⟨gp, 0, none⟩ = some (.int .u32 a0) := fun y => y.h.1.cell 0
    have k1 : ∀ y : Cls (LegS w gp gq gr #[.int .u32 a0, .int .u16 a1, .int .u32 a2, .int .u16 a3, .int .u32 a4, .int .u32 a5, .int .u32 a6, .int .u32 a7, .int .i64 a8, .int .i64 a9] #[.int .u32 b0, .int .u16 b1, .int .u32 b2, .int .u16 b3, .int .u32 b4, .int .u32 b5, .int .u32 b6, .int .u32 b7, .int .i64 b8, .int .i64 b9] #[.int .u32 0, .int .u16 0, .int .u32 0, .int .u16 0, .int .u32 0, .int .u32 0, .int .u32 0, .int .u32 0, .int .i64 0, .int .i64 0]), y.w.cell? ⟨gp, 1, none⟩ = some (.int .u16 a1) := fun y => y.h.1.cell 1
    have k2 : ∀ y : Cls (LegS w gp gq gr #[.int .u32 a0, .int .u16 a1, .int .u32 a2, .int .u16 a3, .int .u32 a4, .int .u32 a5, .int .u32 a6, .int .u32 a7, .int .i64 a8, .int .i64 a9] #[.int .u32 b0, .int .u16 b1, .int .u32 b2, .int .u16 b3, .int .u32 b4, .int .u32 b5, .int .u32 b6, .int .u32 b7, .int .i64 b8, .int .i64 b9] #[.int .u32 0, .int .u16 0, .int .u32 0, .int .u16 0, .int .u32 0, .int .u32 0, .int .u32 0, .int .u32 0, .int .i64 0, .int .i64 0]), y.w.cell? ⟨gp, 2, none⟩ = some (.int .u32 a2) := fun y => y.h.1.cell 2
    have k3 : ∀ y : Cls (LegS w gp gq gr #[.int .u32 a0, .int .u16 a1, .int .u32 a2, .int .u16 a3, .int .u32 a4, .int .u32 a5, .int .u32 a6, .int .u32 a7, .int .i64 a8, .int .i64 a9] #[.int .u32 b0, .int .u16 b1, .int .u32 b2, .int .u16 b3, .int .u32 b4, .int .u32 b5, .int .u32 b6, .int .u32 b7, .int .i64 b8, .int .i64 b9] #[.int .u32 0, .int .u16 0, .int .u32 0, .int .u16 0, .int .u32 0, .int .u32 0, .int .u32 0, .int .u32 0, .int .i64 0, .int .i64 0]), y.w.cell? ⟨gp, 3, none⟩ = some (.int .u16 a3) := fun y => y.h.1.cell 3
    have k4 : ∀ y : Cls (LegS w gp gq gr #[.int .u32 a0, .int .u16 a1, .int .u32 a2, .int .u16 a3, .int .u32 a4, .int .u32 a5, .int .u32 a6, .int .u32 a7, .int .i64 a8, .int .i64 a9] #[.int .u32 b0, .int .u16 b1, .int .u32 b2, .int .u16 b3, .int .u32 b4, .int .u32 b5, .int .u32 b6, .int .u32 b7, .int .i64 b8, .int .i64 b9] #[.int .u32 0, .int .u16 0, .int .u32 0, .int .u16 0, .int .u32 0, .int .u32 0, .int .u32 0, .int .u32 0, .int .i64 0, .int .i64 0]), y.w.cell? ⟨gp, 4, none⟩ = some (.int .u32 a4) := fun y => y.h.1.cell 4
    have k5 : ∀ y : Cls (LegS w gp gq gr #[.int .u32 a0, .int .u16 a1, .int .u32 a2, .int .u16 a3, .int .u32 a4, .int .u32 a5, .int .u32 a6, .int .u32 a7, .int .i64 a8, .int .i64 a9] #[.int .u32 b0, .int .u16 b1, .int .u32 b2, .int .u16 b3, .int .u32 b4, .int .u32 b5, .int .u32 b6, .int .u32 b7, .int .i64 b8, .int .i64 b9] #[.int .u32 0, .int .u16 0, .int .u32 0, .int .u16 0, .int .u32 0, .int .u32 0, .int .u32 0, .int .u32 0, .int .i64 0, .int .i64 0]), y.w.cell? ⟨gp, 5, none⟩ = some (.int .u32 a5) := fun y => y.h.1.cell 5
    have k6 : ∀ y : Cls (LegS w gp gq gr #[.int .u32 a0, .int .u16 a1, .int .u32 a2, .int .u16 a3, .int .u32 a4, .int .u32 a5, .int .u32 a6, .int .u32 a7, .int .i64 a8, .int .i64 a9] #[.int .u32 b0, .int .u16 b1, .int .u32 b2, .int .u16 b3, .int .u32 b4, .int .u32 b5, .int .u32 b6, .int .u32 b7, .int .i64 b8, .int .i64 b9] #[.int .u32 0, .int .u16 0, .int .u32 0, .int .u16 0, .int .u32 0, .int .u32 0, .int .u32 0, .int .u32 0, .int .i64 0, .int .i64 0]), y.w.cell? ⟨gp, 6, none⟩ = some (.int .u32 a6) := fun y => y.h.1.cell 6
    have k7 : ∀ y : Cls (LegS w gp gq gr #[.int .u32 a0, .int .u16 a1, .int .u32 a2, .int .u16 a3, .int .u32 a4, .int .u32 a5, .int .u32 a6, .int .u32 a7, .int .i64 a8, .int .i64 a9] #[.int .u32 b0, .int .u16 b1, .int .u32 b2, .int .u16 b3, .int .u32 b4, .int .u32 b5, .int .u32 b6, .int .u32 b7, .int .i64 b8, .int .i64 b9] #[.int .u32 0, .int .u16 0, .int .u32 0, .int .u16 0, .int .u32 0, .int .u32 0, .int .u32 0, .int .u32 0, .int .i64 0, .int .i64 0]), y.w.cell? ⟨gp, 7, none⟩ = some (.int .u32 a7) := fun y => y.h.1.cell 7
    have k8 : ∀ y : Cls (LegS w gp gq gr #[.int .u32 a0, .int .u16 a1, .int .u32 a2, .int .u16 a3, .int .u32 a4, .int .u32 a5, .int .u32 a6, .int .u32 a7, .int .i64 a8, .int .i64 a9] #[.int .u32 b0, .int .u16 b1, .int .u32 b2, .int .u16 b3, .int .u32 b4, .int .u32 b5, .int .u32 b6, .int .u32 b7, .int .i64 b8, .int .i64 b9] #[.int .u32 0, .int .u16 0, .int .u32 0, .int .u16 0, .int .u32 0, .int .u32 0, .int .u32 0, .int .u32 0, .int .i64 0, .int .i64 0]), y.w.cell? ⟨gp, 8, none⟩ = some (.int .i64 a8) := fun y => y.h.1.cell 8
    have k9 : ∀ y : Cls (LegS w gp gq gr #[.int .u32 a0, .int .u16 a1, .int .u32 a2, .int .u16 a3, .int .u32 a4, .int .u32 a5, .int .u32 a6, .int .u32 a7, .int .i64 a8, .int .i64 a9] #[.int .u32 b0, .int .u16 b1, .int .u32 b2, .int .u16 b3, .int .u32 b4, .int .u32 b5, .int .u32 b6, .int .u32 b7, .int .i64 b8, .int .i64 b9] #[.int .u32 0, .int .u16 0, .int .u32 0, .int .u16 0, .int .u32 0, .int .u32 0, .int .u32 0, .int .u32 0, .int .i64 0, .int .i64 0]), y.w.cell? ⟨gp, 9, none⟩ = some (.int .i64 a9) := fun y => y.h.1.cell 9
    have j0 : ∀ y : Cls (LegS w gp gq gr #[.int .u32 a0, .int .u16 a1, .int .u32 a2, .int .u16 a3, .int .u32 a4, .int .u32 a5, .int .u32 a6, .int .u32 a7, .int .i64 a8, .int .i64 a9] #[.int .u32 b0, .int .u16 b1, .int .u32 b2, .int .u16 b3, .int .u32 b4, .int .u32 b5, .int .u32 b6, .int .u32 b7, .int .i64 b8, .int .i64 b9] #[.int .u32 0, .int .u16 0, .int .u32 0, .int .u16 0, .int .u32 0, .int .u32 0, .int .u32 0, .int .u32 0, .int .i64 0, .int .i64 0]), y.w.cell? ⟨gq, 0, none⟩ = some (.int .u32 b0) := fun y => y.h.2.1.cell 0
    have j1 : ∀ y : Cls (LegS w gp gq gr #[.int .u32 a0, .int .u16 a1, .int .u32 a2, .int .u16 a3, .int .u32 a4, .int .u32 a5, .int .u32 a6, .int .u32 a7, .int .i64 a8, .int .i64 a9] #[.int .u32 b0, .int .u16 b1, .int .u32 b2, .int .u16 b3, .int .u32 b4, .int .u32 b5, .int .u32 b6, .int .u32 b7, .int .i64 b8, .int .i64 b9] #[.int .u32 0, .int .u16 0, .int .u32 0, .int .u16 0, .int .u32 0, .int .u32 0, .int .u32 0, .int .u32 0, .int .i64 0, .int .i64 0]), y.w.cell? ⟨gq, 1, none⟩ = some (.int .u16 b1) := fun y => y.h.2.1.cell 1
    have j2 : ∀ y : Cls (LegS w gp gq gr #[.int .u32 a0, .int .u16 a1, .int .u32 a2, .int .u16 a3, .int .u32 a4, .int .u32 a5, .int .u32 a6, .int .u32 a7, .int .i64 a8, .int .i64 a9] #[.int .u32 b0, .int .u16 b1, .int .u32 b2, .int .u16 b3, .int .u32 b4, .int .u32 b5, .int .u32 b6, .int .u32 b7, .int .i64 b8, .int .i64 b9] #[.int .u32 0, .int .u16 0, .int .u32 0, .int .u16 0, .int .u32 0, .int .u32 0, .int .u32 0, .int .u32 0, .int .i64 0, .int .i64 0]), y.w.cell? ⟨gq, 2, none⟩ = some (.int .u32 b2) := fun y => y.h.2.1.cell 2
    have j3 : ∀ y : Cls (LegS w gp gq gr #[.int .u32 a0, .int .u16 a1, .int .u32 a2, .int .u16 a3, .int .u32 a4, .int .u32 a5, .int .u32 a6, .int .u32 a7, .int .i64 a8, .int .i64 a9] #[.int .u32 b0, .int .u16 b1, .int .u32 b2, .int .u16 b3, .int .u32 b4, .int .u32 b5, .int .u32 b6, .int .u32 b7, .int .i64 b8, .int .i64 b9] #[.int .u32 0, .int .u16 0, .int .u32 0, .int .u16 0, .int .u32 0, .int .u32 0, .int .u32 0, .int .u32 0, .int .i64 0, .int .i64 0]), y.w.cell? ⟨gq, 3, none⟩ = some (.int .u16 b3) := fun y => y.h.2.1.cell 3
    have j4 : ∀ y : Cls (LegS w gp gq gr #[.int .u32 a0, .int .u16 a1, .int .u32 a2, .int .u16 a3, .int .u32 a4, .int .u32 a5, .int .u32 a6, .int .u32 a7, .int .i64 a8, .int .i64 a9] #[.int .u32 b0, .int .u16 b1, .int .u32 b2, .int .u16 b3, .int .u32 b4, .int .u32 b5, .int .u32 b6, .int .u32 b7, .int .i64 b8, .int .i64 b9] #[.int .u32 0, .int .u16 0, .int .u32 0, .int .u16 0, .int .u32 0, .int .u32 0, .int .u32 0, .int .u32 0, .int .i64 0, .int .i64 0]), y.w.cell? ⟨gq, 4, none⟩ = some (.int .u32 b4) := fun y => y.h.2.1.cell 4
    have j5 : ∀ y : Cls (LegS w gp gq gr #[.int .u32 a0, .int .u16 a1, .int .u32 a2, .int .u16 a3, .int .u32 a4, .int .u32 a5, .int .u32 a6, .int .u32 a7, .int .i64 a8, .int .i64 a9] #[.int .u32 b0, .int .u16 b1, .int .u32 b2, .int .u16 b3, .int .u32 b4, .int .u32 b5, .int .u32 b6, .int .u32 b7, .int .i64 b8, .int .i64 b9] #[.int .u32 0, .int .u16 0, .int .u32 0, .int .u16 0, .int .u32 0, .int .u32 0, .int .u32 0, .int .u32 0, .int .i64 0, .int .i64 0]), y.w.cell? ⟨gq, 5, none⟩ = some (.int .u32 b5) := fun y => y.h.2.1.cell 5
    have j6 : ∀ y : Cls (LegS w gp gq gr #[.int .u32 a0, .int .u16 a1, .int .u32 a2, .int .u16 a3, .int .u32 a4, .int .u32 a5, .int .u32 a6, .int .u32 a7, .int .i64 a8, .int .i64 a9] #[.int .u32 b0, .int .u16 b1, .int .u32 b2, .int .u16 b3, .int .u32 b4, .int .u32 b5, .int .u32 b6, .int .u32 b7, .int .i64 b8, .int .i64 b9] #[.int .u32 0, .int .u16 0, .int .u32 0, .int .u16 0, .int .u32 0, .int .u32 0, .int .u32 0, .int .u32 0, .int .i64 0, .int .i64 0]), y.w.cell? ⟨gq, 6, none⟩ = some (.int .u32 b6) := fun y => y.h.2.1.cell 6
    have j7 : ∀ y : Cls (LegS w gp gq gr #[.int .u32 a0, .int .u16 a1, .int .u32 a2, .int .u16 a3, .int .u32 a4, .int .u32 a5, .int .u32 a6, .int .u32 a7, .int .i64 a8, .int .i64 a9] #[.int .u32 b0, .int .u16 b1, .int .u32 b2, .int .u16 b3, .int .u32 b4, .int .u32 b5, .int .u32 b6, .int .u32 b7, .int .i64 b8, .int .i64 b9] #[.int .u32 0, .int .u16 0, .int .u32 0, .int .u16 0, .int .u32 0, .int .u32 0, .int .u32 0, .int .u32 0, .int .i64 0, .int .i64 0]), y.w.cell? ⟨gq, 7, none⟩ = some (.int .u32 b7) := fun y => y.h.2.1.cell 7
    have j8 : ∀ y : Cls (LegS w gp gq gr #[.int .u32 a0, .int .u16 a1, .int .u32 a2, .int .u16 a3, .int .u32 a4, .int .u32 a5, .int .u32 a6, .int .u32 a7, .int .i64 a8, .int .i64 a9] #[.int .u32 b0, .int .u16 b1, .int .u32 b2, .int .u16 b3, .int .u32 b4, .int .u32 b5, .int .u32 b6, .int .u32 b7, .int .i64 b8, .int .i64 b9] #[.int .u32 0, .int .u16 0, .int .u32 0, .int .u16 0, .int .u32 0, .int .u32 0, .int .u32 0, .int .u32 0, .int .i64 0, .int .i64 0]), y.w.cell? ⟨gq, 8, none⟩ = some (.int .i64 b8) := fun y => y.h.2.1.cell 8
    have j9 : ∀ y : Cls (LegS w gp gq gr #[.int .u32 a0, .int .u16 a1, .int .u32 a2, .int .u16 a3, .int .u32 a4, .int .u32 a5, .int .u32 a6, .int .u32 a7, .int .i64 a8, .int .i64 a9] #[.int .u32 b0, .int .u16 b1, .int .u32 b2, .int .u16 b3, .int .u32 b4, .int .u32 b5, .int .u32 b6, .int .u32 b7, .int .i64 b8, .int .i64 b9] #[.int .u32 0, .int .u16 0, .int .u32 0, .int .u16 0, .int .u32 0, .int .u32 0, .int .u32 0, .int .u32 0, .int .i64 0, .int .i64 0]), y.w.cell? ⟨gq, 9, none⟩ = some (.int .i64 b9) := fun y => y.h.2.1.cell 9
    have m3 := fun (y : Cls (LegS w gp gq gr #[.int .u32 a0, .int .u16 a1, .int .u32 a2, .int .u16 a3, .int .u32 a4, .int .u32 a5, .int .u32 a6, .int .u32 a7, .int .i64 a8, .int .i64 a9] #[.int .u32 b0, .int .u16 b1, .int .u32 b2, .int .u16 b3, .int .u32 b4, .int .u32 b5, .int .u32 b6, .int .u32 b7, .int .i64 b8, .int .i64 b9] #[.int .u32 0, .int .u16 0, .int .u32 0, .int .u16 0, .int .u32 0, .int .u32 0, .int .u32 0, .int .u32 0, .int .i64 0, .int .i64 0])) => ahead_any b4 a5 y.w
    have m4 := fun (y : Cls (LegS w gp gq gr #[.int .u32 a0, .int .u16 a1, .int .u32 a2, .int .u16 a3, .int .u32 a4, .int .u32 a5, .int .u32 a6, .int .u32 a7, .int .i64 a8, .int .i64 a9] #[.int .u32 b0, .int .u16 b1, .int .u32 b2, .int .u16 b3, .int .u32 b4, .int .u32 b5, .int .u32 b6, .int .u32 b7, .int .i64 b8, .int .i64 b9] #[.int .u32 0, .int .u16 0, .int .u32 0, .int .u16 0, .int .u32 0, .int .u32 0, .int .u32 0, .int .u32 0, .int .i64 0, .int .i64 0])) => ahead_any b5 a4 y.w
    have m5 := fun (y : Cls (LegS w gp gq gr #[.int .u32 a0, .int .u16 a1, .int .u32 a2, .int .u16 a3, .int .u32 a4, .int .u32 a5, .int .u32 a6, .int .u32 a7, .int .i64 a8, .int .i64 a9] #[.int .u32 b0, .int .u16 b1, .int .u32 b2, .int .u16 b3, .int .u32 b4, .int .u32 b5, .int .u32 b6, .int .u32 b7, .int .i64 b8, .int .i64 b9] #[.int .u32 0, .int .u16 0, .int .u32 0, .int .u16 0, .int .u32 0, .int .u32 0, .int .u32 0, .int .u32 0, .int .i64 0, .int .i64 0])) => ahead_any b6 a7 y.w
    have m6 := fun (y : Cls (LegS w gp gq gr #[.int .u32 a0, .int .u16 a1, .int .u32 a2, .int .u16 a3, .int .u32 a4, .int .u32 a5, .int .u32 a6, .int .u32 a7, .int .i64 a8, .int .i64 a9] #[.int .u32 b0, .int .u16 b1, .int .u32 b2, .int .u16 b3, .int .u32 b4, .int .u32 b5, .int .u32 b6, .int .u32 b7, .int .i64 b8, .int .i64 b9] #[.int .u32 0, .int .u16 0, .int .u32 0, .int .u16 0, .int .u32 0, .int .u32 0, .int .u32 0, .int .u32 0, .int .i64 0, .int .i64 0])) => ahead_any b7 a6 y.w
    have cf : ∀ (vals : Array Value) (w : World), (callFunc 19 vals).run Try.prog w = .ok (.enter 19 vals) w := fun _ _ => by kernel_rfl
    have M3 := Lib.hid m3
    clear m3
    have M4 := Lib.hid m4
    clear m4
    have M5 := Lib.hid m5
    clear m5
    have M6 := Lib.hid m6
    clear m6
    have Cf := Lib.hid cf
    clear cf
    clear Hp Hq Hr HB
    refine wp_region_flatk 29 (LegS w gp gq gr #[.int .u32 a0, .int .u16 a1, .int .u32 a2, .int .u16 a3, .int .u32 a4, .int .u32 a5, .int .u32 a6, .int .u32 a7, .int .i64 a8, .int .i64 a9] #[.int .u32 b0, .int .u16 b1, .int .u32 b2, .int .u16 b3, .int .u32 b4, .int .u32 b5, .int .u32 b6, .int .u32 b7, .int .i64 b8, .int .i64 b9] #[.int .u32 0, .int .u16 0, .int .u32 0, .int .u16 0, .int .u32 0, .int .u32 0, .int .u32 0, .int .u32 0, .int .i64 0, .int .i64 0]) (fun w w' => Below w.heap.size w w') (by kernel_rfl) (by kernel_rfl) (by kernel_rfl) (fun w => Below.refl _ _) (LegS.below _ _ hS0 (Below.drew (Below.refl _ _))) ?_
    simp only [List.take_succ_cons, List.take_zero, List.drop_succ_cons, List.drop_zero]
    repeat (first
      | (refine flat_quiet (fun w => Below.refl _ _) rfl rfl rfl rfl ?_; intro K hK; go_big_quiet_op; go_big_quiet_on)
      | (refine flat_call Cf.out _ ?_ rfl rfl rfl _ (fun y => (M3.out y).mono fun e w' ⟨a, b⟩ => ⟨a, b ▸ y.h, b ▸ Below.refl _ _⟩) w5 ?_; (focus (simp only [List.map_toArray, List.map_cons, List.map_nil]; rfl)); intro K hK; go_big_quiet_op; go_big_quiet_on)
      | (refine flat_call Cf.out _ ?_ rfl rfl rfl _ (fun y => (M4.out y).mono fun e w' ⟨a, b⟩ => ⟨a, b ▸ y.h, b ▸ Below.refl _ _⟩) w5 ?_; (focus (simp only [List.map_toArray, List.map_cons, List.map_nil]; rfl)); intro K hK; go_big_quiet_op; go_big_quiet_on)
      | (refine flat_call Cf.out _ ?_ rfl rfl rfl _ (fun y => (M5.out y).mono fun e w' ⟨a, b⟩ => ⟨a, b ▸ y.h, b ▸ Below.refl _ _⟩) w5 ?_; (focus (simp only [List.map_toArray, List.map_cons, List.map_nil]; rfl)); intro K hK; go_big_quiet_op; go_big_quiet_on)
      | (refine flat_call Cf.out _ ?_ rfl rfl rfl _ (fun y => (M6.out y).mono fun e w' ⟨a, b⟩ => ⟨a, b ▸ y.h, b ▸ Below.refl _ _⟩) w5 ?_; (focus (simp only [List.map_toArray, List.map_cons, List.map_nil]; rfl)); intro K hK; go_big_quiet_op; go_big_quiet_on))
    refine flat_nil ?_
    intro W9 hW9
    simp only [endF]
    obtain ⟨hp9, hq9, hr9, hB9⟩ := hW9
    clear ne hS0 k0 j0 k1 j1 k2 j2 k3 j3 k4 j4 k5 j5 k6 j6 k7 j7 k8 j8 k9 j9
    have d0 := hr9.cell 0
    have d1 := hr9.cell 1
    have d2 := hr9.cell 2
    have d3 := hr9.cell 3
    have d4 := hr9.cell 4
    have d5 := hr9.cell 5
    have d6 := hr9.cell 6
    have d7 := hr9.cell 7
    have d8 := hr9.cell 8
    have d9 := hr9.cell 9
    simp at d0 d1 d2 d3 d4 d5 d6 d7 d8 d9
    have fr := hr9.frozen
    have Hr9 := Lib.hid hr9
    clear hr9
    have HB9 := Lib.hid hB9
    clear hB9
    clear hp9 hq9
    go_wp2
    generalize hWf : World.setCell _ _ _ = Wf
    have hf : Blk Wf gr 27 #[.int .u32 b2, .int .u16 b3, .int .u32 b0, .int .u16 b1, .int .u32 ((b4 - a5) % 4294967296), .int .u32 ((b5 - a4) % 4294967296), .int .u32 ((b6 - a7) % 4294967296), .int .u32 ((b7 - a6) % 4294967296), .int .i64 a9, .int .i64 b8] := by
      rw [← hWf]
      have := (((((((((Hr9.out.set_ 0 (.int .u32 b2)).set_ 1 (.int .u16 b3)).set_ 2 (.int .u32 b0)).set_ 3 (.int .u16 b1)).set_ 4 (.int .u32 ((b4 - a5) % 4294967296))).set_ 5 (.int .u32 ((b5 - a4) % 4294967296))).set_ 6 (.int .u32 ((b6 - a7) % 4294967296))).set_ 7 (.int .u32 ((b7 - a6) % 4294967296))).set_ 8 (.int .i64 a9)).set_ 9 (.int .i64 b8)
      simpa using this
    have hBf : Below w.heap.size w Wf := by
      rw [← hWf]
      repeat (refine Below.setCell ?_ hle_r _)
      exact HB9.out
    clear hWf d0 d1 d2 d3 d4 d5 d6 d7 d8 d9 fr
    have z0 := hf.cell 0
    have z1 := hf.cell 1
    have z2 := hf.cell 2
    have z3 := hf.cell 3
    have z4 := hf.cell 4
    have z5 := hf.cell 5
    have z6 := hf.cell 6
    have z7 := hf.cell 7
    have z8 := hf.cell 8
    have z9 := hf.cell 9
    simp at z0 z1 z2 z3 z4 z5 z6 z7 z8 z9
    exact bodyPost_ret (v := .tuple #[.agg #[.int .u32 b2, .int .u16 b3, .int .u32 b0, .int .u16 b1, .int .u32 ((b4 - a5) % 4294967296), .int .u32 ((b5 - a4) % 4294967296), .int .u32 ((b6 - a7) % 4294967296), .int .u32 ((b7 - a6) % 4294967296), .int .i64 a9, .int .i64 b8], .int .i64 0]) (by simp [results, Try.results9, go_sem, z0, z1, z2, z3, z4, z5, z6, z7, z8, z9]) rfl ⟨rfl, hBf⟩
end Go.Proofs.Ytgppkfdhfphoeaa
