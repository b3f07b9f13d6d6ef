/- Contracts of layer 26 (shift): Seg at the document's example. -/
import Derived.Test.YtgppkfdhfphoeaaShift2
set_option linter.unusedVariables false
set_option linter.unusedSimpArgs false
namespace Go.Proofs.Ytgppkfdhfphoeaa
open Go.RowKit Go.BigFrame

def Seg16Post (w : World) (x0 x1 x2 x3 q a o : Int) (e : Ending) (w' : World) : Prop := e = .returned (.tuple #[.agg #[.int .u32 x0, .int .u16 x1, .int .u32 x2, .int .u16 x3, .int .u32 q, .int .u32 a, .int .u8 16, .int .u16 o, .int .u16 0, .int .i64 (-1), .bool false, .slice none 0 0, .bool false, .int .u32 0, .int .u32 0, .string ⟨#[]⟩], .int .i64 0]) ∧ Below w.heap.size w w'
theorem turned_16 (x0 x1 x2 x3 x4 x5 x6 x7 x8 x9 : Int) (w : World) : Calls Try.prog 16 #[.agg #[.int .u32 0, .int .u16 0, .int .u32 0, .int .u16 0, .int .u32 101, .int .u32 201, .int .u8 16, .int .u16 5, .int .u16 0, .int .i64 (-1), .bool false, .slice none 0 0, .bool false, .int .u32 0, .int .u32 0, .string ⟨#[]⟩], .agg #[.int .u32 x0, .int .u16 x1, .int .u32 x2, .int .u16 x3, .int .u32 x4, .int .u32 x5, .int .u32 x6, .int .u32 x7, .int .i64 x8, .int .i64 x9]] w fun e w' => ∃ (q a o : Int), q = (101 + x4) % 4294967296 ∧ a = (201 + x5) % 4294967296 ∧ o = winT 5 x8 x9 ∧ e = .returned (.agg #[.int .u32 x0, .int .u16 x1, .int .u32 x2, .int .u16 x3, .int .u32 q, .int .u32 a, .int .u8 16, .int .u16 o, .int .u16 0, .int .i64 (-1), .bool false, .slice none 0 0, .bool false, .int .u32 0, .int .u32 0, .string ⟨#[]⟩]) ∧ Below w.heap.size w w' := by
  refine (turned_any 0 0 0 0 101 201 16 5 0 (-1) false false none 0 0 0 0 ⟨#[]⟩ x0 x1 x2 x3 x4 x5 x6 x7 x8 x9 [] w rfl (.inl rfl) (by decide) (by decide) (by decide)).mono ?_
  rintro e w' ⟨A, c, hz, rfl, ho, hb⟩
  obtain ⟨rfl, rfl⟩ := hz rfl
  exact ⟨_, _, _, rfl, rfl, rfl, rfl, hb⟩
set_option maxRecDepth 100000 in
set_option maxHeartbeats 4000000 in
theorem sseg_16 (x0 x1 x2 x3 x4 x5 x6 x7 x8 x9 : Int) (w : World) : Calls Try.prog 10 #[.agg #[.int .u32 x0, .int .u16 x1, .int .u32 x2, .int .u16 x3, .int .u32 x4, .int .u32 x5, .int .u32 x6, .int .u32 x7, .int .i64 x8, .int .i64 x9], .agg #[.int .u32 0, .int .u16 0, .int .u32 0, .int .u16 0, .int .u32 101, .int .u32 201, .int .u8 16, .int .u16 5, .int .u16 0, .int .i64 (-1), .bool false, .slice none 0 0, .bool false, .int .u32 0, .int .u32 0, .string ⟨#[]⟩]] w (Seg16Post w x0 x1 x2 x3 ((101 + x4) % 4294967296) ((201 + x5) % 4294967296) (winT 5 x8 x9)) := by
  have hb0 : Below w.heap.size w w := Below.refl _ _
  have HB := Lib.hid hb0
  clear hb0
  have m1 := fun W => turned_16 x0 x1 x2 x3 x4 x5 x6 x7 x8 x9 W
  obtain ⟨Q, hQ⟩ : ∃ Q, Q = Seg16Post w x0 x1 x2 x3 ((101 + x4) % 4294967296) ((201 + x5) % 4294967296) (winT 5 x8 x9) := ⟨_, rfl⟩
  rw [← hQ]
  have M1 := Lib.hid m1
  clear m1
  have HQ := Lib.hid hQ
  clear hQ
  go_enter Try.func10, Try.ntmps10
  go_upto_region 1 with fail
  have hx := Blk.alloc (Blk.alloc (Blk.new w 27 #[.int .u32 x0, .int .u16 x1, .int .u32 x2, .int .u16 x3, .int .u32 x4, .int .u32 x5, .int .u32 x6, .int .u32 x7, .int .i64 x8, .int .i64 x9]) (.cells #[.int .u32 0, .int .u16 0, .int .u32 0, .int .u16 0, .int .u32 101, .int .u32 201, .int .u8 16, .int .u16 5, .int .u16 0, .int .i64 (-1), .bool false, .slice none 0 0, .bool false, .int .u32 0, .int .u32 0, .string ⟨#[]⟩] 39)) (.cells #[.int .u32 0, .int .u16 0, .int .u32 0, .int .u16 0, .int .u32 0, .int .u32 0, .int .u8 0, .int .u16 0, .int .u16 0, .int .i64 0, .bool false, .slice none 0 0, .bool false, .int .u32 0, .int .u32 0, .string ⟨#[]⟩] 39)
  have hs := Blk.alloc (Blk.new (w.alloc (.cells #[.int .u32 x0, .int .u16 x1, .int .u32 x2, .int .u16 x3, .int .u32 x4, .int .u32 x5, .int .u32 x6, .int .u32 x7, .int .i64 x8, .int .i64 x9] 27)) 39 #[.int .u32 0, .int .u16 0, .int .u32 0, .int .u16 0, .int .u32 101, .int .u32 201, .int .u8 16, .int .u16 5, .int .u16 0, .int .i64 (-1), .bool false, .slice none 0 0, .bool false, .int .u32 0, .int .u32 0, .string ⟨#[]⟩]) (.cells #[.int .u32 0, .int .u16 0, .int .u32 0, .int .u16 0, .int .u32 0, .int .u32 0, .int .u8 0, .int .u16 0, .int .u16 0, .int .i64 0, .bool false, .slice none 0 0, .bool false, .int .u32 0, .int .u32 0, .string ⟨#[]⟩] 39)
  rw [show (w.alloc (.cells #[.int .u32 x0, .int .u16 x1, .int .u32 x2, .int .u16 x3, .int .u32 x4, .int .u32 x5, .int .u32 x6, .int .u32 x7, .int .i64 x8, .int .i64 x9] 27)).heap.size = w.heap.size + 1 by simp] at hs
  have hr := Blk.new ((w.alloc (.cells #[.int .u32 x0, .int .u16 x1, .int .u32 x2, .int .u16 x3, .int .u32 x4, .int .u32 x5, .int .u32 x6, .int .u32 x7, .int .i64 x8, .int .i64 x9] 27)).alloc (.cells #[.int .u32 0, .int .u16 0, .int .u32 0, .int .u16 0, .int .u32 101, .int .u32 201, .int .u8 16, .int .u16 5, .int .u16 0, .int .i64 (-1), .bool false, .slice none 0 0, .bool false, .int .u32 0, .int .u32 0, .string ⟨#[]⟩] 39)) 39 #[.int .u32 0, .int .u16 0, .int .u32 0, .int .u16 0, .int .u32 0, .int .u32 0, .int .u8 0, .int .u16 0, .int .u16 0, .int .i64 0, .bool false, .slice none 0 0, .bool false, .int .u32 0, .int .u32 0, .string ⟨#[]⟩]
  rw [show ((w.alloc (.cells #[.int .u32 x0, .int .u16 x1, .int .u32 x2, .int .u16 x3, .int .u32 x4, .int .u32 x5, .int .u32 x6, .int .u32 x7, .int .i64 x8, .int .i64 x9] 27)).alloc (.cells #[.int .u32 0, .int .u16 0, .int .u32 0, .int .u16 0, .int .u32 101, .int .u32 201, .int .u8 16, .int .u16 5, .int .u16 0, .int .i64 (-1), .bool false, .slice none 0 0, .bool false, .int .u32 0, .int .u32 0, .string ⟨#[]⟩] 39)).heap.size = w.heap.size + 2 by simp] at hr
  have hB := Below.alloc (Below.alloc (Below.alloc (HB.out) (Nat.le_trans HB.out.size (by simp <;> omega)) (.cells #[.int .u32 x0, .int .u16 x1, .int .u32 x2, .int .u16 x3, .int .u32 x4, .int .u32 x5, .int .u32 x6, .int .u32 x7, .int .i64 x8, .int .i64 x9] 27)) (Nat.le_trans HB.out.size (by simp <;> omega)) (.cells #[.int .u32 0, .int .u16 0, .int .u32 0, .int .u16 0, .int .u32 101, .int .u32 201, .int .u8 16, .int .u16 5, .int .u16 0, .int .i64 (-1), .bool false, .slice none 0 0, .bool false, .int .u32 0, .int .u32 0, .string ⟨#[]⟩] 39)) (Nat.le_trans HB.out.size (by simp <;> omega)) (.cells #[.int .u32 0, .int .u16 0, .int .u32 0, .int .u16 0, .int .u32 0, .int .u32 0, .int .u8 0, .int .u16 0, .int .u16 0, .int .i64 0, .bool false, .slice none 0 0, .bool false, .int .u32 0, .int .u32 0, .string ⟨#[]⟩] 39)
  clear HB
  obtain ⟨gr, hger⟩ : ∃ g, g = w.heap.size + 2 := ⟨_, rfl⟩
  rw [← hger] at hr ⊢
  obtain ⟨gs, hges⟩ : ∃ g, g = w.heap.size + 1 := ⟨_, rfl⟩
  rw [← hges] at hs ⊢
  obtain ⟨gx, hgex⟩ : ∃ g, g = w.heap.size := ⟨_, rfl⟩
  rw [← hgex] at hx ⊢
  have hne_x_s : gx ≠ gs := by omega
  have hne_x_r : gx ≠ gr := by omega
  have hne_s_r : gs ≠ gr := by omega
  have hle_x : w.heap.size ≤ gx := by omega
  have hle_s : w.heap.size ≤ gs := by omega
  have hle_r : w.heap.size ≤ gr := by omega
  clear hgex hges hger
  generalize ((w.alloc _).alloc _).alloc _ = wn1 at *
  have Hx := Lib.hid hx
  clear hx
  have Hs := Lib.hid hs
  clear hs
  have Hr := Lib.hid hr
  clear hr
  have HB := Lib.hid hB
  clear hB
  have c0 := Hs.out.cell 0
  have c1 := Hs.out.cell 1
  have c2 := Hs.out.cell 2
  have c3 := Hs.out.cell 3
  have c4 := Hs.out.cell 4
  have c5 := Hs.out.cell 5
  have c6 := Hs.out.cell 6
  have c7 := Hs.out.cell 7
  have c8 := Hs.out.cell 8
  have c9 := Hs.out.cell 9
  have c10 := Hs.out.cell 10
  have c11 := Hs.out.cell 11
  have c12 := Hs.out.cell 12
  have c13 := Hs.out.cell 13
  have c14 := Hs.out.cell 14
  have c15 := Hs.out.cell 15
  simp at c0 c1 c2 c3 c4 c5 c6 c7 c8 c9 c10 c11 c12 c13 c14 c15
  go_wp2_with fail
  (with_reducible refine (pmay_16 _).mono ?_)
  rintro e wc2 ⟨rfl, hbq⟩
  have hx := Hx.out.below hbq Hx.out.lt
  clear Hx
  have Hx := Lib.hid hx
  clear hx
  have hs := Hs.out.below hbq Hs.out.lt
  clear Hs
  have Hs := Lib.hid hs
  clear hs
  have hr := Hr.out.below hbq Hr.out.lt
  clear Hr
  have Hr := Lib.hid hr
  clear hr
  have hB := HB.out.trans (hbq.mono HB.out.size)
  clear HB
  have HB := Lib.hid hB
  clear hB
  clear hbq
  clear c0 c1 c2 c3 c4 c5 c6 c7 c8 c9 c10 c11 c12 c13 c14 c15
  have c0 := Hs.out.cell 0
  have c1 := Hs.out.cell 1
  have c2 := Hs.out.cell 2
  have c3 := Hs.out.cell 3
  have c4 := Hs.out.cell 4
  have c5 := Hs.out.cell 5
  have c6 := Hs.out.cell 6
  have c7 := Hs.out.cell 7
  have c8 := Hs.out.cell 8
  have c9 := Hs.out.cell 9
  have c10 := Hs.out.cell 10
  have c11 := Hs.out.cell 11
  have c12 := Hs.out.cell 12
  have c13 := Hs.out.cell 13
  have c14 := Hs.out.cell 14
  have c15 := Hs.out.cell 15
  simp at c0 c1 c2 c3 c4 c5 c6 c7 c8 c9 c10 c11 c12 c13 c14 c15
  have b0 := Hx.out.cell 0
  have b1 := Hx.out.cell 1
  have b2 := Hx.out.cell 2
  have b3 := Hx.out.cell 3
  have b4 := Hx.out.cell 4
  have b5 := Hx.out.cell 5
  have b6 := Hx.out.cell 6
  have b7 := Hx.out.cell 7
  have b8 := Hx.out.cell 8
  have b9 := Hx.out.cell 9
  simp at b0 b1 b2 b3 b4 b5 b6 b7 b8 b9
  go_wp2_with fail
  (with_reducible refine (M1.out _).mono ?_)
  rintro e w2 ⟨q, a, o, hq, ha, ho, rfl, hbq⟩
  have Hq := Lib.hid hq
  clear hq
  have Ha := Lib.hid ha
  clear ha
  have Ho := Lib.hid ho
  clear ho
  have hx := Hx.out.below hbq Hx.out.lt
  clear Hx
  have Hx := Lib.hid hx
  clear hx
  have hs := Hs.out.below hbq Hs.out.lt
  clear Hs
  have Hs := Lib.hid hs
  clear hs
  have hr := Hr.out.below hbq Hr.out.lt
  clear Hr
  have Hr := Lib.hid hr
  clear hr
  have hB := HB.out.trans (hbq.mono HB.out.size)
  clear HB
  have HB := Lib.hid hB
  clear hB
  clear hbq
  clear c0 c1 c2 c3 c4 c5 c6 c7 c8 c9 c10 c11 c12 c13 c14 c15
  clear b0 b1 b2 b3 b4 b5 b6 b7 b8 b9
  have d0 := Hr.out.cell 0
  have d1 := Hr.out.cell 1
  have d2 := Hr.out.cell 2
  have d3 := Hr.out.cell 3
  have d4 := Hr.out.cell 4
  have d5 := Hr.out.cell 5
  have d6 := Hr.out.cell 6
  have d7 := Hr.out.cell 7
  have d8 := Hr.out.cell 8
  have d9 := Hr.out.cell 9
  have d10 := Hr.out.cell 10
  have d11 := Hr.out.cell 11
  have d12 := Hr.out.cell 12
  have d13 := Hr.out.cell 13
  have d14 := Hr.out.cell 14
  have d15 := Hr.out.cell 15
  simp at d0 d1 d2 d3 d4 d5 d6 d7 d8 d9 d10 d11 d12 d13 d14 d15
  have fr := Hr.out.frozen
  go_wp2
  generalize hWf : World.setCell _ _ _ = Wf
  have hf : Blk Wf gr 39 #[.int .u32 x0, .int .u16 x1, .int .u32 x2, .int .u16 x3, .int .u32 q, .int .u32 a, .int .u8 16, .int .u16 o, .int .u16 0, .int .i64 (-1), .bool false, .slice none 0 0, .bool false, .int .u32 0, .int .u32 0, .string ⟨#[]⟩] := by
    rw [← hWf]
    have := (((((((((((((((Hr.out.set_ 0 (.int .u32 x0)).set_ 1 (.int .u16 x1)).set_ 2 (.int .u32 x2)).set_ 3 (.int .u16 x3)).set_ 4 (.int .u32 q)).set_ 5 (.int .u32 a)).set_ 6 (.int .u8 16)).set_ 7 (.int .u16 o)).set_ 8 (.int .u16 0)).set_ 9 (.int .i64 (-1))).set_ 10 (.bool false)).set_ 11 (.slice none 0 0)).set_ 12 (.bool false)).set_ 13 (.int .u32 0)).set_ 14 (.int .u32 0)).set_ 15 (.string ⟨#[]⟩)
    simpa using this
  have hBf : Below w.heap.size w Wf := by
    rw [← hWf]
    repeat (refine Below.setCell ?_ hle_r _)
    exact HB.out
  clear hWf d0 d1 d2 d3 d4 d5 d6 d7 d8 d9 d10 d11 d12 d13 d14 d15 fr
  have z0 := hf.cell 0
  have z1 := hf.cell 1
  have z2 := hf.cell 2
  have z3 := hf.cell 3
  have z4 := hf.cell 4
  have z5 := hf.cell 5
  have z6 := hf.cell 6
  have z7 := hf.cell 7
  have z8 := hf.cell 8
  have z9 := hf.cell 9
  have z10 := hf.cell 10
  have z11 := hf.cell 11
  have z12 := hf.cell 12
  have z13 := hf.cell 13
  have z14 := hf.cell 14
  have z15 := hf.cell 15
  simp at z0 z1 z2 z3 z4 z5 z6 z7 z8 z9 z10 z11 z12 z13 z14 z15
  refine bodyPost_ret (v := .tuple #[.agg #[.int .u32 x0, .int .u16 x1, .int .u32 x2, .int .u16 x3, .int .u32 q, .int .u32 a, .int .u8 16, .int .u16 o, .int .u16 0, .int .i64 (-1), .bool false, .slice none 0 0, .bool false, .int .u32 0, .int .u32 0, .string ⟨#[]⟩], .int .i64 0]) (by simp [results, Try.results10, go_sem, z0, z1, z2, z3, z4, z5, z6, z7, z8, z9, z10, z11, z12, z13, z14, z15]) rfl ?_
  rw [HQ.out, ← Hq.out, ← Ha.out, ← Ho.out]
  exact ⟨rfl, hBf⟩
end Go.Proofs.Ytgppkfdhfphoeaa
