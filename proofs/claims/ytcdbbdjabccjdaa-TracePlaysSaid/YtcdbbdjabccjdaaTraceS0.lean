/- Layer 31 (trace): the document's answer: may an act happen? at end 0. -/
import Derived.Test.YtcdbbdjabccjdaaTraceRf
set_option linter.unusedVariables false
set_option linter.unusedSimpArgs false
namespace Go.Proofs.Ytcdbbdjabccjdaa
open Go.RowKit Go.BigFrame



theorem may1_no_0 (w : World) (b : Nat) (t : Tr) (s : ByteArray) (h : RfAt w b t) (h0 : t.s0.opn = true) :
    Calls Try.prog 34 #[.pointer (some ⟨b, 0, none⟩), .agg #[.int .i64 0, .int .u8 1, .string s]] w fun r w' => r = .returned (.bool false) ∧ Below w.heap.size w w' := by
  have H0 := Lib.hid h0
  clear h0
  have hb0 : Below w.heap.size w w := Below.refl _ _
  have HB := Lib.hid hb0
  clear hb0
  have Ht := Lib.hid h
  clear h
  go_enter Try.func34, Try.ntmps34
  go_upto_region 1 with fail
  have hx := Blk.new w 36 #[.int .i64 0, .int .u8 1, .string s]
  have ht := Blk.alloc Ht.out (.cells #[.int .i64 0, .int .u8 1, .string s] 36)
  clear Ht
  have hB := HB.out.alloc HB.out.size (.cells #[.int .i64 0, .int .u8 1, .string s] 36)
  clear HB
  obtain ⟨gx, hge⟩ : ∃ g, g = w.heap.size := ⟨_, rfl⟩
  rw [← hge] at hx ⊢
  clear hge
  generalize w.alloc _ = w1 at *
  have Ht := Lib.hid ht
  clear ht
  have Hx := Lib.hid hx
  clear hx
  have HB := Lib.hid hB
  clear hB
  have x0 := Hx.out.cell 0
  have x1 := Hx.out.cell 1
  have x2 := Hx.out.cell 2
  simp at x0 x1 x2
  have c0 := Ht.out.cell 0
  have c1 := Ht.out.cell 1
  have c2 := Ht.out.cell 2
  have c3 := Ht.out.cell 3
  have c4 := Ht.out.cell 4
  have c5 := Ht.out.cell 5
  have c6 := Ht.out.cell 6
  have c7 := Ht.out.cell 7
  have c8 := Ht.out.cell 8
  have c9 := Ht.out.cell 9
  have c10 := Ht.out.cell 10
  have c11 := Ht.out.cell 11
  have c12 := Ht.out.cell 12
  simp at c0 c1 c2 c3 c4 c5 c6 c7 c8 c9 c10 c11 c12
  go_upto_region 4 with fail
  clear x0 x1 x2 c0 c1 c2 c3 c4 c5 c6 c7 c8 c9 c10 c11 c12
  have hy := Blk.new w1 29 #[.bool t.s0.opn, .string t.s0.wr, .int .i64 (t.s0.rd : Int), .bool t.s0.cl, .bool t.s0.eof, .bool t.s0.dd]
  have ht := Blk.alloc Ht.out (.cells #[.bool t.s0.opn, .string t.s0.wr, .int .i64 (t.s0.rd : Int), .bool t.s0.cl, .bool t.s0.eof, .bool t.s0.dd] 29)
  clear Ht
  have hx := Blk.alloc Hx.out (.cells #[.bool t.s0.opn, .string t.s0.wr, .int .i64 (t.s0.rd : Int), .bool t.s0.cl, .bool t.s0.eof, .bool t.s0.dd] 29)
  clear Hx
  have hB := HB.out.alloc HB.out.size (.cells #[.bool t.s0.opn, .string t.s0.wr, .int .i64 (t.s0.rd : Int), .bool t.s0.cl, .bool t.s0.eof, .bool t.s0.dd] 29)
  clear HB
  obtain ⟨gy, hge⟩ : ∃ g, g = w1.heap.size := ⟨_, rfl⟩
  rw [← hge] at hy ⊢
  clear hge
  generalize w1.alloc _ = w2 at *
  have Ht := Lib.hid ht
  clear ht
  have Hx := Lib.hid hx
  clear hx
  have Hy := Lib.hid hy
  clear hy
  have HB := Lib.hid hB
  clear hB
  have x0 := Hx.out.cell 0
  have x1 := Hx.out.cell 1
  have x2 := Hx.out.cell 2
  simp at x0 x1 x2
  have y0 := Hy.out.cell 0
  have y1 := Hy.out.cell 1
  have y2 := Hy.out.cell 2
  have y3 := Hy.out.cell 3
  have y4 := Hy.out.cell 4
  have y5 := Hy.out.cell 5
  simp at y0 y1 y2 y3 y4 y5
  have c0 := Ht.out.cell 0
  have c1 := Ht.out.cell 1
  have c2 := Ht.out.cell 2
  have c3 := Ht.out.cell 3
  have c4 := Ht.out.cell 4
  have c5 := Ht.out.cell 5
  have c6 := Ht.out.cell 6
  have c7 := Ht.out.cell 7
  have c8 := Ht.out.cell 8
  have c9 := Ht.out.cell 9
  have c10 := Ht.out.cell 10
  have c11 := Ht.out.cell 11
  have c12 := Ht.out.cell 12
  simp at c0 c1 c2 c3 c4 c5 c6 c7 c8 c9 c10 c11 c12
  rw [H0.out] at y0
  go_wp2
  go_ret
  exact ⟨rfl, HB.out⟩

theorem may1_yes_0 (w : World) (b : Nat) (t : Tr) (s : ByteArray) (h : RfAt w b t) (h0 : t.s0.opn = false) :
    Calls Try.prog 34 #[.pointer (some ⟨b, 0, none⟩), .agg #[.int .i64 0, .int .u8 1, .string s]] w fun r w' => r = .returned (.bool true) ∧ Below w.heap.size w w' := by
  have H0 := Lib.hid h0
  clear h0
  have hb0 : Below w.heap.size w w := Below.refl _ _
  have HB := Lib.hid hb0
  clear hb0
  have Ht := Lib.hid h
  clear h
  go_enter Try.func34, Try.ntmps34
  go_upto_region 1 with fail
  have hx := Blk.new w 36 #[.int .i64 0, .int .u8 1, .string s]
  have ht := Blk.alloc Ht.out (.cells #[.int .i64 0, .int .u8 1, .string s] 36)
  clear Ht
  have hB := HB.out.alloc HB.out.size (.cells #[.int .i64 0, .int .u8 1, .string s] 36)
  clear HB
  obtain ⟨gx, hge⟩ : ∃ g, g = w.heap.size := ⟨_, rfl⟩
  rw [← hge] at hx ⊢
  clear hge
  generalize w.alloc _ = w1 at *
  have Ht := Lib.hid ht
  clear ht
  have Hx := Lib.hid hx
  clear hx
  have HB := Lib.hid hB
  clear hB
  have x0 := Hx.out.cell 0
  have x1 := Hx.out.cell 1
  have x2 := Hx.out.cell 2
  simp at x0 x1 x2
  have c0 := Ht.out.cell 0
  have c1 := Ht.out.cell 1
  have c2 := Ht.out.cell 2
  have c3 := Ht.out.cell 3
  have c4 := Ht.out.cell 4
  have c5 := Ht.out.cell 5
  have c6 := Ht.out.cell 6
  have c7 := Ht.out.cell 7
  have c8 := Ht.out.cell 8
  have c9 := Ht.out.cell 9
  have c10 := Ht.out.cell 10
  have c11 := Ht.out.cell 11
  have c12 := Ht.out.cell 12
  simp at c0 c1 c2 c3 c4 c5 c6 c7 c8 c9 c10 c11 c12
  go_upto_region 4 with fail
  clear x0 x1 x2 c0 c1 c2 c3 c4 c5 c6 c7 c8 c9 c10 c11 c12
  have hy := Blk.new w1 29 #[.bool t.s0.opn, .string t.s0.wr, .int .i64 (t.s0.rd : Int), .bool t.s0.cl, .bool t.s0.eof, .bool t.s0.dd]
  have ht := Blk.alloc Ht.out (.cells #[.bool t.s0.opn, .string t.s0.wr, .int .i64 (t.s0.rd : Int), .bool t.s0.cl, .bool t.s0.eof, .bool t.s0.dd] 29)
  clear Ht
  have hx := Blk.alloc Hx.out (.cells #[.bool t.s0.opn, .string t.s0.wr, .int .i64 (t.s0.rd : Int), .bool t.s0.cl, .bool t.s0.eof, .bool t.s0.dd] 29)
  clear Hx
  have hB := HB.out.alloc HB.out.size (.cells #[.bool t.s0.opn, .string t.s0.wr, .int .i64 (t.s0.rd : Int), .bool t.s0.cl, .bool t.s0.eof, .bool t.s0.dd] 29)
  clear HB
  obtain ⟨gy, hge⟩ : ∃ g, g = w1.heap.size := ⟨_, rfl⟩
  rw [← hge] at hy ⊢
  clear hge
  generalize w1.alloc _ = w2 at *
  have Ht := Lib.hid ht
  clear ht
  have Hx := Lib.hid hx
  clear hx
  have Hy := Lib.hid hy
  clear hy
  have HB := Lib.hid hB
  clear hB
  have x0 := Hx.out.cell 0
  have x1 := Hx.out.cell 1
  have x2 := Hx.out.cell 2
  simp at x0 x1 x2
  have y0 := Hy.out.cell 0
  have y1 := Hy.out.cell 1
  have y2 := Hy.out.cell 2
  have y3 := Hy.out.cell 3
  have y4 := Hy.out.cell 4
  have y5 := Hy.out.cell 5
  simp at y0 y1 y2 y3 y4 y5
  have c0 := Ht.out.cell 0
  have c1 := Ht.out.cell 1
  have c2 := Ht.out.cell 2
  have c3 := Ht.out.cell 3
  have c4 := Ht.out.cell 4
  have c5 := Ht.out.cell 5
  have c6 := Ht.out.cell 6
  have c7 := Ht.out.cell 7
  have c8 := Ht.out.cell 8
  have c9 := Ht.out.cell 9
  have c10 := Ht.out.cell 10
  have c11 := Ht.out.cell 11
  have c12 := Ht.out.cell 12
  simp at c0 c1 c2 c3 c4 c5 c6 c7 c8 c9 c10 c11 c12
  rw [H0.out] at y0
  go_wp2
  go_ret
  exact ⟨rfl, HB.out⟩

theorem may2_no_0 (w : World) (b : Nat) (t : Tr) (s : ByteArray) (h : RfAt w b t) :
    Calls Try.prog 34 #[.pointer (some ⟨b, 0, none⟩), .agg #[.int .i64 0, .int .u8 2, .string s]] w fun r w' => r = .returned (.bool false) ∧ Below w.heap.size w w' := by
  have hb0 : Below w.heap.size w w := Below.refl _ _
  have HB := Lib.hid hb0
  clear hb0
  have Ht := Lib.hid h
  clear h
  go_enter Try.func34, Try.ntmps34
  go_upto_region 1 with fail
  have hx := Blk.new w 36 #[.int .i64 0, .int .u8 2, .string s]
  have ht := Blk.alloc Ht.out (.cells #[.int .i64 0, .int .u8 2, .string s] 36)
  clear Ht
  have hB := HB.out.alloc HB.out.size (.cells #[.int .i64 0, .int .u8 2, .string s] 36)
  clear HB
  obtain ⟨gx, hge⟩ : ∃ g, g = w.heap.size := ⟨_, rfl⟩
  rw [← hge] at hx ⊢
  clear hge
  generalize w.alloc _ = w1 at *
  have Ht := Lib.hid ht
  clear ht
  have Hx := Lib.hid hx
  clear hx
  have HB := Lib.hid hB
  clear hB
  have x0 := Hx.out.cell 0
  have x1 := Hx.out.cell 1
  have x2 := Hx.out.cell 2
  simp at x0 x1 x2
  have c0 := Ht.out.cell 0
  have c1 := Ht.out.cell 1
  have c2 := Ht.out.cell 2
  have c3 := Ht.out.cell 3
  have c4 := Ht.out.cell 4
  have c5 := Ht.out.cell 5
  have c6 := Ht.out.cell 6
  have c7 := Ht.out.cell 7
  have c8 := Ht.out.cell 8
  have c9 := Ht.out.cell 9
  have c10 := Ht.out.cell 10
  have c11 := Ht.out.cell 11
  have c12 := Ht.out.cell 12
  simp at c0 c1 c2 c3 c4 c5 c6 c7 c8 c9 c10 c11 c12
  go_upto_region 4 with fail
  clear x0 x1 x2 c0 c1 c2 c3 c4 c5 c6 c7 c8 c9 c10 c11 c12
  have hy := Blk.new w1 29 #[.bool t.s0.opn, .string t.s0.wr, .int .i64 (t.s0.rd : Int), .bool t.s0.cl, .bool t.s0.eof, .bool t.s0.dd]
  have ht := Blk.alloc Ht.out (.cells #[.bool t.s0.opn, .string t.s0.wr, .int .i64 (t.s0.rd : Int), .bool t.s0.cl, .bool t.s0.eof, .bool t.s0.dd] 29)
  clear Ht
  have hx := Blk.alloc Hx.out (.cells #[.bool t.s0.opn, .string t.s0.wr, .int .i64 (t.s0.rd : Int), .bool t.s0.cl, .bool t.s0.eof, .bool t.s0.dd] 29)
  clear Hx
  have hB := HB.out.alloc HB.out.size (.cells #[.bool t.s0.opn, .string t.s0.wr, .int .i64 (t.s0.rd : Int), .bool t.s0.cl, .bool t.s0.eof, .bool t.s0.dd] 29)
  clear HB
  obtain ⟨gy, hge⟩ : ∃ g, g = w1.heap.size := ⟨_, rfl⟩
  rw [← hge] at hy ⊢
  clear hge
  generalize w1.alloc _ = w2 at *
  have Ht := Lib.hid ht
  clear ht
  have Hx := Lib.hid hx
  clear hx
  have Hy := Lib.hid hy
  clear hy
  have HB := Lib.hid hB
  clear hB
  have x0 := Hx.out.cell 0
  have x1 := Hx.out.cell 1
  have x2 := Hx.out.cell 2
  simp at x0 x1 x2
  have y0 := Hy.out.cell 0
  have y1 := Hy.out.cell 1
  have y2 := Hy.out.cell 2
  have y3 := Hy.out.cell 3
  have y4 := Hy.out.cell 4
  have y5 := Hy.out.cell 5
  simp at y0 y1 y2 y3 y4 y5
  have c0 := Ht.out.cell 0
  have c1 := Ht.out.cell 1
  have c2 := Ht.out.cell 2
  have c3 := Ht.out.cell 3
  have c4 := Ht.out.cell 4
  have c5 := Ht.out.cell 5
  have c6 := Ht.out.cell 6
  have c7 := Ht.out.cell 7
  have c8 := Ht.out.cell 8
  have c9 := Ht.out.cell 9
  have c10 := Ht.out.cell 10
  have c11 := Ht.out.cell 11
  have c12 := Ht.out.cell 12
  simp at c0 c1 c2 c3 c4 c5 c6 c7 c8 c9 c10 c11 c12
  go_wp2
  go_ret
  exact ⟨rfl, HB.out⟩

theorem may3_dead_0 (w : World) (b : Nat) (t : Tr) (s : ByteArray) (h : RfAt w b t) (hv : t.s0.live = false) :
    Calls Try.prog 34 #[.pointer (some ⟨b, 0, none⟩), .agg #[.int .i64 0, .int .u8 3, .string s]] w fun r w' => r = .returned (.bool false) ∧ Below w.heap.size w w' := by
  have Hv := Lib.hid hv
  clear hv
  have hb0 : Below w.heap.size w w := Below.refl _ _
  have HB := Lib.hid hb0
  clear hb0
  have Ht := Lib.hid h
  clear h
  go_enter Try.func34, Try.ntmps34
  go_upto_region 1 with fail
  have hx := Blk.new w 36 #[.int .i64 0, .int .u8 3, .string s]
  have ht := Blk.alloc Ht.out (.cells #[.int .i64 0, .int .u8 3, .string s] 36)
  clear Ht
  have hB := HB.out.alloc HB.out.size (.cells #[.int .i64 0, .int .u8 3, .string s] 36)
  clear HB
  obtain ⟨gx, hge⟩ : ∃ g, g = w.heap.size := ⟨_, rfl⟩
  rw [← hge] at hx ⊢
  clear hge
  generalize w.alloc _ = w1 at *
  have Ht := Lib.hid ht
  clear ht
  have Hx := Lib.hid hx
  clear hx
  have HB := Lib.hid hB
  clear hB
  have x0 := Hx.out.cell 0
  have x1 := Hx.out.cell 1
  have x2 := Hx.out.cell 2
  simp at x0 x1 x2
  have c0 := Ht.out.cell 0
  have c1 := Ht.out.cell 1
  have c2 := Ht.out.cell 2
  have c3 := Ht.out.cell 3
  have c4 := Ht.out.cell 4
  have c5 := Ht.out.cell 5
  have c6 := Ht.out.cell 6
  have c7 := Ht.out.cell 7
  have c8 := Ht.out.cell 8
  have c9 := Ht.out.cell 9
  have c10 := Ht.out.cell 10
  have c11 := Ht.out.cell 11
  have c12 := Ht.out.cell 12
  simp at c0 c1 c2 c3 c4 c5 c6 c7 c8 c9 c10 c11 c12
  go_upto_region 4 with fail
  clear x0 x1 x2 c0 c1 c2 c3 c4 c5 c6 c7 c8 c9 c10 c11 c12
  have hy := Blk.new w1 29 #[.bool t.s0.opn, .string t.s0.wr, .int .i64 (t.s0.rd : Int), .bool t.s0.cl, .bool t.s0.eof, .bool t.s0.dd]
  have ht := Blk.alloc Ht.out (.cells #[.bool t.s0.opn, .string t.s0.wr, .int .i64 (t.s0.rd : Int), .bool t.s0.cl, .bool t.s0.eof, .bool t.s0.dd] 29)
  clear Ht
  have hx := Blk.alloc Hx.out (.cells #[.bool t.s0.opn, .string t.s0.wr, .int .i64 (t.s0.rd : Int), .bool t.s0.cl, .bool t.s0.eof, .bool t.s0.dd] 29)
  clear Hx
  have hB := HB.out.alloc HB.out.size (.cells #[.bool t.s0.opn, .string t.s0.wr, .int .i64 (t.s0.rd : Int), .bool t.s0.cl, .bool t.s0.eof, .bool t.s0.dd] 29)
  clear HB
  obtain ⟨gy, hge⟩ : ∃ g, g = w1.heap.size := ⟨_, rfl⟩
  rw [← hge] at hy ⊢
  clear hge
  generalize w1.alloc _ = w2 at *
  have Ht := Lib.hid ht
  clear ht
  have Hx := Lib.hid hx
  clear hx
  have Hy := Lib.hid hy
  clear hy
  have HB := Lib.hid hB
  clear hB
  have x0 := Hx.out.cell 0
  have x1 := Hx.out.cell 1
  have x2 := Hx.out.cell 2
  simp at x0 x1 x2
  have y0 := Hy.out.cell 0
  have y1 := Hy.out.cell 1
  have y2 := Hy.out.cell 2
  have y3 := Hy.out.cell 3
  have y4 := Hy.out.cell 4
  have y5 := Hy.out.cell 5
  simp at y0 y1 y2 y3 y4 y5
  have c0 := Ht.out.cell 0
  have c1 := Ht.out.cell 1
  have c2 := Ht.out.cell 2
  have c3 := Ht.out.cell 3
  have c4 := Ht.out.cell 4
  have c5 := Ht.out.cell 5
  have c6 := Ht.out.cell 6
  have c7 := Ht.out.cell 7
  have c8 := Ht.out.cell 8
  have c9 := Ht.out.cell 9
  have c10 := Ht.out.cell 10
  have c11 := Ht.out.cell 11
  have c12 := Ht.out.cell 12
  simp at c0 c1 c2 c3 c4 c5 c6 c7 c8 c9 c10 c11 c12
  have hl := fun W (a0 : W.cell? ⟨b, 0, none⟩ = some (.bool t.s0.opn)) (a5 : W.cell? ⟨b, 5, none⟩ = some (.bool t.s0.dd)) => rlive_0 W b _ _ a0 a5
  rw [show (t.s0.opn && !t.s0.dd) = false from Hv.out] at hl
  have HL := Lib.hid (hl w2 c0 c5)
  have HLq := Lib.hid (fun n => hl (w2.drewN n) c0 c5)
  clear hl
  go_wp2_with fail
  (with_reducible refine (HL.out).mono ?_)
  rintro e w' ⟨rfl, rfl⟩
  go_wp2
  go_ret
  exact ⟨rfl, HB.out⟩

theorem may3_cl_0 (w : World) (b : Nat) (t : Tr) (s : ByteArray) (h : RfAt w b t) (hv : t.s0.live = true) (h0 : t.s0.cl = true) :
    Calls Try.prog 34 #[.pointer (some ⟨b, 0, none⟩), .agg #[.int .i64 0, .int .u8 3, .string s]] w fun r w' => r = .returned (.bool false) ∧ Below w.heap.size w w' := by
  have Hv := Lib.hid hv
  clear hv
  have H0 := Lib.hid h0
  clear h0
  have hb0 : Below w.heap.size w w := Below.refl _ _
  have HB := Lib.hid hb0
  clear hb0
  have Ht := Lib.hid h
  clear h
  go_enter Try.func34, Try.ntmps34
  go_upto_region 1 with fail
  have hx := Blk.new w 36 #[.int .i64 0, .int .u8 3, .string s]
  have ht := Blk.alloc Ht.out (.cells #[.int .i64 0, .int .u8 3, .string s] 36)
  clear Ht
  have hB := HB.out.alloc HB.out.size (.cells #[.int .i64 0, .int .u8 3, .string s] 36)
  clear HB
  obtain ⟨gx, hge⟩ : ∃ g, g = w.heap.size := ⟨_, rfl⟩
  rw [← hge] at hx ⊢
  clear hge
  generalize w.alloc _ = w1 at *
  have Ht := Lib.hid ht
  clear ht
  have Hx := Lib.hid hx
  clear hx
  have HB := Lib.hid hB
  clear hB
  have x0 := Hx.out.cell 0
  have x1 := Hx.out.cell 1
  have x2 := Hx.out.cell 2
  simp at x0 x1 x2
  have c0 := Ht.out.cell 0
  have c1 := Ht.out.cell 1
  have c2 := Ht.out.cell 2
  have c3 := Ht.out.cell 3
  have c4 := Ht.out.cell 4
  have c5 := Ht.out.cell 5
  have c6 := Ht.out.cell 6
  have c7 := Ht.out.cell 7
  have c8 := Ht.out.cell 8
  have c9 := Ht.out.cell 9
  have c10 := Ht.out.cell 10
  have c11 := Ht.out.cell 11
  have c12 := Ht.out.cell 12
  simp at c0 c1 c2 c3 c4 c5 c6 c7 c8 c9 c10 c11 c12
  go_upto_region 4 with fail
  clear x0 x1 x2 c0 c1 c2 c3 c4 c5 c6 c7 c8 c9 c10 c11 c12
  have hy := Blk.new w1 29 #[.bool t.s0.opn, .string t.s0.wr, .int .i64 (t.s0.rd : Int), .bool t.s0.cl, .bool t.s0.eof, .bool t.s0.dd]
  have ht := Blk.alloc Ht.out (.cells #[.bool t.s0.opn, .string t.s0.wr, .int .i64 (t.s0.rd : Int), .bool t.s0.cl, .bool t.s0.eof, .bool t.s0.dd] 29)
  clear Ht
  have hx := Blk.alloc Hx.out (.cells #[.bool t.s0.opn, .string t.s0.wr, .int .i64 (t.s0.rd : Int), .bool t.s0.cl, .bool t.s0.eof, .bool t.s0.dd] 29)
  clear Hx
  have hB := HB.out.alloc HB.out.size (.cells #[.bool t.s0.opn, .string t.s0.wr, .int .i64 (t.s0.rd : Int), .bool t.s0.cl, .bool t.s0.eof, .bool t.s0.dd] 29)
  clear HB
  obtain ⟨gy, hge⟩ : ∃ g, g = w1.heap.size := ⟨_, rfl⟩
  rw [← hge] at hy ⊢
  clear hge
  generalize w1.alloc _ = w2 at *
  have Ht := Lib.hid ht
  clear ht
  have Hx := Lib.hid hx
  clear hx
  have Hy := Lib.hid hy
  clear hy
  have HB := Lib.hid hB
  clear hB
  have x0 := Hx.out.cell 0
  have x1 := Hx.out.cell 1
  have x2 := Hx.out.cell 2
  simp at x0 x1 x2
  have y0 := Hy.out.cell 0
  have y1 := Hy.out.cell 1
  have y2 := Hy.out.cell 2
  have y3 := Hy.out.cell 3
  have y4 := Hy.out.cell 4
  have y5 := Hy.out.cell 5
  simp at y0 y1 y2 y3 y4 y5
  have c0 := Ht.out.cell 0
  have c1 := Ht.out.cell 1
  have c2 := Ht.out.cell 2
  have c3 := Ht.out.cell 3
  have c4 := Ht.out.cell 4
  have c5 := Ht.out.cell 5
  have c6 := Ht.out.cell 6
  have c7 := Ht.out.cell 7
  have c8 := Ht.out.cell 8
  have c9 := Ht.out.cell 9
  have c10 := Ht.out.cell 10
  have c11 := Ht.out.cell 11
  have c12 := Ht.out.cell 12
  simp at c0 c1 c2 c3 c4 c5 c6 c7 c8 c9 c10 c11 c12
  have hl := fun W (a0 : W.cell? ⟨b, 0, none⟩ = some (.bool t.s0.opn)) (a5 : W.cell? ⟨b, 5, none⟩ = some (.bool t.s0.dd)) => rlive_0 W b _ _ a0 a5
  rw [show (t.s0.opn && !t.s0.dd) = true from Hv.out] at hl
  have HL := Lib.hid (hl w2 c0 c5)
  have HLq := Lib.hid (fun n => hl (w2.drewN n) c0 c5)
  clear hl
  rw [H0.out] at y3
  go_wp2_with fail
  (with_reducible refine (HL.out).mono ?_)
  rintro e w' ⟨rfl, rfl⟩
  go_wp2
  go_ret
  exact ⟨rfl, HB.out⟩

theorem may3_yes_0 (w : World) (b : Nat) (t : Tr) (s : ByteArray) (h : RfAt w b t) (hv : t.s0.live = true) (h0 : t.s0.cl = false) :
    Calls Try.prog 34 #[.pointer (some ⟨b, 0, none⟩), .agg #[.int .i64 0, .int .u8 3, .string s]] w fun r w' => r = .returned (.bool true) ∧ Below w.heap.size w w' := by
  have Hv := Lib.hid hv
  clear hv
  have H0 := Lib.hid h0
  clear h0
  have hb0 : Below w.heap.size w w := Below.refl _ _
  have HB := Lib.hid hb0
  clear hb0
  have Ht := Lib.hid h
  clear h
  go_enter Try.func34, Try.ntmps34
  go_upto_region 1 with fail
  have hx := Blk.new w 36 #[.int .i64 0, .int .u8 3, .string s]
  have ht := Blk.alloc Ht.out (.cells #[.int .i64 0, .int .u8 3, .string s] 36)
  clear Ht
  have hB := HB.out.alloc HB.out.size (.cells #[.int .i64 0, .int .u8 3, .string s] 36)
  clear HB
  obtain ⟨gx, hge⟩ : ∃ g, g = w.heap.size := ⟨_, rfl⟩
  rw [← hge] at hx ⊢
  clear hge
  generalize w.alloc _ = w1 at *
  have Ht := Lib.hid ht
  clear ht
  have Hx := Lib.hid hx
  clear hx
  have HB := Lib.hid hB
  clear hB
  have x0 := Hx.out.cell 0
  have x1 := Hx.out.cell 1
  have x2 := Hx.out.cell 2
  simp at x0 x1 x2
  have c0 := Ht.out.cell 0
  have c1 := Ht.out.cell 1
  have c2 := Ht.out.cell 2
  have c3 := Ht.out.cell 3
  have c4 := Ht.out.cell 4
  have c5 := Ht.out.cell 5
  have c6 := Ht.out.cell 6
  have c7 := Ht.out.cell 7
  have c8 := Ht.out.cell 8
  have c9 := Ht.out.cell 9
  have c10 := Ht.out.cell 10
  have c11 := Ht.out.cell 11
  have c12 := Ht.out.cell 12
  simp at c0 c1 c2 c3 c4 c5 c6 c7 c8 c9 c10 c11 c12
  go_upto_region 4 with fail
  clear x0 x1 x2 c0 c1 c2 c3 c4 c5 c6 c7 c8 c9 c10 c11 c12
  have hy := Blk.new w1 29 #[.bool t.s0.opn, .string t.s0.wr, .int .i64 (t.s0.rd : Int), .bool t.s0.cl, .bool t.s0.eof, .bool t.s0.dd]
  have ht := Blk.alloc Ht.out (.cells #[.bool t.s0.opn, .string t.s0.wr, .int .i64 (t.s0.rd : Int), .bool t.s0.cl, .bool t.s0.eof, .bool t.s0.dd] 29)
  clear Ht
  have hx := Blk.alloc Hx.out (.cells #[.bool t.s0.opn, .string t.s0.wr, .int .i64 (t.s0.rd : Int), .bool t.s0.cl, .bool t.s0.eof, .bool t.s0.dd] 29)
  clear Hx
  have hB := HB.out.alloc HB.out.size (.cells #[.bool t.s0.opn, .string t.s0.wr, .int .i64 (t.s0.rd : Int), .bool t.s0.cl, .bool t.s0.eof, .bool t.s0.dd] 29)
  clear HB
  obtain ⟨gy, hge⟩ : ∃ g, g = w1.heap.size := ⟨_, rfl⟩
  rw [← hge] at hy ⊢
  clear hge
  generalize w1.alloc _ = w2 at *
  have Ht := Lib.hid ht
  clear ht
  have Hx := Lib.hid hx
  clear hx
  have Hy := Lib.hid hy
  clear hy
  have HB := Lib.hid hB
  clear hB
  have x0 := Hx.out.cell 0
  have x1 := Hx.out.cell 1
  have x2 := Hx.out.cell 2
  simp at x0 x1 x2
  have y0 := Hy.out.cell 0
  have y1 := Hy.out.cell 1
  have y2 := Hy.out.cell 2
  have y3 := Hy.out.cell 3
  have y4 := Hy.out.cell 4
  have y5 := Hy.out.cell 5
  simp at y0 y1 y2 y3 y4 y5
  have c0 := Ht.out.cell 0
  have c1 := Ht.out.cell 1
  have c2 := Ht.out.cell 2
  have c3 := Ht.out.cell 3
  have c4 := Ht.out.cell 4
  have c5 := Ht.out.cell 5
  have c6 := Ht.out.cell 6
  have c7 := Ht.out.cell 7
  have c8 := Ht.out.cell 8
  have c9 := Ht.out.cell 9
  have c10 := Ht.out.cell 10
  have c11 := Ht.out.cell 11
  have c12 := Ht.out.cell 12
  simp at c0 c1 c2 c3 c4 c5 c6 c7 c8 c9 c10 c11 c12
  have hl := fun W (a0 : W.cell? ⟨b, 0, none⟩ = some (.bool t.s0.opn)) (a5 : W.cell? ⟨b, 5, none⟩ = some (.bool t.s0.dd)) => rlive_0 W b _ _ a0 a5
  rw [show (t.s0.opn && !t.s0.dd) = true from Hv.out] at hl
  have HL := Lib.hid (hl w2 c0 c5)
  have HLq := Lib.hid (fun n => hl (w2.drewN n) c0 c5)
  clear hl
  rw [H0.out] at y3
  go_wp2_with fail
  (with_reducible refine (HL.out).mono ?_)
  rintro e w' ⟨rfl, rfl⟩
  go_wp2
  go_ret
  exact ⟨rfl, HB.out⟩

theorem may5_dead_0 (w : World) (b : Nat) (t : Tr) (s : ByteArray) (h : RfAt w b t) (hv : t.s0.live = false) :
    Calls Try.prog 34 #[.pointer (some ⟨b, 0, none⟩), .agg #[.int .i64 0, .int .u8 5, .string s]] w fun r w' => r = .returned (.bool false) ∧ Below w.heap.size w w' := by
  have Hv := Lib.hid hv
  clear hv
  have hb0 : Below w.heap.size w w := Below.refl _ _
  have HB := Lib.hid hb0
  clear hb0
  have Ht := Lib.hid h
  clear h
  go_enter Try.func34, Try.ntmps34
  go_upto_region 1 with fail
  have hx := Blk.new w 36 #[.int .i64 0, .int .u8 5, .string s]
  have ht := Blk.alloc Ht.out (.cells #[.int .i64 0, .int .u8 5, .string s] 36)
  clear Ht
  have hB := HB.out.alloc HB.out.size (.cells #[.int .i64 0, .int .u8 5, .string s] 36)
  clear HB
  obtain ⟨gx, hge⟩ : ∃ g, g = w.heap.size := ⟨_, rfl⟩
  rw [← hge] at hx ⊢
  clear hge
  generalize w.alloc _ = w1 at *
  have Ht := Lib.hid ht
  clear ht
  have Hx := Lib.hid hx
  clear hx
  have HB := Lib.hid hB
  clear hB
  have x0 := Hx.out.cell 0
  have x1 := Hx.out.cell 1
  have x2 := Hx.out.cell 2
  simp at x0 x1 x2
  have c0 := Ht.out.cell 0
  have c1 := Ht.out.cell 1
  have c2 := Ht.out.cell 2
  have c3 := Ht.out.cell 3
  have c4 := Ht.out.cell 4
  have c5 := Ht.out.cell 5
  have c6 := Ht.out.cell 6
  have c7 := Ht.out.cell 7
  have c8 := Ht.out.cell 8
  have c9 := Ht.out.cell 9
  have c10 := Ht.out.cell 10
  have c11 := Ht.out.cell 11
  have c12 := Ht.out.cell 12
  simp at c0 c1 c2 c3 c4 c5 c6 c7 c8 c9 c10 c11 c12
  go_upto_region 4 with fail
  clear x0 x1 x2 c0 c1 c2 c3 c4 c5 c6 c7 c8 c9 c10 c11 c12
  have hy := Blk.new w1 29 #[.bool t.s0.opn, .string t.s0.wr, .int .i64 (t.s0.rd : Int), .bool t.s0.cl, .bool t.s0.eof, .bool t.s0.dd]
  have ht := Blk.alloc Ht.out (.cells #[.bool t.s0.opn, .string t.s0.wr, .int .i64 (t.s0.rd : Int), .bool t.s0.cl, .bool t.s0.eof, .bool t.s0.dd] 29)
  clear Ht
  have hx := Blk.alloc Hx.out (.cells #[.bool t.s0.opn, .string t.s0.wr, .int .i64 (t.s0.rd : Int), .bool t.s0.cl, .bool t.s0.eof, .bool t.s0.dd] 29)
  clear Hx
  have hB := HB.out.alloc HB.out.size (.cells #[.bool t.s0.opn, .string t.s0.wr, .int .i64 (t.s0.rd : Int), .bool t.s0.cl, .bool t.s0.eof, .bool t.s0.dd] 29)
  clear HB
  obtain ⟨gy, hge⟩ : ∃ g, g = w1.heap.size := ⟨_, rfl⟩
  rw [← hge] at hy ⊢
  clear hge
  generalize w1.alloc _ = w2 at *
  have Ht := Lib.hid ht
  clear ht
  have Hx := Lib.hid hx
  clear hx
  have Hy := Lib.hid hy
  clear hy
  have HB := Lib.hid hB
  clear hB
  have x0 := Hx.out.cell 0
  have x1 := Hx.out.cell 1
  have x2 := Hx.out.cell 2
  simp at x0 x1 x2
  have y0 := Hy.out.cell 0
  have y1 := Hy.out.cell 1
  have y2 := Hy.out.cell 2
  have y3 := Hy.out.cell 3
  have y4 := Hy.out.cell 4
  have y5 := Hy.out.cell 5
  simp at y0 y1 y2 y3 y4 y5
  have c0 := Ht.out.cell 0
  have c1 := Ht.out.cell 1
  have c2 := Ht.out.cell 2
  have c3 := Ht.out.cell 3
  have c4 := Ht.out.cell 4
  have c5 := Ht.out.cell 5
  have c6 := Ht.out.cell 6
  have c7 := Ht.out.cell 7
  have c8 := Ht.out.cell 8
  have c9 := Ht.out.cell 9
  have c10 := Ht.out.cell 10
  have c11 := Ht.out.cell 11
  have c12 := Ht.out.cell 12
  simp at c0 c1 c2 c3 c4 c5 c6 c7 c8 c9 c10 c11 c12
  have hl := fun W (a0 : W.cell? ⟨b, 0, none⟩ = some (.bool t.s0.opn)) (a5 : W.cell? ⟨b, 5, none⟩ = some (.bool t.s0.dd)) => rlive_0 W b _ _ a0 a5
  rw [show (t.s0.opn && !t.s0.dd) = false from Hv.out] at hl
  have HL := Lib.hid (hl w2 c0 c5)
  have HLq := Lib.hid (fun n => hl (w2.drewN n) c0 c5)
  clear hl
  go_wp2_with fail
  (with_reducible refine (HL.out).mono ?_)
  rintro e w' ⟨rfl, rfl⟩
  go_wp2
  go_ret
  exact ⟨rfl, HB.out⟩

theorem may5_cl_0 (w : World) (b : Nat) (t : Tr) (s : ByteArray) (h : RfAt w b t) (hv : t.s0.live = true) (h0 : t.s0.cl = true) :
    Calls Try.prog 34 #[.pointer (some ⟨b, 0, none⟩), .agg #[.int .i64 0, .int .u8 5, .string s]] w fun r w' => r = .returned (.bool false) ∧ Below w.heap.size w w' := by
  have Hv := Lib.hid hv
  clear hv
  have H0 := Lib.hid h0
  clear h0
  have hb0 : Below w.heap.size w w := Below.refl _ _
  have HB := Lib.hid hb0
  clear hb0
  have Ht := Lib.hid h
  clear h
  go_enter Try.func34, Try.ntmps34
  go_upto_region 1 with fail
  have hx := Blk.new w 36 #[.int .i64 0, .int .u8 5, .string s]
  have ht := Blk.alloc Ht.out (.cells #[.int .i64 0, .int .u8 5, .string s] 36)
  clear Ht
  have hB := HB.out.alloc HB.out.size (.cells #[.int .i64 0, .int .u8 5, .string s] 36)
  clear HB
  obtain ⟨gx, hge⟩ : ∃ g, g = w.heap.size := ⟨_, rfl⟩
  rw [← hge] at hx ⊢
  clear hge
  generalize w.alloc _ = w1 at *
  have Ht := Lib.hid ht
  clear ht
  have Hx := Lib.hid hx
  clear hx
  have HB := Lib.hid hB
  clear hB
  have x0 := Hx.out.cell 0
  have x1 := Hx.out.cell 1
  have x2 := Hx.out.cell 2
  simp at x0 x1 x2
  have c0 := Ht.out.cell 0
  have c1 := Ht.out.cell 1
  have c2 := Ht.out.cell 2
  have c3 := Ht.out.cell 3
  have c4 := Ht.out.cell 4
  have c5 := Ht.out.cell 5
  have c6 := Ht.out.cell 6
  have c7 := Ht.out.cell 7
  have c8 := Ht.out.cell 8
  have c9 := Ht.out.cell 9
  have c10 := Ht.out.cell 10
  have c11 := Ht.out.cell 11
  have c12 := Ht.out.cell 12
  simp at c0 c1 c2 c3 c4 c5 c6 c7 c8 c9 c10 c11 c12
  go_upto_region 4 with fail
  clear x0 x1 x2 c0 c1 c2 c3 c4 c5 c6 c7 c8 c9 c10 c11 c12
  have hy := Blk.new w1 29 #[.bool t.s0.opn, .string t.s0.wr, .int .i64 (t.s0.rd : Int), .bool t.s0.cl, .bool t.s0.eof, .bool t.s0.dd]
  have ht := Blk.alloc Ht.out (.cells #[.bool t.s0.opn, .string t.s0.wr, .int .i64 (t.s0.rd : Int), .bool t.s0.cl, .bool t.s0.eof, .bool t.s0.dd] 29)
  clear Ht
  have hx := Blk.alloc Hx.out (.cells #[.bool t.s0.opn, .string t.s0.wr, .int .i64 (t.s0.rd : Int), .bool t.s0.cl, .bool t.s0.eof, .bool t.s0.dd] 29)
  clear Hx
  have hB := HB.out.alloc HB.out.size (.cells #[.bool t.s0.opn, .string t.s0.wr, .int .i64 (t.s0.rd : Int), .bool t.s0.cl, .bool t.s0.eof, .bool t.s0.dd] 29)
  clear HB
  obtain ⟨gy, hge⟩ : ∃ g, g = w1.heap.size := ⟨_, rfl⟩
  rw [← hge] at hy ⊢
  clear hge
  generalize w1.alloc _ = w2 at *
  have Ht := Lib.hid ht
  clear ht
  have Hx := Lib.hid hx
  clear hx
  have Hy := Lib.hid hy
  clear hy
  have HB := Lib.hid hB
  clear hB
  have x0 := Hx.out.cell 0
  have x1 := Hx.out.cell 1
  have x2 := Hx.out.cell 2
  simp at x0 x1 x2
  have y0 := Hy.out.cell 0
  have y1 := Hy.out.cell 1
  have y2 := Hy.out.cell 2
  have y3 := Hy.out.cell 3
  have y4 := Hy.out.cell 4
  have y5 := Hy.out.cell 5
  simp at y0 y1 y2 y3 y4 y5
  have c0 := Ht.out.cell 0
  have c1 := Ht.out.cell 1
  have c2 := Ht.out.cell 2
  have c3 := Ht.out.cell 3
  have c4 := Ht.out.cell 4
  have c5 := Ht.out.cell 5
  have c6 := Ht.out.cell 6
  have c7 := Ht.out.cell 7
  have c8 := Ht.out.cell 8
  have c9 := Ht.out.cell 9
  have c10 := Ht.out.cell 10
  have c11 := Ht.out.cell 11
  have c12 := Ht.out.cell 12
  simp at c0 c1 c2 c3 c4 c5 c6 c7 c8 c9 c10 c11 c12
  have hl := fun W (a0 : W.cell? ⟨b, 0, none⟩ = some (.bool t.s0.opn)) (a5 : W.cell? ⟨b, 5, none⟩ = some (.bool t.s0.dd)) => rlive_0 W b _ _ a0 a5
  rw [show (t.s0.opn && !t.s0.dd) = true from Hv.out] at hl
  have HL := Lib.hid (hl w2 c0 c5)
  have HLq := Lib.hid (fun n => hl (w2.drewN n) c0 c5)
  clear hl
  rw [H0.out] at y3
  go_wp2_with fail
  (with_reducible refine (HL.out).mono ?_)
  rintro e w' ⟨rfl, rfl⟩
  go_wp2
  go_ret
  exact ⟨rfl, HB.out⟩

theorem may5_yes_0 (w : World) (b : Nat) (t : Tr) (s : ByteArray) (h : RfAt w b t) (hv : t.s0.live = true) (h0 : t.s0.cl = false) :
    Calls Try.prog 34 #[.pointer (some ⟨b, 0, none⟩), .agg #[.int .i64 0, .int .u8 5, .string s]] w fun r w' => r = .returned (.bool true) ∧ Below w.heap.size w w' := by
  have Hv := Lib.hid hv
  clear hv
  have H0 := Lib.hid h0
  clear h0
  have hb0 : Below w.heap.size w w := Below.refl _ _
  have HB := Lib.hid hb0
  clear hb0
  have Ht := Lib.hid h
  clear h
  go_enter Try.func34, Try.ntmps34
  go_upto_region 1 with fail
  have hx := Blk.new w 36 #[.int .i64 0, .int .u8 5, .string s]
  have ht := Blk.alloc Ht.out (.cells #[.int .i64 0, .int .u8 5, .string s] 36)
  clear Ht
  have hB := HB.out.alloc HB.out.size (.cells #[.int .i64 0, .int .u8 5, .string s] 36)
  clear HB
  obtain ⟨gx, hge⟩ : ∃ g, g = w.heap.size := ⟨_, rfl⟩
  rw [← hge] at hx ⊢
  clear hge
  generalize w.alloc _ = w1 at *
  have Ht := Lib.hid ht
  clear ht
  have Hx := Lib.hid hx
  clear hx
  have HB := Lib.hid hB
  clear hB
  have x0 := Hx.out.cell 0
  have x1 := Hx.out.cell 1
  have x2 := Hx.out.cell 2
  simp at x0 x1 x2
  have c0 := Ht.out.cell 0
  have c1 := Ht.out.cell 1
  have c2 := Ht.out.cell 2
  have c3 := Ht.out.cell 3
  have c4 := Ht.out.cell 4
  have c5 := Ht.out.cell 5
  have c6 := Ht.out.cell 6
  have c7 := Ht.out.cell 7
  have c8 := Ht.out.cell 8
  have c9 := Ht.out.cell 9
  have c10 := Ht.out.cell 10
  have c11 := Ht.out.cell 11
  have c12 := Ht.out.cell 12
  simp at c0 c1 c2 c3 c4 c5 c6 c7 c8 c9 c10 c11 c12
  go_upto_region 4 with fail
  clear x0 x1 x2 c0 c1 c2 c3 c4 c5 c6 c7 c8 c9 c10 c11 c12
  have hy := Blk.new w1 29 #[.bool t.s0.opn, .string t.s0.wr, .int .i64 (t.s0.rd : Int), .bool t.s0.cl, .bool t.s0.eof, .bool t.s0.dd]
  have ht := Blk.alloc Ht.out (.cells #[.bool t.s0.opn, .string t.s0.wr, .int .i64 (t.s0.rd : Int), .bool t.s0.cl, .bool t.s0.eof, .bool t.s0.dd] 29)
  clear Ht
  have hx := Blk.alloc Hx.out (.cells #[.bool t.s0.opn, .string t.s0.wr, .int .i64 (t.s0.rd : Int), .bool t.s0.cl, .bool t.s0.eof, .bool t.s0.dd] 29)
  clear Hx
  have hB := HB.out.alloc HB.out.size (.cells #[.bool t.s0.opn, .string t.s0.wr, .int .i64 (t.s0.rd : Int), .bool t.s0.cl, .bool t.s0.eof, .bool t.s0.dd] 29)
  clear HB
  obtain ⟨gy, hge⟩ : ∃ g, g = w1.heap.size := ⟨_, rfl⟩
  rw [← hge] at hy ⊢
  clear hge
  generalize w1.alloc _ = w2 at *
  have Ht := Lib.hid ht
  clear ht
  have Hx := Lib.hid hx
  clear hx
  have Hy := Lib.hid hy
  clear hy
  have HB := Lib.hid hB
  clear hB
  have x0 := Hx.out.cell 0
  have x1 := Hx.out.cell 1
  have x2 := Hx.out.cell 2
  simp at x0 x1 x2
  have y0 := Hy.out.cell 0
  have y1 := Hy.out.cell 1
  have y2 := Hy.out.cell 2
  have y3 := Hy.out.cell 3
  have y4 := Hy.out.cell 4
  have y5 := Hy.out.cell 5
  simp at y0 y1 y2 y3 y4 y5
  have c0 := Ht.out.cell 0
  have c1 := Ht.out.cell 1
  have c2 := Ht.out.cell 2
  have c3 := Ht.out.cell 3
  have c4 := Ht.out.cell 4
  have c5 := Ht.out.cell 5
  have c6 := Ht.out.cell 6
  have c7 := Ht.out.cell 7
  have c8 := Ht.out.cell 8
  have c9 := Ht.out.cell 9
  have c10 := Ht.out.cell 10
  have c11 := Ht.out.cell 11
  have c12 := Ht.out.cell 12
  simp at c0 c1 c2 c3 c4 c5 c6 c7 c8 c9 c10 c11 c12
  have hl := fun W (a0 : W.cell? ⟨b, 0, none⟩ = some (.bool t.s0.opn)) (a5 : W.cell? ⟨b, 5, none⟩ = some (.bool t.s0.dd)) => rlive_0 W b _ _ a0 a5
  rw [show (t.s0.opn && !t.s0.dd) = true from Hv.out] at hl
  have HL := Lib.hid (hl w2 c0 c5)
  have HLq := Lib.hid (fun n => hl (w2.drewN n) c0 c5)
  clear hl
  rw [H0.out] at y3
  go_wp2_with fail
  (with_reducible refine (HL.out).mono ?_)
  rintro e w' ⟨rfl, rfl⟩
  go_wp2
  go_ret
  exact ⟨rfl, HB.out⟩

theorem may4_dead_0 (w : World) (b : Nat) (t : Tr) (s : ByteArray) (h : RfAt w b t) (hv : t.s0.live = false) :
    Calls Try.prog 34 #[.pointer (some ⟨b, 0, none⟩), .agg #[.int .i64 0, .int .u8 4, .string s]] w fun r w' => r = .returned (.bool false) ∧ Below w.heap.size w w' := by
  have Hv := Lib.hid hv
  clear hv
  have hb0 : Below w.heap.size w w := Below.refl _ _
  have HB := Lib.hid hb0
  clear hb0
  have Ht := Lib.hid h
  clear h
  go_enter Try.func34, Try.ntmps34
  go_upto_region 1 with fail
  have hx := Blk.new w 36 #[.int .i64 0, .int .u8 4, .string s]
  have ht := Blk.alloc Ht.out (.cells #[.int .i64 0, .int .u8 4, .string s] 36)
  clear Ht
  have hB := HB.out.alloc HB.out.size (.cells #[.int .i64 0, .int .u8 4, .string s] 36)
  clear HB
  obtain ⟨gx, hge⟩ : ∃ g, g = w.heap.size := ⟨_, rfl⟩
  rw [← hge] at hx ⊢
  clear hge
  generalize w.alloc _ = w1 at *
  have Ht := Lib.hid ht
  clear ht
  have Hx := Lib.hid hx
  clear hx
  have HB := Lib.hid hB
  clear hB
  have x0 := Hx.out.cell 0
  have x1 := Hx.out.cell 1
  have x2 := Hx.out.cell 2
  simp at x0 x1 x2
  have c0 := Ht.out.cell 0
  have c1 := Ht.out.cell 1
  have c2 := Ht.out.cell 2
  have c3 := Ht.out.cell 3
  have c4 := Ht.out.cell 4
  have c5 := Ht.out.cell 5
  have c6 := Ht.out.cell 6
  have c7 := Ht.out.cell 7
  have c8 := Ht.out.cell 8
  have c9 := Ht.out.cell 9
  have c10 := Ht.out.cell 10
  have c11 := Ht.out.cell 11
  have c12 := Ht.out.cell 12
  simp at c0 c1 c2 c3 c4 c5 c6 c7 c8 c9 c10 c11 c12
  go_upto_region 4 with fail
  clear x0 x1 x2 c0 c1 c2 c3 c4 c5 c6 c7 c8 c9 c10 c11 c12
  have hy := Blk.new w1 29 #[.bool t.s0.opn, .string t.s0.wr, .int .i64 (t.s0.rd : Int), .bool t.s0.cl, .bool t.s0.eof, .bool t.s0.dd]
  have ht := Blk.alloc Ht.out (.cells #[.bool t.s0.opn, .string t.s0.wr, .int .i64 (t.s0.rd : Int), .bool t.s0.cl, .bool t.s0.eof, .bool t.s0.dd] 29)
  clear Ht
  have hx := Blk.alloc Hx.out (.cells #[.bool t.s0.opn, .string t.s0.wr, .int .i64 (t.s0.rd : Int), .bool t.s0.cl, .bool t.s0.eof, .bool t.s0.dd] 29)
  clear Hx
  have hB := HB.out.alloc HB.out.size (.cells #[.bool t.s0.opn, .string t.s0.wr, .int .i64 (t.s0.rd : Int), .bool t.s0.cl, .bool t.s0.eof, .bool t.s0.dd] 29)
  clear HB
  obtain ⟨gy, hge⟩ : ∃ g, g = w1.heap.size := ⟨_, rfl⟩
  rw [← hge] at hy ⊢
  clear hge
  generalize w1.alloc _ = w2 at *
  have Ht := Lib.hid ht
  clear ht
  have Hx := Lib.hid hx
  clear hx
  have Hy := Lib.hid hy
  clear hy
  have HB := Lib.hid hB
  clear hB
  have x0 := Hx.out.cell 0
  have x1 := Hx.out.cell 1
  have x2 := Hx.out.cell 2
  simp at x0 x1 x2
  have y0 := Hy.out.cell 0
  have y1 := Hy.out.cell 1
  have y2 := Hy.out.cell 2
  have y3 := Hy.out.cell 3
  have y4 := Hy.out.cell 4
  have y5 := Hy.out.cell 5
  simp at y0 y1 y2 y3 y4 y5
  have c0 := Ht.out.cell 0
  have c1 := Ht.out.cell 1
  have c2 := Ht.out.cell 2
  have c3 := Ht.out.cell 3
  have c4 := Ht.out.cell 4
  have c5 := Ht.out.cell 5
  have c6 := Ht.out.cell 6
  have c7 := Ht.out.cell 7
  have c8 := Ht.out.cell 8
  have c9 := Ht.out.cell 9
  have c10 := Ht.out.cell 10
  have c11 := Ht.out.cell 11
  have c12 := Ht.out.cell 12
  simp at c0 c1 c2 c3 c4 c5 c6 c7 c8 c9 c10 c11 c12
  have hl := fun W (a0 : W.cell? ⟨b, 0, none⟩ = some (.bool t.s0.opn)) (a5 : W.cell? ⟨b, 5, none⟩ = some (.bool t.s0.dd)) => rlive_0 W b _ _ a0 a5
  rw [show (t.s0.opn && !t.s0.dd) = false from Hv.out] at hl
  have HL := Lib.hid (hl w2 c0 c5)
  have HLq := Lib.hid (fun n => hl (w2.drewN n) c0 c5)
  clear hl
  go_wp2
  go_quiet ((go_at_call 50; exact quiet_left (HLq.out _)))
  go_wp2
  go_ret
  exact ⟨rfl, below_drewN HB.out _⟩

theorem may4_eof_0 (w : World) (b : Nat) (t : Tr) (s : ByteArray) (h : RfAt w b t) (hv : t.s0.live = true) (h0 : t.s0.eof = true) :
    Calls Try.prog 34 #[.pointer (some ⟨b, 0, none⟩), .agg #[.int .i64 0, .int .u8 4, .string s]] w fun r w' => r = .returned (.bool false) ∧ Below w.heap.size w w' := by
  have Hv := Lib.hid hv
  clear hv
  have H0 := Lib.hid h0
  clear h0
  have hb0 : Below w.heap.size w w := Below.refl _ _
  have HB := Lib.hid hb0
  clear hb0
  have Ht := Lib.hid h
  clear h
  go_enter Try.func34, Try.ntmps34
  go_upto_region 1 with fail
  have hx := Blk.new w 36 #[.int .i64 0, .int .u8 4, .string s]
  have ht := Blk.alloc Ht.out (.cells #[.int .i64 0, .int .u8 4, .string s] 36)
  clear Ht
  have hB := HB.out.alloc HB.out.size (.cells #[.int .i64 0, .int .u8 4, .string s] 36)
  clear HB
  obtain ⟨gx, hge⟩ : ∃ g, g = w.heap.size := ⟨_, rfl⟩
  rw [← hge] at hx ⊢
  clear hge
  generalize w.alloc _ = w1 at *
  have Ht := Lib.hid ht
  clear ht
  have Hx := Lib.hid hx
  clear hx
  have HB := Lib.hid hB
  clear hB
  have x0 := Hx.out.cell 0
  have x1 := Hx.out.cell 1
  have x2 := Hx.out.cell 2
  simp at x0 x1 x2
  have c0 := Ht.out.cell 0
  have c1 := Ht.out.cell 1
  have c2 := Ht.out.cell 2
  have c3 := Ht.out.cell 3
  have c4 := Ht.out.cell 4
  have c5 := Ht.out.cell 5
  have c6 := Ht.out.cell 6
  have c7 := Ht.out.cell 7
  have c8 := Ht.out.cell 8
  have c9 := Ht.out.cell 9
  have c10 := Ht.out.cell 10
  have c11 := Ht.out.cell 11
  have c12 := Ht.out.cell 12
  simp at c0 c1 c2 c3 c4 c5 c6 c7 c8 c9 c10 c11 c12
  go_upto_region 4 with fail
  clear x0 x1 x2 c0 c1 c2 c3 c4 c5 c6 c7 c8 c9 c10 c11 c12
  have hy := Blk.new w1 29 #[.bool t.s0.opn, .string t.s0.wr, .int .i64 (t.s0.rd : Int), .bool t.s0.cl, .bool t.s0.eof, .bool t.s0.dd]
  have ht := Blk.alloc Ht.out (.cells #[.bool t.s0.opn, .string t.s0.wr, .int .i64 (t.s0.rd : Int), .bool t.s0.cl, .bool t.s0.eof, .bool t.s0.dd] 29)
  clear Ht
  have hx := Blk.alloc Hx.out (.cells #[.bool t.s0.opn, .string t.s0.wr, .int .i64 (t.s0.rd : Int), .bool t.s0.cl, .bool t.s0.eof, .bool t.s0.dd] 29)
  clear Hx
  have hB := HB.out.alloc HB.out.size (.cells #[.bool t.s0.opn, .string t.s0.wr, .int .i64 (t.s0.rd : Int), .bool t.s0.cl, .bool t.s0.eof, .bool t.s0.dd] 29)
  clear HB
  obtain ⟨gy, hge⟩ : ∃ g, g = w1.heap.size := ⟨_, rfl⟩
  rw [← hge] at hy ⊢
  clear hge
  generalize w1.alloc _ = w2 at *
  have Ht := Lib.hid ht
  clear ht
  have Hx := Lib.hid hx
  clear hx
  have Hy := Lib.hid hy
  clear hy
  have HB := Lib.hid hB
  clear hB
  have x0 := Hx.out.cell 0
  have x1 := Hx.out.cell 1
  have x2 := Hx.out.cell 2
  simp at x0 x1 x2
  have y0 := Hy.out.cell 0
  have y1 := Hy.out.cell 1
  have y2 := Hy.out.cell 2
  have y3 := Hy.out.cell 3
  have y4 := Hy.out.cell 4
  have y5 := Hy.out.cell 5
  simp at y0 y1 y2 y3 y4 y5
  have c0 := Ht.out.cell 0
  have c1 := Ht.out.cell 1
  have c2 := Ht.out.cell 2
  have c3 := Ht.out.cell 3
  have c4 := Ht.out.cell 4
  have c5 := Ht.out.cell 5
  have c6 := Ht.out.cell 6
  have c7 := Ht.out.cell 7
  have c8 := Ht.out.cell 8
  have c9 := Ht.out.cell 9
  have c10 := Ht.out.cell 10
  have c11 := Ht.out.cell 11
  have c12 := Ht.out.cell 12
  simp at c0 c1 c2 c3 c4 c5 c6 c7 c8 c9 c10 c11 c12
  have hl := fun W (a0 : W.cell? ⟨b, 0, none⟩ = some (.bool t.s0.opn)) (a5 : W.cell? ⟨b, 5, none⟩ = some (.bool t.s0.dd)) => rlive_0 W b _ _ a0 a5
  rw [show (t.s0.opn && !t.s0.dd) = true from Hv.out] at hl
  have HL := Lib.hid (hl w2 c0 c5)
  have HLq := Lib.hid (fun n => hl (w2.drewN n) c0 c5)
  clear hl
  rw [H0.out] at y4
  go_wp2
  go_quiet ((go_at_call 50; exact quiet_left (HLq.out _)))
  go_wp2
  go_ret
  exact ⟨rfl, below_drewN HB.out _⟩

theorem may4_long_0 (w : World) (b : Nat) (t : Tr) (s : ByteArray) (h : RfAt w b t) (hv : t.s0.live = true) (h0 : t.s0.eof = false) (hr : t.s0.rd ≤ t.s1.wr.size) (hw : t.s1.wr.size ≤ 1048576) (hs : s.size ≤ 4194304) (h1 : ¬ s.size ≤ t.s1.wr.size - t.s0.rd) :
    Calls Try.prog 34 #[.pointer (some ⟨b, 0, none⟩), .agg #[.int .i64 0, .int .u8 4, .string s]] w fun r w' => r = .returned (.bool false) ∧ Below w.heap.size w w' := by
  have Hv := Lib.hid hv
  clear hv
  have H0 := Lib.hid h0
  clear h0
  have hb0 : Below w.heap.size w w := Below.refl _ _
  have HB := Lib.hid hb0
  clear hb0
  have Ht := Lib.hid h
  clear h
  go_enter Try.func34, Try.ntmps34
  go_upto_region 1 with fail
  have hx := Blk.new w 36 #[.int .i64 0, .int .u8 4, .string s]
  have ht := Blk.alloc Ht.out (.cells #[.int .i64 0, .int .u8 4, .string s] 36)
  clear Ht
  have hB := HB.out.alloc HB.out.size (.cells #[.int .i64 0, .int .u8 4, .string s] 36)
  clear HB
  obtain ⟨gx, hge⟩ : ∃ g, g = w.heap.size := ⟨_, rfl⟩
  rw [← hge] at hx ⊢
  clear hge
  generalize w.alloc _ = w1 at *
  have Ht := Lib.hid ht
  clear ht
  have Hx := Lib.hid hx
  clear hx
  have HB := Lib.hid hB
  clear hB
  have x0 := Hx.out.cell 0
  have x1 := Hx.out.cell 1
  have x2 := Hx.out.cell 2
  simp at x0 x1 x2
  have c0 := Ht.out.cell 0
  have c1 := Ht.out.cell 1
  have c2 := Ht.out.cell 2
  have c3 := Ht.out.cell 3
  have c4 := Ht.out.cell 4
  have c5 := Ht.out.cell 5
  have c6 := Ht.out.cell 6
  have c7 := Ht.out.cell 7
  have c8 := Ht.out.cell 8
  have c9 := Ht.out.cell 9
  have c10 := Ht.out.cell 10
  have c11 := Ht.out.cell 11
  have c12 := Ht.out.cell 12
  simp at c0 c1 c2 c3 c4 c5 c6 c7 c8 c9 c10 c11 c12
  go_upto_region 4 with fail
  clear x0 x1 x2 c0 c1 c2 c3 c4 c5 c6 c7 c8 c9 c10 c11 c12
  have hy := Blk.new w1 29 #[.bool t.s0.opn, .string t.s0.wr, .int .i64 (t.s0.rd : Int), .bool t.s0.cl, .bool t.s0.eof, .bool t.s0.dd]
  have ht := Blk.alloc Ht.out (.cells #[.bool t.s0.opn, .string t.s0.wr, .int .i64 (t.s0.rd : Int), .bool t.s0.cl, .bool t.s0.eof, .bool t.s0.dd] 29)
  clear Ht
  have hx := Blk.alloc Hx.out (.cells #[.bool t.s0.opn, .string t.s0.wr, .int .i64 (t.s0.rd : Int), .bool t.s0.cl, .bool t.s0.eof, .bool t.s0.dd] 29)
  clear Hx
  have hB := HB.out.alloc HB.out.size (.cells #[.bool t.s0.opn, .string t.s0.wr, .int .i64 (t.s0.rd : Int), .bool t.s0.cl, .bool t.s0.eof, .bool t.s0.dd] 29)
  clear HB
  obtain ⟨gy, hge⟩ : ∃ g, g = w1.heap.size := ⟨_, rfl⟩
  rw [← hge] at hy ⊢
  clear hge
  generalize w1.alloc _ = w2 at *
  have Ht := Lib.hid ht
  clear ht
  have Hx := Lib.hid hx
  clear hx
  have Hy := Lib.hid hy
  clear hy
  have HB := Lib.hid hB
  clear hB
  have x0 := Hx.out.cell 0
  have x1 := Hx.out.cell 1
  have x2 := Hx.out.cell 2
  simp at x0 x1 x2
  have y0 := Hy.out.cell 0
  have y1 := Hy.out.cell 1
  have y2 := Hy.out.cell 2
  have y3 := Hy.out.cell 3
  have y4 := Hy.out.cell 4
  have y5 := Hy.out.cell 5
  simp at y0 y1 y2 y3 y4 y5
  have c0 := Ht.out.cell 0
  have c1 := Ht.out.cell 1
  have c2 := Ht.out.cell 2
  have c3 := Ht.out.cell 3
  have c4 := Ht.out.cell 4
  have c5 := Ht.out.cell 5
  have c6 := Ht.out.cell 6
  have c7 := Ht.out.cell 7
  have c8 := Ht.out.cell 8
  have c9 := Ht.out.cell 9
  have c10 := Ht.out.cell 10
  have c11 := Ht.out.cell 11
  have c12 := Ht.out.cell 12
  simp at c0 c1 c2 c3 c4 c5 c6 c7 c8 c9 c10 c11 c12
  have hl := fun W (a0 : W.cell? ⟨b, 0, none⟩ = some (.bool t.s0.opn)) (a5 : W.cell? ⟨b, 5, none⟩ = some (.bool t.s0.dd)) => rlive_0 W b _ _ a0 a5
  rw [show (t.s0.opn && !t.s0.dd) = true from Hv.out] at hl
  have HL := Lib.hid (hl w2 c0 c5)
  have HLq := Lib.hid (fun n => hl (w2.drewN n) c0 c5)
  clear hl
  rw [H0.out] at y4
  have j1 : IntKind.i64.wrap ((t.s1.wr.size : Int) - (t.s0.rd : Int)) = (t.s1.wr.size : Int) - (t.s0.rd : Int) := IntWalk.i64_in _ (by omega)
  have j2 : IntKind.i64.wrap ((t.s0.rd : Int) + (s.size : Int)) = ((t.s0.rd + s.size : Nat) : Int) := by rw [IntWalk.i64_in _ (by omega)]; omega
  have j3 : decide ((s.size : Int) ≤ (t.s1.wr.size : Int) - (t.s0.rd : Int)) = false := decide_eq_false (by omega)
  clear hr hw hs h1
  go_wp2
  go_quiet ((go_at_call 50; exact quiet_left (HLq.out _)))
  go_wp2
  go_ret
  exact ⟨rfl, below_drewN HB.out _⟩

theorem may4_no_0 (w : World) (b : Nat) (t : Tr) (s : ByteArray) (h : RfAt w b t) (hv : t.s0.live = true) (h0 : t.s0.eof = false) (hr : t.s0.rd ≤ t.s1.wr.size) (hw : t.s1.wr.size ≤ 1048576) (hs : s.size ≤ 4194304) (h1 : s.size ≤ t.s1.wr.size - t.s0.rd) (h2 : t.s1.wr.extract t.s0.rd (t.s0.rd + s.size) ≠ s) :
    Calls Try.prog 34 #[.pointer (some ⟨b, 0, none⟩), .agg #[.int .i64 0, .int .u8 4, .string s]] w fun r w' => r = .returned (.bool false) ∧ Below w.heap.size w w' := by
  have Hv := Lib.hid hv
  clear hv
  have H0 := Lib.hid h0
  clear h0
  have H2 := Lib.hid h2
  clear h2
  have hb0 : Below w.heap.size w w := Below.refl _ _
  have HB := Lib.hid hb0
  clear hb0
  have Ht := Lib.hid h
  clear h
  go_enter Try.func34, Try.ntmps34
  go_upto_region 1 with fail
  have hx := Blk.new w 36 #[.int .i64 0, .int .u8 4, .string s]
  have ht := Blk.alloc Ht.out (.cells #[.int .i64 0, .int .u8 4, .string s] 36)
  clear Ht
  have hB := HB.out.alloc HB.out.size (.cells #[.int .i64 0, .int .u8 4, .string s] 36)
  clear HB
  obtain ⟨gx, hge⟩ : ∃ g, g = w.heap.size := ⟨_, rfl⟩
  rw [← hge] at hx ⊢
  clear hge
  generalize w.alloc _ = w1 at *
  have Ht := Lib.hid ht
  clear ht
  have Hx := Lib.hid hx
  clear hx
  have HB := Lib.hid hB
  clear hB
  have x0 := Hx.out.cell 0
  have x1 := Hx.out.cell 1
  have x2 := Hx.out.cell 2
  simp at x0 x1 x2
  have c0 := Ht.out.cell 0
  have c1 := Ht.out.cell 1
  have c2 := Ht.out.cell 2
  have c3 := Ht.out.cell 3
  have c4 := Ht.out.cell 4
  have c5 := Ht.out.cell 5
  have c6 := Ht.out.cell 6
  have c7 := Ht.out.cell 7
  have c8 := Ht.out.cell 8
  have c9 := Ht.out.cell 9
  have c10 := Ht.out.cell 10
  have c11 := Ht.out.cell 11
  have c12 := Ht.out.cell 12
  simp at c0 c1 c2 c3 c4 c5 c6 c7 c8 c9 c10 c11 c12
  go_upto_region 4 with fail
  clear x0 x1 x2 c0 c1 c2 c3 c4 c5 c6 c7 c8 c9 c10 c11 c12
  have hy := Blk.new w1 29 #[.bool t.s0.opn, .string t.s0.wr, .int .i64 (t.s0.rd : Int), .bool t.s0.cl, .bool t.s0.eof, .bool t.s0.dd]
  have ht := Blk.alloc Ht.out (.cells #[.bool t.s0.opn, .string t.s0.wr, .int .i64 (t.s0.rd : Int), .bool t.s0.cl, .bool t.s0.eof, .bool t.s0.dd] 29)
  clear Ht
  have hx := Blk.alloc Hx.out (.cells #[.bool t.s0.opn, .string t.s0.wr, .int .i64 (t.s0.rd : Int), .bool t.s0.cl, .bool t.s0.eof, .bool t.s0.dd] 29)
  clear Hx
  have hB := HB.out.alloc HB.out.size (.cells #[.bool t.s0.opn, .string t.s0.wr, .int .i64 (t.s0.rd : Int), .bool t.s0.cl, .bool t.s0.eof, .bool t.s0.dd] 29)
  clear HB
  obtain ⟨gy, hge⟩ : ∃ g, g = w1.heap.size := ⟨_, rfl⟩
  rw [← hge] at hy ⊢
  clear hge
  generalize w1.alloc _ = w2 at *
  have Ht := Lib.hid ht
  clear ht
  have Hx := Lib.hid hx
  clear hx
  have Hy := Lib.hid hy
  clear hy
  have HB := Lib.hid hB
  clear hB
  have x0 := Hx.out.cell 0
  have x1 := Hx.out.cell 1
  have x2 := Hx.out.cell 2
  simp at x0 x1 x2
  have y0 := Hy.out.cell 0
  have y1 := Hy.out.cell 1
  have y2 := Hy.out.cell 2
  have y3 := Hy.out.cell 3
  have y4 := Hy.out.cell 4
  have y5 := Hy.out.cell 5
  simp at y0 y1 y2 y3 y4 y5
  have c0 := Ht.out.cell 0
  have c1 := Ht.out.cell 1
  have c2 := Ht.out.cell 2
  have c3 := Ht.out.cell 3
  have c4 := Ht.out.cell 4
  have c5 := Ht.out.cell 5
  have c6 := Ht.out.cell 6
  have c7 := Ht.out.cell 7
  have c8 := Ht.out.cell 8
  have c9 := Ht.out.cell 9
  have c10 := Ht.out.cell 10
  have c11 := Ht.out.cell 11
  have c12 := Ht.out.cell 12
  simp at c0 c1 c2 c3 c4 c5 c6 c7 c8 c9 c10 c11 c12
  have hl := fun W (a0 : W.cell? ⟨b, 0, none⟩ = some (.bool t.s0.opn)) (a5 : W.cell? ⟨b, 5, none⟩ = some (.bool t.s0.dd)) => rlive_0 W b _ _ a0 a5
  rw [show (t.s0.opn && !t.s0.dd) = true from Hv.out] at hl
  have HL := Lib.hid (hl w2 c0 c5)
  have HLq := Lib.hid (fun n => hl (w2.drewN n) c0 c5)
  clear hl
  rw [H0.out] at y4
  have j1 : IntKind.i64.wrap ((t.s1.wr.size : Int) - (t.s0.rd : Int)) = (t.s1.wr.size : Int) - (t.s0.rd : Int) := IntWalk.i64_in _ (by omega)
  have j2 : IntKind.i64.wrap ((t.s0.rd : Int) + (s.size : Int)) = ((t.s0.rd + s.size : Nat) : Int) := by rw [IntWalk.i64_in _ (by omega)]; omega
  have j3 : decide ((s.size : Int) ≤ (t.s1.wr.size : Int) - (t.s0.rd : Int)) = true := decide_eq_true (by omega)
  have j5 : (t.s0.rd : Int) ≤ ((t.s0.rd + s.size : Nat) : Int) := by omega
  have j6 : ((t.s0.rd + s.size : Nat) : Int) ≤ (t.s1.wr.size : Int) := by omega
  have j7 : (0 : Int) ≤ (t.s0.rd : Int) := by omega
  have j4 : ((t.s1.wr.extract t.s0.rd (t.s0.rd + s.size)).toList == s.toList) = false := (Lib.bytes_beq_false_iff _ _).2 H2.out
  clear hr hw hs h1
  generalize t.s0.rd + s.size = z at *
  go_wp2
  go_quiet ((go_at_call 50; exact quiet_left (HLq.out _)))
  go_wp2
  go_ret
  exact ⟨rfl, below_drewN HB.out _⟩

theorem may4_yes_0 (w : World) (b : Nat) (t : Tr) (s : ByteArray) (h : RfAt w b t) (hv : t.s0.live = true) (h0 : t.s0.eof = false) (hr : t.s0.rd ≤ t.s1.wr.size) (hw : t.s1.wr.size ≤ 1048576) (hs : s.size ≤ 4194304) (h1 : s.size ≤ t.s1.wr.size - t.s0.rd) (h2 : t.s1.wr.extract t.s0.rd (t.s0.rd + s.size) = s) :
    Calls Try.prog 34 #[.pointer (some ⟨b, 0, none⟩), .agg #[.int .i64 0, .int .u8 4, .string s]] w fun r w' => r = .returned (.bool true) ∧ Below w.heap.size w w' := by
  have Hv := Lib.hid hv
  clear hv
  have H0 := Lib.hid h0
  clear h0
  have H2 := Lib.hid h2
  clear h2
  have hb0 : Below w.heap.size w w := Below.refl _ _
  have HB := Lib.hid hb0
  clear hb0
  have Ht := Lib.hid h
  clear h
  go_enter Try.func34, Try.ntmps34
  go_upto_region 1 with fail
  have hx := Blk.new w 36 #[.int .i64 0, .int .u8 4, .string s]
  have ht := Blk.alloc Ht.out (.cells #[.int .i64 0, .int .u8 4, .string s] 36)
  clear Ht
  have hB := HB.out.alloc HB.out.size (.cells #[.int .i64 0, .int .u8 4, .string s] 36)
  clear HB
  obtain ⟨gx, hge⟩ : ∃ g, g = w.heap.size := ⟨_, rfl⟩
  rw [← hge] at hx ⊢
  clear hge
  generalize w.alloc _ = w1 at *
  have Ht := Lib.hid ht
  clear ht
  have Hx := Lib.hid hx
  clear hx
  have HB := Lib.hid hB
  clear hB
  have x0 := Hx.out.cell 0
  have x1 := Hx.out.cell 1
  have x2 := Hx.out.cell 2
  simp at x0 x1 x2
  have c0 := Ht.out.cell 0
  have c1 := Ht.out.cell 1
  have c2 := Ht.out.cell 2
  have c3 := Ht.out.cell 3
  have c4 := Ht.out.cell 4
  have c5 := Ht.out.cell 5
  have c6 := Ht.out.cell 6
  have c7 := Ht.out.cell 7
  have c8 := Ht.out.cell 8
  have c9 := Ht.out.cell 9
  have c10 := Ht.out.cell 10
  have c11 := Ht.out.cell 11
  have c12 := Ht.out.cell 12
  simp at c0 c1 c2 c3 c4 c5 c6 c7 c8 c9 c10 c11 c12
  go_upto_region 4 with fail
  clear x0 x1 x2 c0 c1 c2 c3 c4 c5 c6 c7 c8 c9 c10 c11 c12
  have hy := Blk.new w1 29 #[.bool t.s0.opn, .string t.s0.wr, .int .i64 (t.s0.rd : Int), .bool t.s0.cl, .bool t.s0.eof, .bool t.s0.dd]
  have ht := Blk.alloc Ht.out (.cells #[.bool t.s0.opn, .string t.s0.wr, .int .i64 (t.s0.rd : Int), .bool t.s0.cl, .bool t.s0.eof, .bool t.s0.dd] 29)
  clear Ht
  have hx := Blk.alloc Hx.out (.cells #[.bool t.s0.opn, .string t.s0.wr, .int .i64 (t.s0.rd : Int), .bool t.s0.cl, .bool t.s0.eof, .bool t.s0.dd] 29)
  clear Hx
  have hB := HB.out.alloc HB.out.size (.cells #[.bool t.s0.opn, .string t.s0.wr, .int .i64 (t.s0.rd : Int), .bool t.s0.cl, .bool t.s0.eof, .bool t.s0.dd] 29)
  clear HB
  obtain ⟨gy, hge⟩ : ∃ g, g = w1.heap.size := ⟨_, rfl⟩
  rw [← hge] at hy ⊢
  clear hge
  generalize w1.alloc _ = w2 at *
  have Ht := Lib.hid ht
  clear ht
  have Hx := Lib.hid hx
  clear hx
  have Hy := Lib.hid hy
  clear hy
  have HB := Lib.hid hB
  clear hB
  have x0 := Hx.out.cell 0
  have x1 := Hx.out.cell 1
  have x2 := Hx.out.cell 2
  simp at x0 x1 x2
  have y0 := Hy.out.cell 0
  have y1 := Hy.out.cell 1
  have y2 := Hy.out.cell 2
  have y3 := Hy.out.cell 3
  have y4 := Hy.out.cell 4
  have y5 := Hy.out.cell 5
  simp at y0 y1 y2 y3 y4 y5
  have c0 := Ht.out.cell 0
  have c1 := Ht.out.cell 1
  have c2 := Ht.out.cell 2
  have c3 := Ht.out.cell 3
  have c4 := Ht.out.cell 4
  have c5 := Ht.out.cell 5
  have c6 := Ht.out.cell 6
  have c7 := Ht.out.cell 7
  have c8 := Ht.out.cell 8
  have c9 := Ht.out.cell 9
  have c10 := Ht.out.cell 10
  have c11 := Ht.out.cell 11
  have c12 := Ht.out.cell 12
  simp at c0 c1 c2 c3 c4 c5 c6 c7 c8 c9 c10 c11 c12
  have hl := fun W (a0 : W.cell? ⟨b, 0, none⟩ = some (.bool t.s0.opn)) (a5 : W.cell? ⟨b, 5, none⟩ = some (.bool t.s0.dd)) => rlive_0 W b _ _ a0 a5
  rw [show (t.s0.opn && !t.s0.dd) = true from Hv.out] at hl
  have HL := Lib.hid (hl w2 c0 c5)
  have HLq := Lib.hid (fun n => hl (w2.drewN n) c0 c5)
  clear hl
  rw [H0.out] at y4
  have j1 : IntKind.i64.wrap ((t.s1.wr.size : Int) - (t.s0.rd : Int)) = (t.s1.wr.size : Int) - (t.s0.rd : Int) := IntWalk.i64_in _ (by omega)
  have j2 : IntKind.i64.wrap ((t.s0.rd : Int) + (s.size : Int)) = ((t.s0.rd + s.size : Nat) : Int) := by rw [IntWalk.i64_in _ (by omega)]; omega
  have j3 : decide ((s.size : Int) ≤ (t.s1.wr.size : Int) - (t.s0.rd : Int)) = true := decide_eq_true (by omega)
  have j5 : (t.s0.rd : Int) ≤ ((t.s0.rd + s.size : Nat) : Int) := by omega
  have j6 : ((t.s0.rd + s.size : Nat) : Int) ≤ (t.s1.wr.size : Int) := by omega
  have j7 : (0 : Int) ≤ (t.s0.rd : Int) := by omega
  have j4 := H2.out
  clear hr hw hs h1
  generalize t.s0.rd + s.size = z at *
  go_wp2
  go_quiet ((go_at_call 50; exact quiet_left (HLq.out _)))
  go_wp2
  go_ret
  exact ⟨rfl, below_drewN HB.out _⟩

theorem may6_dead_0 (w : World) (b : Nat) (t : Tr) (s : ByteArray) (h : RfAt w b t) (hv : t.s0.live = false) :
    Calls Try.prog 34 #[.pointer (some ⟨b, 0, none⟩), .agg #[.int .i64 0, .int .u8 6, .string s]] w fun r w' => r = .returned (.bool false) ∧ Below w.heap.size w w' := by
  have Hv := Lib.hid hv
  clear hv
  have hb0 : Below w.heap.size w w := Below.refl _ _
  have HB := Lib.hid hb0
  clear hb0
  have Ht := Lib.hid h
  clear h
  go_enter Try.func34, Try.ntmps34
  go_upto_region 1 with fail
  have hx := Blk.new w 36 #[.int .i64 0, .int .u8 6, .string s]
  have ht := Blk.alloc Ht.out (.cells #[.int .i64 0, .int .u8 6, .string s] 36)
  clear Ht
  have hB := HB.out.alloc HB.out.size (.cells #[.int .i64 0, .int .u8 6, .string s] 36)
  clear HB
  obtain ⟨gx, hge⟩ : ∃ g, g = w.heap.size := ⟨_, rfl⟩
  rw [← hge] at hx ⊢
  clear hge
  generalize w.alloc _ = w1 at *
  have Ht := Lib.hid ht
  clear ht
  have Hx := Lib.hid hx
  clear hx
  have HB := Lib.hid hB
  clear hB
  have x0 := Hx.out.cell 0
  have x1 := Hx.out.cell 1
  have x2 := Hx.out.cell 2
  simp at x0 x1 x2
  have c0 := Ht.out.cell 0
  have c1 := Ht.out.cell 1
  have c2 := Ht.out.cell 2
  have c3 := Ht.out.cell 3
  have c4 := Ht.out.cell 4
  have c5 := Ht.out.cell 5
  have c6 := Ht.out.cell 6
  have c7 := Ht.out.cell 7
  have c8 := Ht.out.cell 8
  have c9 := Ht.out.cell 9
  have c10 := Ht.out.cell 10
  have c11 := Ht.out.cell 11
  have c12 := Ht.out.cell 12
  simp at c0 c1 c2 c3 c4 c5 c6 c7 c8 c9 c10 c11 c12
  go_upto_region 4 with fail
  clear x0 x1 x2 c0 c1 c2 c3 c4 c5 c6 c7 c8 c9 c10 c11 c12
  have hy := Blk.new w1 29 #[.bool t.s0.opn, .string t.s0.wr, .int .i64 (t.s0.rd : Int), .bool t.s0.cl, .bool t.s0.eof, .bool t.s0.dd]
  have ht := Blk.alloc Ht.out (.cells #[.bool t.s0.opn, .string t.s0.wr, .int .i64 (t.s0.rd : Int), .bool t.s0.cl, .bool t.s0.eof, .bool t.s0.dd] 29)
  clear Ht
  have hx := Blk.alloc Hx.out (.cells #[.bool t.s0.opn, .string t.s0.wr, .int .i64 (t.s0.rd : Int), .bool t.s0.cl, .bool t.s0.eof, .bool t.s0.dd] 29)
  clear Hx
  have hB := HB.out.alloc HB.out.size (.cells #[.bool t.s0.opn, .string t.s0.wr, .int .i64 (t.s0.rd : Int), .bool t.s0.cl, .bool t.s0.eof, .bool t.s0.dd] 29)
  clear HB
  obtain ⟨gy, hge⟩ : ∃ g, g = w1.heap.size := ⟨_, rfl⟩
  rw [← hge] at hy ⊢
  clear hge
  generalize w1.alloc _ = w2 at *
  have Ht := Lib.hid ht
  clear ht
  have Hx := Lib.hid hx
  clear hx
  have Hy := Lib.hid hy
  clear hy
  have HB := Lib.hid hB
  clear hB
  have x0 := Hx.out.cell 0
  have x1 := Hx.out.cell 1
  have x2 := Hx.out.cell 2
  simp at x0 x1 x2
  have y0 := Hy.out.cell 0
  have y1 := Hy.out.cell 1
  have y2 := Hy.out.cell 2
  have y3 := Hy.out.cell 3
  have y4 := Hy.out.cell 4
  have y5 := Hy.out.cell 5
  simp at y0 y1 y2 y3 y4 y5
  have c0 := Ht.out.cell 0
  have c1 := Ht.out.cell 1
  have c2 := Ht.out.cell 2
  have c3 := Ht.out.cell 3
  have c4 := Ht.out.cell 4
  have c5 := Ht.out.cell 5
  have c6 := Ht.out.cell 6
  have c7 := Ht.out.cell 7
  have c8 := Ht.out.cell 8
  have c9 := Ht.out.cell 9
  have c10 := Ht.out.cell 10
  have c11 := Ht.out.cell 11
  have c12 := Ht.out.cell 12
  simp at c0 c1 c2 c3 c4 c5 c6 c7 c8 c9 c10 c11 c12
  have hl := fun W (a0 : W.cell? ⟨b, 0, none⟩ = some (.bool t.s0.opn)) (a5 : W.cell? ⟨b, 5, none⟩ = some (.bool t.s0.dd)) => rlive_0 W b _ _ a0 a5
  rw [show (t.s0.opn && !t.s0.dd) = false from Hv.out] at hl
  have HL := Lib.hid (hl w2 c0 c5)
  have HLq := Lib.hid (fun n => hl (w2.drewN n) c0 c5)
  clear hl
  go_wp2
  go_quiet ((go_at_call 50; exact quiet_left (HLq.out _)))
  go_wp2
  go_ret
  exact ⟨rfl, below_drewN HB.out _⟩

theorem may6_eof_0 (w : World) (b : Nat) (t : Tr) (s : ByteArray) (h : RfAt w b t) (hv : t.s0.live = true) (h0 : t.s0.eof = true) :
    Calls Try.prog 34 #[.pointer (some ⟨b, 0, none⟩), .agg #[.int .i64 0, .int .u8 6, .string s]] w fun r w' => r = .returned (.bool false) ∧ Below w.heap.size w w' := by
  have Hv := Lib.hid hv
  clear hv
  have H0 := Lib.hid h0
  clear h0
  have hb0 : Below w.heap.size w w := Below.refl _ _
  have HB := Lib.hid hb0
  clear hb0
  have Ht := Lib.hid h
  clear h
  go_enter Try.func34, Try.ntmps34
  go_upto_region 1 with fail
  have hx := Blk.new w 36 #[.int .i64 0, .int .u8 6, .string s]
  have ht := Blk.alloc Ht.out (.cells #[.int .i64 0, .int .u8 6, .string s] 36)
  clear Ht
  have hB := HB.out.alloc HB.out.size (.cells #[.int .i64 0, .int .u8 6, .string s] 36)
  clear HB
  obtain ⟨gx, hge⟩ : ∃ g, g = w.heap.size := ⟨_, rfl⟩
  rw [← hge] at hx ⊢
  clear hge
  generalize w.alloc _ = w1 at *
  have Ht := Lib.hid ht
  clear ht
  have Hx := Lib.hid hx
  clear hx
  have HB := Lib.hid hB
  clear hB
  have x0 := Hx.out.cell 0
  have x1 := Hx.out.cell 1
  have x2 := Hx.out.cell 2
  simp at x0 x1 x2
  have c0 := Ht.out.cell 0
  have c1 := Ht.out.cell 1
  have c2 := Ht.out.cell 2
  have c3 := Ht.out.cell 3
  have c4 := Ht.out.cell 4
  have c5 := Ht.out.cell 5
  have c6 := Ht.out.cell 6
  have c7 := Ht.out.cell 7
  have c8 := Ht.out.cell 8
  have c9 := Ht.out.cell 9
  have c10 := Ht.out.cell 10
  have c11 := Ht.out.cell 11
  have c12 := Ht.out.cell 12
  simp at c0 c1 c2 c3 c4 c5 c6 c7 c8 c9 c10 c11 c12
  go_upto_region 4 with fail
  clear x0 x1 x2 c0 c1 c2 c3 c4 c5 c6 c7 c8 c9 c10 c11 c12
  have hy := Blk.new w1 29 #[.bool t.s0.opn, .string t.s0.wr, .int .i64 (t.s0.rd : Int), .bool t.s0.cl, .bool t.s0.eof, .bool t.s0.dd]
  have ht := Blk.alloc Ht.out (.cells #[.bool t.s0.opn, .string t.s0.wr, .int .i64 (t.s0.rd : Int), .bool t.s0.cl, .bool t.s0.eof, .bool t.s0.dd] 29)
  clear Ht
  have hx := Blk.alloc Hx.out (.cells #[.bool t.s0.opn, .string t.s0.wr, .int .i64 (t.s0.rd : Int), .bool t.s0.cl, .bool t.s0.eof, .bool t.s0.dd] 29)
  clear Hx
  have hB := HB.out.alloc HB.out.size (.cells #[.bool t.s0.opn, .string t.s0.wr, .int .i64 (t.s0.rd : Int), .bool t.s0.cl, .bool t.s0.eof, .bool t.s0.dd] 29)
  clear HB
  obtain ⟨gy, hge⟩ : ∃ g, g = w1.heap.size := ⟨_, rfl⟩
  rw [← hge] at hy ⊢
  clear hge
  generalize w1.alloc _ = w2 at *
  have Ht := Lib.hid ht
  clear ht
  have Hx := Lib.hid hx
  clear hx
  have Hy := Lib.hid hy
  clear hy
  have HB := Lib.hid hB
  clear hB
  have x0 := Hx.out.cell 0
  have x1 := Hx.out.cell 1
  have x2 := Hx.out.cell 2
  simp at x0 x1 x2
  have y0 := Hy.out.cell 0
  have y1 := Hy.out.cell 1
  have y2 := Hy.out.cell 2
  have y3 := Hy.out.cell 3
  have y4 := Hy.out.cell 4
  have y5 := Hy.out.cell 5
  simp at y0 y1 y2 y3 y4 y5
  have c0 := Ht.out.cell 0
  have c1 := Ht.out.cell 1
  have c2 := Ht.out.cell 2
  have c3 := Ht.out.cell 3
  have c4 := Ht.out.cell 4
  have c5 := Ht.out.cell 5
  have c6 := Ht.out.cell 6
  have c7 := Ht.out.cell 7
  have c8 := Ht.out.cell 8
  have c9 := Ht.out.cell 9
  have c10 := Ht.out.cell 10
  have c11 := Ht.out.cell 11
  have c12 := Ht.out.cell 12
  simp at c0 c1 c2 c3 c4 c5 c6 c7 c8 c9 c10 c11 c12
  have hl := fun W (a0 : W.cell? ⟨b, 0, none⟩ = some (.bool t.s0.opn)) (a5 : W.cell? ⟨b, 5, none⟩ = some (.bool t.s0.dd)) => rlive_0 W b _ _ a0 a5
  rw [show (t.s0.opn && !t.s0.dd) = true from Hv.out] at hl
  have HL := Lib.hid (hl w2 c0 c5)
  have HLq := Lib.hid (fun n => hl (w2.drewN n) c0 c5)
  clear hl
  rw [H0.out] at y4
  go_wp2
  go_quiet ((go_at_call 50; exact quiet_left (HLq.out _)))
  go_wp2
  go_ret
  exact ⟨rfl, below_drewN HB.out _⟩

theorem may6_open_0 (w : World) (b : Nat) (t : Tr) (s : ByteArray) (h : RfAt w b t) (hv : t.s0.live = true) (h0 : t.s0.eof = false) (h1 : t.s1.cl = false) :
    Calls Try.prog 34 #[.pointer (some ⟨b, 0, none⟩), .agg #[.int .i64 0, .int .u8 6, .string s]] w fun r w' => r = .returned (.bool false) ∧ Below w.heap.size w w' := by
  have Hv := Lib.hid hv
  clear hv
  have H0 := Lib.hid h0
  clear h0
  have H1 := Lib.hid h1
  clear h1
  have hb0 : Below w.heap.size w w := Below.refl _ _
  have HB := Lib.hid hb0
  clear hb0
  have Ht := Lib.hid h
  clear h
  go_enter Try.func34, Try.ntmps34
  go_upto_region 1 with fail
  have hx := Blk.new w 36 #[.int .i64 0, .int .u8 6, .string s]
  have ht := Blk.alloc Ht.out (.cells #[.int .i64 0, .int .u8 6, .string s] 36)
  clear Ht
  have hB := HB.out.alloc HB.out.size (.cells #[.int .i64 0, .int .u8 6, .string s] 36)
  clear HB
  obtain ⟨gx, hge⟩ : ∃ g, g = w.heap.size := ⟨_, rfl⟩
  rw [← hge] at hx ⊢
  clear hge
  generalize w.alloc _ = w1 at *
  have Ht := Lib.hid ht
  clear ht
  have Hx := Lib.hid hx
  clear hx
  have HB := Lib.hid hB
  clear hB
  have x0 := Hx.out.cell 0
  have x1 := Hx.out.cell 1
  have x2 := Hx.out.cell 2
  simp at x0 x1 x2
  have c0 := Ht.out.cell 0
  have c1 := Ht.out.cell 1
  have c2 := Ht.out.cell 2
  have c3 := Ht.out.cell 3
  have c4 := Ht.out.cell 4
  have c5 := Ht.out.cell 5
  have c6 := Ht.out.cell 6
  have c7 := Ht.out.cell 7
  have c8 := Ht.out.cell 8
  have c9 := Ht.out.cell 9
  have c10 := Ht.out.cell 10
  have c11 := Ht.out.cell 11
  have c12 := Ht.out.cell 12
  simp at c0 c1 c2 c3 c4 c5 c6 c7 c8 c9 c10 c11 c12
  go_upto_region 4 with fail
  clear x0 x1 x2 c0 c1 c2 c3 c4 c5 c6 c7 c8 c9 c10 c11 c12
  have hy := Blk.new w1 29 #[.bool t.s0.opn, .string t.s0.wr, .int .i64 (t.s0.rd : Int), .bool t.s0.cl, .bool t.s0.eof, .bool t.s0.dd]
  have ht := Blk.alloc Ht.out (.cells #[.bool t.s0.opn, .string t.s0.wr, .int .i64 (t.s0.rd : Int), .bool t.s0.cl, .bool t.s0.eof, .bool t.s0.dd] 29)
  clear Ht
  have hx := Blk.alloc Hx.out (.cells #[.bool t.s0.opn, .string t.s0.wr, .int .i64 (t.s0.rd : Int), .bool t.s0.cl, .bool t.s0.eof, .bool t.s0.dd] 29)
  clear Hx
  have hB := HB.out.alloc HB.out.size (.cells #[.bool t.s0.opn, .string t.s0.wr, .int .i64 (t.s0.rd : Int), .bool t.s0.cl, .bool t.s0.eof, .bool t.s0.dd] 29)
  clear HB
  obtain ⟨gy, hge⟩ : ∃ g, g = w1.heap.size := ⟨_, rfl⟩
  rw [← hge] at hy ⊢
  clear hge
  generalize w1.alloc _ = w2 at *
  have Ht := Lib.hid ht
  clear ht
  have Hx := Lib.hid hx
  clear hx
  have Hy := Lib.hid hy
  clear hy
  have HB := Lib.hid hB
  clear hB
  have x0 := Hx.out.cell 0
  have x1 := Hx.out.cell 1
  have x2 := Hx.out.cell 2
  simp at x0 x1 x2
  have y0 := Hy.out.cell 0
  have y1 := Hy.out.cell 1
  have y2 := Hy.out.cell 2
  have y3 := Hy.out.cell 3
  have y4 := Hy.out.cell 4
  have y5 := Hy.out.cell 5
  simp at y0 y1 y2 y3 y4 y5
  have c0 := Ht.out.cell 0
  have c1 := Ht.out.cell 1
  have c2 := Ht.out.cell 2
  have c3 := Ht.out.cell 3
  have c4 := Ht.out.cell 4
  have c5 := Ht.out.cell 5
  have c6 := Ht.out.cell 6
  have c7 := Ht.out.cell 7
  have c8 := Ht.out.cell 8
  have c9 := Ht.out.cell 9
  have c10 := Ht.out.cell 10
  have c11 := Ht.out.cell 11
  have c12 := Ht.out.cell 12
  simp at c0 c1 c2 c3 c4 c5 c6 c7 c8 c9 c10 c11 c12
  have hl := fun W (a0 : W.cell? ⟨b, 0, none⟩ = some (.bool t.s0.opn)) (a5 : W.cell? ⟨b, 5, none⟩ = some (.bool t.s0.dd)) => rlive_0 W b _ _ a0 a5
  rw [show (t.s0.opn && !t.s0.dd) = true from Hv.out] at hl
  have HL := Lib.hid (hl w2 c0 c5)
  have HLq := Lib.hid (fun n => hl (w2.drewN n) c0 c5)
  clear hl
  rw [H0.out] at y4
  rw [H1.out] at c9
  go_wp2
  go_quiet ((go_at_call 50; exact quiet_left (HLq.out _)))
  go_wp2
  go_ret
  exact ⟨rfl, below_drewN HB.out _⟩

theorem may6_less_0 (w : World) (b : Nat) (t : Tr) (s : ByteArray) (h : RfAt w b t) (hv : t.s0.live = true) (h0 : t.s0.eof = false) (h1 : t.s1.cl = true) (h2 : t.s0.rd ≠ t.s1.wr.size) :
    Calls Try.prog 34 #[.pointer (some ⟨b, 0, none⟩), .agg #[.int .i64 0, .int .u8 6, .string s]] w fun r w' => r = .returned (.bool false) ∧ Below w.heap.size w w' := by
  have Hv := Lib.hid hv
  clear hv
  have H0 := Lib.hid h0
  clear h0
  have H1 := Lib.hid h1
  clear h1
  have H2 := Lib.hid h2
  clear h2
  have hb0 : Below w.heap.size w w := Below.refl _ _
  have HB := Lib.hid hb0
  clear hb0
  have Ht := Lib.hid h
  clear h
  go_enter Try.func34, Try.ntmps34
  go_upto_region 1 with fail
  have hx := Blk.new w 36 #[.int .i64 0, .int .u8 6, .string s]
  have ht := Blk.alloc Ht.out (.cells #[.int .i64 0, .int .u8 6, .string s] 36)
  clear Ht
  have hB := HB.out.alloc HB.out.size (.cells #[.int .i64 0, .int .u8 6, .string s] 36)
  clear HB
  obtain ⟨gx, hge⟩ : ∃ g, g = w.heap.size := ⟨_, rfl⟩
  rw [← hge] at hx ⊢
  clear hge
  generalize w.alloc _ = w1 at *
  have Ht := Lib.hid ht
  clear ht
  have Hx := Lib.hid hx
  clear hx
  have HB := Lib.hid hB
  clear hB
  have x0 := Hx.out.cell 0
  have x1 := Hx.out.cell 1
  have x2 := Hx.out.cell 2
  simp at x0 x1 x2
  have c0 := Ht.out.cell 0
  have c1 := Ht.out.cell 1
  have c2 := Ht.out.cell 2
  have c3 := Ht.out.cell 3
  have c4 := Ht.out.cell 4
  have c5 := Ht.out.cell 5
  have c6 := Ht.out.cell 6
  have c7 := Ht.out.cell 7
  have c8 := Ht.out.cell 8
  have c9 := Ht.out.cell 9
  have c10 := Ht.out.cell 10
  have c11 := Ht.out.cell 11
  have c12 := Ht.out.cell 12
  simp at c0 c1 c2 c3 c4 c5 c6 c7 c8 c9 c10 c11 c12
  go_upto_region 4 with fail
  clear x0 x1 x2 c0 c1 c2 c3 c4 c5 c6 c7 c8 c9 c10 c11 c12
  have hy := Blk.new w1 29 #[.bool t.s0.opn, .string t.s0.wr, .int .i64 (t.s0.rd : Int), .bool t.s0.cl, .bool t.s0.eof, .bool t.s0.dd]
  have ht := Blk.alloc Ht.out (.cells #[.bool t.s0.opn, .string t.s0.wr, .int .i64 (t.s0.rd : Int), .bool t.s0.cl, .bool t.s0.eof, .bool t.s0.dd] 29)
  clear Ht
  have hx := Blk.alloc Hx.out (.cells #[.bool t.s0.opn, .string t.s0.wr, .int .i64 (t.s0.rd : Int), .bool t.s0.cl, .bool t.s0.eof, .bool t.s0.dd] 29)
  clear Hx
  have hB := HB.out.alloc HB.out.size (.cells #[.bool t.s0.opn, .string t.s0.wr, .int .i64 (t.s0.rd : Int), .bool t.s0.cl, .bool t.s0.eof, .bool t.s0.dd] 29)
  clear HB
  obtain ⟨gy, hge⟩ : ∃ g, g = w1.heap.size := ⟨_, rfl⟩
  rw [← hge] at hy ⊢
  clear hge
  generalize w1.alloc _ = w2 at *
  have Ht := Lib.hid ht
  clear ht
  have Hx := Lib.hid hx
  clear hx
  have Hy := Lib.hid hy
  clear hy
  have HB := Lib.hid hB
  clear hB
  have x0 := Hx.out.cell 0
  have x1 := Hx.out.cell 1
  have x2 := Hx.out.cell 2
  simp at x0 x1 x2
  have y0 := Hy.out.cell 0
  have y1 := Hy.out.cell 1
  have y2 := Hy.out.cell 2
  have y3 := Hy.out.cell 3
  have y4 := Hy.out.cell 4
  have y5 := Hy.out.cell 5
  simp at y0 y1 y2 y3 y4 y5
  have c0 := Ht.out.cell 0
  have c1 := Ht.out.cell 1
  have c2 := Ht.out.cell 2
  have c3 := Ht.out.cell 3
  have c4 := Ht.out.cell 4
  have c5 := Ht.out.cell 5
  have c6 := Ht.out.cell 6
  have c7 := Ht.out.cell 7
  have c8 := Ht.out.cell 8
  have c9 := Ht.out.cell 9
  have c10 := Ht.out.cell 10
  have c11 := Ht.out.cell 11
  have c12 := Ht.out.cell 12
  simp at c0 c1 c2 c3 c4 c5 c6 c7 c8 c9 c10 c11 c12
  have hl := fun W (a0 : W.cell? ⟨b, 0, none⟩ = some (.bool t.s0.opn)) (a5 : W.cell? ⟨b, 5, none⟩ = some (.bool t.s0.dd)) => rlive_0 W b _ _ a0 a5
  rw [show (t.s0.opn && !t.s0.dd) = true from Hv.out] at hl
  have HL := Lib.hid (hl w2 c0 c5)
  have HLq := Lib.hid (fun n => hl (w2.drewN n) c0 c5)
  clear hl
  rw [H0.out] at y4
  rw [H1.out] at c9
  have j1 : ((t.s0.rd : Int) == (t.s1.wr.size : Int)) = false := by simp; have := H2.out; omega
  skip
  go_wp2
  go_quiet ((go_at_call 50; exact quiet_left (HLq.out _)))
  go_wp2
  go_ret
  exact ⟨rfl, below_drewN HB.out _⟩

theorem may6_yes_0 (w : World) (b : Nat) (t : Tr) (s : ByteArray) (h : RfAt w b t) (hv : t.s0.live = true) (h0 : t.s0.eof = false) (h1 : t.s1.cl = true) (h2 : t.s0.rd = t.s1.wr.size) :
    Calls Try.prog 34 #[.pointer (some ⟨b, 0, none⟩), .agg #[.int .i64 0, .int .u8 6, .string s]] w fun r w' => r = .returned (.bool true) ∧ Below w.heap.size w w' := by
  have Hv := Lib.hid hv
  clear hv
  have H0 := Lib.hid h0
  clear h0
  have H1 := Lib.hid h1
  clear h1
  have H2 := Lib.hid h2
  clear h2
  have hb0 : Below w.heap.size w w := Below.refl _ _
  have HB := Lib.hid hb0
  clear hb0
  have Ht := Lib.hid h
  clear h
  go_enter Try.func34, Try.ntmps34
  go_upto_region 1 with fail
  have hx := Blk.new w 36 #[.int .i64 0, .int .u8 6, .string s]
  have ht := Blk.alloc Ht.out (.cells #[.int .i64 0, .int .u8 6, .string s] 36)
  clear Ht
  have hB := HB.out.alloc HB.out.size (.cells #[.int .i64 0, .int .u8 6, .string s] 36)
  clear HB
  obtain ⟨gx, hge⟩ : ∃ g, g = w.heap.size := ⟨_, rfl⟩
  rw [← hge] at hx ⊢
  clear hge
  generalize w.alloc _ = w1 at *
  have Ht := Lib.hid ht
  clear ht
  have Hx := Lib.hid hx
  clear hx
  have HB := Lib.hid hB
  clear hB
  have x0 := Hx.out.cell 0
  have x1 := Hx.out.cell 1
  have x2 := Hx.out.cell 2
  simp at x0 x1 x2
  have c0 := Ht.out.cell 0
  have c1 := Ht.out.cell 1
  have c2 := Ht.out.cell 2
  have c3 := Ht.out.cell 3
  have c4 := Ht.out.cell 4
  have c5 := Ht.out.cell 5
  have c6 := Ht.out.cell 6
  have c7 := Ht.out.cell 7
  have c8 := Ht.out.cell 8
  have c9 := Ht.out.cell 9
  have c10 := Ht.out.cell 10
  have c11 := Ht.out.cell 11
  have c12 := Ht.out.cell 12
  simp at c0 c1 c2 c3 c4 c5 c6 c7 c8 c9 c10 c11 c12
  go_upto_region 4 with fail
  clear x0 x1 x2 c0 c1 c2 c3 c4 c5 c6 c7 c8 c9 c10 c11 c12
  have hy := Blk.new w1 29 #[.bool t.s0.opn, .string t.s0.wr, .int .i64 (t.s0.rd : Int), .bool t.s0.cl, .bool t.s0.eof, .bool t.s0.dd]
  have ht := Blk.alloc Ht.out (.cells #[.bool t.s0.opn, .string t.s0.wr, .int .i64 (t.s0.rd : Int), .bool t.s0.cl, .bool t.s0.eof, .bool t.s0.dd] 29)
  clear Ht
  have hx := Blk.alloc Hx.out (.cells #[.bool t.s0.opn, .string t.s0.wr, .int .i64 (t.s0.rd : Int), .bool t.s0.cl, .bool t.s0.eof, .bool t.s0.dd] 29)
  clear Hx
  have hB := HB.out.alloc HB.out.size (.cells #[.bool t.s0.opn, .string t.s0.wr, .int .i64 (t.s0.rd : Int), .bool t.s0.cl, .bool t.s0.eof, .bool t.s0.dd] 29)
  clear HB
  obtain ⟨gy, hge⟩ : ∃ g, g = w1.heap.size := ⟨_, rfl⟩
  rw [← hge] at hy ⊢
  clear hge
  generalize w1.alloc _ = w2 at *
  have Ht := Lib.hid ht
  clear ht
  have Hx := Lib.hid hx
  clear hx
  have Hy := Lib.hid hy
  clear hy
  have HB := Lib.hid hB
  clear hB
  have x0 := Hx.out.cell 0
  have x1 := Hx.out.cell 1
  have x2 := Hx.out.cell 2
  simp at x0 x1 x2
  have y0 := Hy.out.cell 0
  have y1 := Hy.out.cell 1
  have y2 := Hy.out.cell 2
  have y3 := Hy.out.cell 3
  have y4 := Hy.out.cell 4
  have y5 := Hy.out.cell 5
  simp at y0 y1 y2 y3 y4 y5
  have c0 := Ht.out.cell 0
  have c1 := Ht.out.cell 1
  have c2 := Ht.out.cell 2
  have c3 := Ht.out.cell 3
  have c4 := Ht.out.cell 4
  have c5 := Ht.out.cell 5
  have c6 := Ht.out.cell 6
  have c7 := Ht.out.cell 7
  have c8 := Ht.out.cell 8
  have c9 := Ht.out.cell 9
  have c10 := Ht.out.cell 10
  have c11 := Ht.out.cell 11
  have c12 := Ht.out.cell 12
  simp at c0 c1 c2 c3 c4 c5 c6 c7 c8 c9 c10 c11 c12
  have hl := fun W (a0 : W.cell? ⟨b, 0, none⟩ = some (.bool t.s0.opn)) (a5 : W.cell? ⟨b, 5, none⟩ = some (.bool t.s0.dd)) => rlive_0 W b _ _ a0 a5
  rw [show (t.s0.opn && !t.s0.dd) = true from Hv.out] at hl
  have HL := Lib.hid (hl w2 c0 c5)
  have HLq := Lib.hid (fun n => hl (w2.drewN n) c0 c5)
  clear hl
  rw [H0.out] at y4
  rw [H1.out] at c9
  rw [H2.out] at y2
  skip
  go_wp2
  go_quiet ((go_at_call 50; exact quiet_left (HLq.out _)))
  go_wp2
  go_ret
  exact ⟨rfl, below_drewN HB.out _⟩

theorem may7_no_0 (w : World) (b : Nat) (t : Tr) (s : ByteArray) (h : RfAt w b t) (hv : t.s0.live = false) :
    Calls Try.prog 34 #[.pointer (some ⟨b, 0, none⟩), .agg #[.int .i64 0, .int .u8 7, .string s]] w fun r w' => r = .returned (.bool false) ∧ Below w.heap.size w w' := by
  have Hv := Lib.hid hv
  clear hv
  have hb0 : Below w.heap.size w w := Below.refl _ _
  have HB := Lib.hid hb0
  clear hb0
  have Ht := Lib.hid h
  clear h
  go_enter Try.func34, Try.ntmps34
  go_upto_region 1 with fail
  have hx := Blk.new w 36 #[.int .i64 0, .int .u8 7, .string s]
  have ht := Blk.alloc Ht.out (.cells #[.int .i64 0, .int .u8 7, .string s] 36)
  clear Ht
  have hB := HB.out.alloc HB.out.size (.cells #[.int .i64 0, .int .u8 7, .string s] 36)
  clear HB
  obtain ⟨gx, hge⟩ : ∃ g, g = w.heap.size := ⟨_, rfl⟩
  rw [← hge] at hx ⊢
  clear hge
  generalize w.alloc _ = w1 at *
  have Ht := Lib.hid ht
  clear ht
  have Hx := Lib.hid hx
  clear hx
  have HB := Lib.hid hB
  clear hB
  have x0 := Hx.out.cell 0
  have x1 := Hx.out.cell 1
  have x2 := Hx.out.cell 2
  simp at x0 x1 x2
  have c0 := Ht.out.cell 0
  have c1 := Ht.out.cell 1
  have c2 := Ht.out.cell 2
  have c3 := Ht.out.cell 3
  have c4 := Ht.out.cell 4
  have c5 := Ht.out.cell 5
  have c6 := Ht.out.cell 6
  have c7 := Ht.out.cell 7
  have c8 := Ht.out.cell 8
  have c9 := Ht.out.cell 9
  have c10 := Ht.out.cell 10
  have c11 := Ht.out.cell 11
  have c12 := Ht.out.cell 12
  simp at c0 c1 c2 c3 c4 c5 c6 c7 c8 c9 c10 c11 c12
  go_upto_region 4 with fail
  clear x0 x1 x2 c0 c1 c2 c3 c4 c5 c6 c7 c8 c9 c10 c11 c12
  have hy := Blk.new w1 29 #[.bool t.s0.opn, .string t.s0.wr, .int .i64 (t.s0.rd : Int), .bool t.s0.cl, .bool t.s0.eof, .bool t.s0.dd]
  have ht := Blk.alloc Ht.out (.cells #[.bool t.s0.opn, .string t.s0.wr, .int .i64 (t.s0.rd : Int), .bool t.s0.cl, .bool t.s0.eof, .bool t.s0.dd] 29)
  clear Ht
  have hx := Blk.alloc Hx.out (.cells #[.bool t.s0.opn, .string t.s0.wr, .int .i64 (t.s0.rd : Int), .bool t.s0.cl, .bool t.s0.eof, .bool t.s0.dd] 29)
  clear Hx
  have hB := HB.out.alloc HB.out.size (.cells #[.bool t.s0.opn, .string t.s0.wr, .int .i64 (t.s0.rd : Int), .bool t.s0.cl, .bool t.s0.eof, .bool t.s0.dd] 29)
  clear HB
  obtain ⟨gy, hge⟩ : ∃ g, g = w1.heap.size := ⟨_, rfl⟩
  rw [← hge] at hy ⊢
  clear hge
  generalize w1.alloc _ = w2 at *
  have Ht := Lib.hid ht
  clear ht
  have Hx := Lib.hid hx
  clear hx
  have Hy := Lib.hid hy
  clear hy
  have HB := Lib.hid hB
  clear hB
  have x0 := Hx.out.cell 0
  have x1 := Hx.out.cell 1
  have x2 := Hx.out.cell 2
  simp at x0 x1 x2
  have y0 := Hy.out.cell 0
  have y1 := Hy.out.cell 1
  have y2 := Hy.out.cell 2
  have y3 := Hy.out.cell 3
  have y4 := Hy.out.cell 4
  have y5 := Hy.out.cell 5
  simp at y0 y1 y2 y3 y4 y5
  have c0 := Ht.out.cell 0
  have c1 := Ht.out.cell 1
  have c2 := Ht.out.cell 2
  have c3 := Ht.out.cell 3
  have c4 := Ht.out.cell 4
  have c5 := Ht.out.cell 5
  have c6 := Ht.out.cell 6
  have c7 := Ht.out.cell 7
  have c8 := Ht.out.cell 8
  have c9 := Ht.out.cell 9
  have c10 := Ht.out.cell 10
  have c11 := Ht.out.cell 11
  have c12 := Ht.out.cell 12
  simp at c0 c1 c2 c3 c4 c5 c6 c7 c8 c9 c10 c11 c12
  have hl := fun W (a0 : W.cell? ⟨b, 0, none⟩ = some (.bool t.s0.opn)) (a5 : W.cell? ⟨b, 5, none⟩ = some (.bool t.s0.dd)) => rlive_0 W b _ _ a0 a5
  rw [show (t.s0.opn && !t.s0.dd) = false from Hv.out] at hl
  have HL := Lib.hid (hl w2 c0 c5)
  have HLq := Lib.hid (fun n => hl (w2.drewN n) c0 c5)
  clear hl
  go_wp2_with fail
  (with_reducible refine (HL.out).mono ?_)
  rintro e w' ⟨rfl, rfl⟩
  go_wp2
  go_ret
  exact ⟨rfl, HB.out⟩

theorem may7_yes_0 (w : World) (b : Nat) (t : Tr) (s : ByteArray) (h : RfAt w b t) (hv : t.s0.live = true) :
    Calls Try.prog 34 #[.pointer (some ⟨b, 0, none⟩), .agg #[.int .i64 0, .int .u8 7, .string s]] w fun r w' => r = .returned (.bool true) ∧ Below w.heap.size w w' := by
  have Hv := Lib.hid hv
  clear hv
  have hb0 : Below w.heap.size w w := Below.refl _ _
  have HB := Lib.hid hb0
  clear hb0
  have Ht := Lib.hid h
  clear h
  go_enter Try.func34, Try.ntmps34
  go_upto_region 1 with fail
  have hx := Blk.new w 36 #[.int .i64 0, .int .u8 7, .string s]
  have ht := Blk.alloc Ht.out (.cells #[.int .i64 0, .int .u8 7, .string s] 36)
  clear Ht
  have hB := HB.out.alloc HB.out.size (.cells #[.int .i64 0, .int .u8 7, .string s] 36)
  clear HB
  obtain ⟨gx, hge⟩ : ∃ g, g = w.heap.size := ⟨_, rfl⟩
  rw [← hge] at hx ⊢
  clear hge
  generalize w.alloc _ = w1 at *
  have Ht := Lib.hid ht
  clear ht
  have Hx := Lib.hid hx
  clear hx
  have HB := Lib.hid hB
  clear hB
  have x0 := Hx.out.cell 0
  have x1 := Hx.out.cell 1
  have x2 := Hx.out.cell 2
  simp at x0 x1 x2
  have c0 := Ht.out.cell 0
  have c1 := Ht.out.cell 1
  have c2 := Ht.out.cell 2
  have c3 := Ht.out.cell 3
  have c4 := Ht.out.cell 4
  have c5 := Ht.out.cell 5
  have c6 := Ht.out.cell 6
  have c7 := Ht.out.cell 7
  have c8 := Ht.out.cell 8
  have c9 := Ht.out.cell 9
  have c10 := Ht.out.cell 10
  have c11 := Ht.out.cell 11
  have c12 := Ht.out.cell 12
  simp at c0 c1 c2 c3 c4 c5 c6 c7 c8 c9 c10 c11 c12
  go_upto_region 4 with fail
  clear x0 x1 x2 c0 c1 c2 c3 c4 c5 c6 c7 c8 c9 c10 c11 c12
  have hy := Blk.new w1 29 #[.bool t.s0.opn, .string t.s0.wr, .int .i64 (t.s0.rd : Int), .bool t.s0.cl, .bool t.s0.eof, .bool t.s0.dd]
  have ht := Blk.alloc Ht.out (.cells #[.bool t.s0.opn, .string t.s0.wr, .int .i64 (t.s0.rd : Int), .bool t.s0.cl, .bool t.s0.eof, .bool t.s0.dd] 29)
  clear Ht
  have hx := Blk.alloc Hx.out (.cells #[.bool t.s0.opn, .string t.s0.wr, .int .i64 (t.s0.rd : Int), .bool t.s0.cl, .bool t.s0.eof, .bool t.s0.dd] 29)
  clear Hx
  have hB := HB.out.alloc HB.out.size (.cells #[.bool t.s0.opn, .string t.s0.wr, .int .i64 (t.s0.rd : Int), .bool t.s0.cl, .bool t.s0.eof, .bool t.s0.dd] 29)
  clear HB
  obtain ⟨gy, hge⟩ : ∃ g, g = w1.heap.size := ⟨_, rfl⟩
  rw [← hge] at hy ⊢
  clear hge
  generalize w1.alloc _ = w2 at *
  have Ht := Lib.hid ht
  clear ht
  have Hx := Lib.hid hx
  clear hx
  have Hy := Lib.hid hy
  clear hy
  have HB := Lib.hid hB
  clear hB
  have x0 := Hx.out.cell 0
  have x1 := Hx.out.cell 1
  have x2 := Hx.out.cell 2
  simp at x0 x1 x2
  have y0 := Hy.out.cell 0
  have y1 := Hy.out.cell 1
  have y2 := Hy.out.cell 2
  have y3 := Hy.out.cell 3
  have y4 := Hy.out.cell 4
  have y5 := Hy.out.cell 5
  simp at y0 y1 y2 y3 y4 y5
  have c0 := Ht.out.cell 0
  have c1 := Ht.out.cell 1
  have c2 := Ht.out.cell 2
  have c3 := Ht.out.cell 3
  have c4 := Ht.out.cell 4
  have c5 := Ht.out.cell 5
  have c6 := Ht.out.cell 6
  have c7 := Ht.out.cell 7
  have c8 := Ht.out.cell 8
  have c9 := Ht.out.cell 9
  have c10 := Ht.out.cell 10
  have c11 := Ht.out.cell 11
  have c12 := Ht.out.cell 12
  simp at c0 c1 c2 c3 c4 c5 c6 c7 c8 c9 c10 c11 c12
  have hl := fun W (a0 : W.cell? ⟨b, 0, none⟩ = some (.bool t.s0.opn)) (a5 : W.cell? ⟨b, 5, none⟩ = some (.bool t.s0.dd)) => rlive_0 W b _ _ a0 a5
  rw [show (t.s0.opn && !t.s0.dd) = true from Hv.out] at hl
  have HL := Lib.hid (hl w2 c0 c5)
  have HLq := Lib.hid (fun n => hl (w2.drewN n) c0 c5)
  clear hl
  go_wp2_with fail
  (with_reducible refine (HL.out).mono ?_)
  rintro e w' ⟨rfl, rfl⟩
  go_wp2
  go_ret
  exact ⟨rfl, HB.out⟩

theorem may8_dead_0 (w : World) (b : Nat) (t : Tr) (s : ByteArray) (h : RfAt w b t) (hv : t.s0.live = false) :
    Calls Try.prog 34 #[.pointer (some ⟨b, 0, none⟩), .agg #[.int .i64 0, .int .u8 8, .string s]] w fun r w' => r = .returned (.bool false) ∧ Below w.heap.size w w' := by
  have Hv := Lib.hid hv
  clear hv
  have hb0 : Below w.heap.size w w := Below.refl _ _
  have HB := Lib.hid hb0
  clear hb0
  have Ht := Lib.hid h
  clear h
  go_enter Try.func34, Try.ntmps34
  go_upto_region 1 with fail
  have hx := Blk.new w 36 #[.int .i64 0, .int .u8 8, .string s]
  have ht := Blk.alloc Ht.out (.cells #[.int .i64 0, .int .u8 8, .string s] 36)
  clear Ht
  have hB := HB.out.alloc HB.out.size (.cells #[.int .i64 0, .int .u8 8, .string s] 36)
  clear HB
  obtain ⟨gx, hge⟩ : ∃ g, g = w.heap.size := ⟨_, rfl⟩
  rw [← hge] at hx ⊢
  clear hge
  generalize w.alloc _ = w1 at *
  have Ht := Lib.hid ht
  clear ht
  have Hx := Lib.hid hx
  clear hx
  have HB := Lib.hid hB
  clear hB
  have x0 := Hx.out.cell 0
  have x1 := Hx.out.cell 1
  have x2 := Hx.out.cell 2
  simp at x0 x1 x2
  have c0 := Ht.out.cell 0
  have c1 := Ht.out.cell 1
  have c2 := Ht.out.cell 2
  have c3 := Ht.out.cell 3
  have c4 := Ht.out.cell 4
  have c5 := Ht.out.cell 5
  have c6 := Ht.out.cell 6
  have c7 := Ht.out.cell 7
  have c8 := Ht.out.cell 8
  have c9 := Ht.out.cell 9
  have c10 := Ht.out.cell 10
  have c11 := Ht.out.cell 11
  have c12 := Ht.out.cell 12
  simp at c0 c1 c2 c3 c4 c5 c6 c7 c8 c9 c10 c11 c12
  go_upto_region 4 with fail
  clear x0 x1 x2 c0 c1 c2 c3 c4 c5 c6 c7 c8 c9 c10 c11 c12
  have hy := Blk.new w1 29 #[.bool t.s0.opn, .string t.s0.wr, .int .i64 (t.s0.rd : Int), .bool t.s0.cl, .bool t.s0.eof, .bool t.s0.dd]
  have ht := Blk.alloc Ht.out (.cells #[.bool t.s0.opn, .string t.s0.wr, .int .i64 (t.s0.rd : Int), .bool t.s0.cl, .bool t.s0.eof, .bool t.s0.dd] 29)
  clear Ht
  have hx := Blk.alloc Hx.out (.cells #[.bool t.s0.opn, .string t.s0.wr, .int .i64 (t.s0.rd : Int), .bool t.s0.cl, .bool t.s0.eof, .bool t.s0.dd] 29)
  clear Hx
  have hB := HB.out.alloc HB.out.size (.cells #[.bool t.s0.opn, .string t.s0.wr, .int .i64 (t.s0.rd : Int), .bool t.s0.cl, .bool t.s0.eof, .bool t.s0.dd] 29)
  clear HB
  obtain ⟨gy, hge⟩ : ∃ g, g = w1.heap.size := ⟨_, rfl⟩
  rw [← hge] at hy ⊢
  clear hge
  generalize w1.alloc _ = w2 at *
  have Ht := Lib.hid ht
  clear ht
  have Hx := Lib.hid hx
  clear hx
  have Hy := Lib.hid hy
  clear hy
  have HB := Lib.hid hB
  clear hB
  have x0 := Hx.out.cell 0
  have x1 := Hx.out.cell 1
  have x2 := Hx.out.cell 2
  simp at x0 x1 x2
  have y0 := Hy.out.cell 0
  have y1 := Hy.out.cell 1
  have y2 := Hy.out.cell 2
  have y3 := Hy.out.cell 3
  have y4 := Hy.out.cell 4
  have y5 := Hy.out.cell 5
  simp at y0 y1 y2 y3 y4 y5
  have c0 := Ht.out.cell 0
  have c1 := Ht.out.cell 1
  have c2 := Ht.out.cell 2
  have c3 := Ht.out.cell 3
  have c4 := Ht.out.cell 4
  have c5 := Ht.out.cell 5
  have c6 := Ht.out.cell 6
  have c7 := Ht.out.cell 7
  have c8 := Ht.out.cell 8
  have c9 := Ht.out.cell 9
  have c10 := Ht.out.cell 10
  have c11 := Ht.out.cell 11
  have c12 := Ht.out.cell 12
  simp at c0 c1 c2 c3 c4 c5 c6 c7 c8 c9 c10 c11 c12
  have hl := fun W (a0 : W.cell? ⟨b, 0, none⟩ = some (.bool t.s0.opn)) (a5 : W.cell? ⟨b, 5, none⟩ = some (.bool t.s0.dd)) => rlive_0 W b _ _ a0 a5
  rw [show (t.s0.opn && !t.s0.dd) = false from Hv.out] at hl
  have HL := Lib.hid (hl w2 c0 c5)
  have HLq := Lib.hid (fun n => hl (w2.drewN n) c0 c5)
  clear hl
  go_wp2_with fail
  (with_reducible refine (HL.out).mono ?_)
  rintro e w' ⟨rfl, rfl⟩
  go_wp2
  go_ret
  exact ⟨rfl, HB.out⟩

theorem may8_no_0 (w : World) (b : Nat) (t : Tr) (s : ByteArray) (h : RfAt w b t) (hv : t.s0.live = true) (h0 : t.cause = false) :
    Calls Try.prog 34 #[.pointer (some ⟨b, 0, none⟩), .agg #[.int .i64 0, .int .u8 8, .string s]] w fun r w' => r = .returned (.bool false) ∧ Below w.heap.size w w' := by
  have Hv := Lib.hid hv
  clear hv
  have H0 := Lib.hid h0
  clear h0
  have hb0 : Below w.heap.size w w := Below.refl _ _
  have HB := Lib.hid hb0
  clear hb0
  have Ht := Lib.hid h
  clear h
  go_enter Try.func34, Try.ntmps34
  go_upto_region 1 with fail
  have hx := Blk.new w 36 #[.int .i64 0, .int .u8 8, .string s]
  have ht := Blk.alloc Ht.out (.cells #[.int .i64 0, .int .u8 8, .string s] 36)
  clear Ht
  have hB := HB.out.alloc HB.out.size (.cells #[.int .i64 0, .int .u8 8, .string s] 36)
  clear HB
  obtain ⟨gx, hge⟩ : ∃ g, g = w.heap.size := ⟨_, rfl⟩
  rw [← hge] at hx ⊢
  clear hge
  generalize w.alloc _ = w1 at *
  have Ht := Lib.hid ht
  clear ht
  have Hx := Lib.hid hx
  clear hx
  have HB := Lib.hid hB
  clear hB
  have x0 := Hx.out.cell 0
  have x1 := Hx.out.cell 1
  have x2 := Hx.out.cell 2
  simp at x0 x1 x2
  have c0 := Ht.out.cell 0
  have c1 := Ht.out.cell 1
  have c2 := Ht.out.cell 2
  have c3 := Ht.out.cell 3
  have c4 := Ht.out.cell 4
  have c5 := Ht.out.cell 5
  have c6 := Ht.out.cell 6
  have c7 := Ht.out.cell 7
  have c8 := Ht.out.cell 8
  have c9 := Ht.out.cell 9
  have c10 := Ht.out.cell 10
  have c11 := Ht.out.cell 11
  have c12 := Ht.out.cell 12
  simp at c0 c1 c2 c3 c4 c5 c6 c7 c8 c9 c10 c11 c12
  go_upto_region 4 with fail
  clear x0 x1 x2 c0 c1 c2 c3 c4 c5 c6 c7 c8 c9 c10 c11 c12
  have hy := Blk.new w1 29 #[.bool t.s0.opn, .string t.s0.wr, .int .i64 (t.s0.rd : Int), .bool t.s0.cl, .bool t.s0.eof, .bool t.s0.dd]
  have ht := Blk.alloc Ht.out (.cells #[.bool t.s0.opn, .string t.s0.wr, .int .i64 (t.s0.rd : Int), .bool t.s0.cl, .bool t.s0.eof, .bool t.s0.dd] 29)
  clear Ht
  have hx := Blk.alloc Hx.out (.cells #[.bool t.s0.opn, .string t.s0.wr, .int .i64 (t.s0.rd : Int), .bool t.s0.cl, .bool t.s0.eof, .bool t.s0.dd] 29)
  clear Hx
  have hB := HB.out.alloc HB.out.size (.cells #[.bool t.s0.opn, .string t.s0.wr, .int .i64 (t.s0.rd : Int), .bool t.s0.cl, .bool t.s0.eof, .bool t.s0.dd] 29)
  clear HB
  obtain ⟨gy, hge⟩ : ∃ g, g = w1.heap.size := ⟨_, rfl⟩
  rw [← hge] at hy ⊢
  clear hge
  generalize w1.alloc _ = w2 at *
  have Ht := Lib.hid ht
  clear ht
  have Hx := Lib.hid hx
  clear hx
  have Hy := Lib.hid hy
  clear hy
  have HB := Lib.hid hB
  clear hB
  have x0 := Hx.out.cell 0
  have x1 := Hx.out.cell 1
  have x2 := Hx.out.cell 2
  simp at x0 x1 x2
  have y0 := Hy.out.cell 0
  have y1 := Hy.out.cell 1
  have y2 := Hy.out.cell 2
  have y3 := Hy.out.cell 3
  have y4 := Hy.out.cell 4
  have y5 := Hy.out.cell 5
  simp at y0 y1 y2 y3 y4 y5
  have c0 := Ht.out.cell 0
  have c1 := Ht.out.cell 1
  have c2 := Ht.out.cell 2
  have c3 := Ht.out.cell 3
  have c4 := Ht.out.cell 4
  have c5 := Ht.out.cell 5
  have c6 := Ht.out.cell 6
  have c7 := Ht.out.cell 7
  have c8 := Ht.out.cell 8
  have c9 := Ht.out.cell 9
  have c10 := Ht.out.cell 10
  have c11 := Ht.out.cell 11
  have c12 := Ht.out.cell 12
  simp at c0 c1 c2 c3 c4 c5 c6 c7 c8 c9 c10 c11 c12
  have hl := fun W (a0 : W.cell? ⟨b, 0, none⟩ = some (.bool t.s0.opn)) (a5 : W.cell? ⟨b, 5, none⟩ = some (.bool t.s0.dd)) => rlive_0 W b _ _ a0 a5
  rw [show (t.s0.opn && !t.s0.dd) = true from Hv.out] at hl
  have HL := Lib.hid (hl w2 c0 c5)
  have HLq := Lib.hid (fun n => hl (w2.drewN n) c0 c5)
  clear hl
  rw [H0.out] at c12
  go_wp2_with fail
  (with_reducible refine (HL.out).mono ?_)
  rintro e w' ⟨rfl, rfl⟩
  go_wp2
  go_ret
  exact ⟨rfl, HB.out⟩

theorem may8_yes_0 (w : World) (b : Nat) (t : Tr) (s : ByteArray) (h : RfAt w b t) (hv : t.s0.live = true) (h0 : t.cause = true) :
    Calls Try.prog 34 #[.pointer (some ⟨b, 0, none⟩), .agg #[.int .i64 0, .int .u8 8, .string s]] w fun r w' => r = .returned (.bool true) ∧ Below w.heap.size w w' := by
  have Hv := Lib.hid hv
  clear hv
  have H0 := Lib.hid h0
  clear h0
  have hb0 : Below w.heap.size w w := Below.refl _ _
  have HB := Lib.hid hb0
  clear hb0
  have Ht := Lib.hid h
  clear h
  go_enter Try.func34, Try.ntmps34
  go_upto_region 1 with fail
  have hx := Blk.new w 36 #[.int .i64 0, .int .u8 8, .string s]
  have ht := Blk.alloc Ht.out (.cells #[.int .i64 0, .int .u8 8, .string s] 36)
  clear Ht
  have hB := HB.out.alloc HB.out.size (.cells #[.int .i64 0, .int .u8 8, .string s] 36)
  clear HB
  obtain ⟨gx, hge⟩ : ∃ g, g = w.heap.size := ⟨_, rfl⟩
  rw [← hge] at hx ⊢
  clear hge
  generalize w.alloc _ = w1 at *
  have Ht := Lib.hid ht
  clear ht
  have Hx := Lib.hid hx
  clear hx
  have HB := Lib.hid hB
  clear hB
  have x0 := Hx.out.cell 0
  have x1 := Hx.out.cell 1
  have x2 := Hx.out.cell 2
  simp at x0 x1 x2
  have c0 := Ht.out.cell 0
  have c1 := Ht.out.cell 1
  have c2 := Ht.out.cell 2
  have c3 := Ht.out.cell 3
  have c4 := Ht.out.cell 4
  have c5 := Ht.out.cell 5
  have c6 := Ht.out.cell 6
  have c7 := Ht.out.cell 7
  have c8 := Ht.out.cell 8
  have c9 := Ht.out.cell 9
  have c10 := Ht.out.cell 10
  have c11 := Ht.out.cell 11
  have c12 := Ht.out.cell 12
  simp at c0 c1 c2 c3 c4 c5 c6 c7 c8 c9 c10 c11 c12
  go_upto_region 4 with fail
  clear x0 x1 x2 c0 c1 c2 c3 c4 c5 c6 c7 c8 c9 c10 c11 c12
  have hy := Blk.new w1 29 #[.bool t.s0.opn, .string t.s0.wr, .int .i64 (t.s0.rd : Int), .bool t.s0.cl, .bool t.s0.eof, .bool t.s0.dd]
  have ht := Blk.alloc Ht.out (.cells #[.bool t.s0.opn, .string t.s0.wr, .int .i64 (t.s0.rd : Int), .bool t.s0.cl, .bool t.s0.eof, .bool t.s0.dd] 29)
  clear Ht
  have hx := Blk.alloc Hx.out (.cells #[.bool t.s0.opn, .string t.s0.wr, .int .i64 (t.s0.rd : Int), .bool t.s0.cl, .bool t.s0.eof, .bool t.s0.dd] 29)
  clear Hx
  have hB := HB.out.alloc HB.out.size (.cells #[.bool t.s0.opn, .string t.s0.wr, .int .i64 (t.s0.rd : Int), .bool t.s0.cl, .bool t.s0.eof, .bool t.s0.dd] 29)
  clear HB
  obtain ⟨gy, hge⟩ : ∃ g, g = w1.heap.size := ⟨_, rfl⟩
  rw [← hge] at hy ⊢
  clear hge
  generalize w1.alloc _ = w2 at *
  have Ht := Lib.hid ht
  clear ht
  have Hx := Lib.hid hx
  clear hx
  have Hy := Lib.hid hy
  clear hy
  have HB := Lib.hid hB
  clear hB
  have x0 := Hx.out.cell 0
  have x1 := Hx.out.cell 1
  have x2 := Hx.out.cell 2
  simp at x0 x1 x2
  have y0 := Hy.out.cell 0
  have y1 := Hy.out.cell 1
  have y2 := Hy.out.cell 2
  have y3 := Hy.out.cell 3
  have y4 := Hy.out.cell 4
  have y5 := Hy.out.cell 5
  simp at y0 y1 y2 y3 y4 y5
  have c0 := Ht.out.cell 0
  have c1 := Ht.out.cell 1
  have c2 := Ht.out.cell 2
  have c3 := Ht.out.cell 3
  have c4 := Ht.out.cell 4
  have c5 := Ht.out.cell 5
  have c6 := Ht.out.cell 6
  have c7 := Ht.out.cell 7
  have c8 := Ht.out.cell 8
  have c9 := Ht.out.cell 9
  have c10 := Ht.out.cell 10
  have c11 := Ht.out.cell 11
  have c12 := Ht.out.cell 12
  simp at c0 c1 c2 c3 c4 c5 c6 c7 c8 c9 c10 c11 c12
  have hl := fun W (a0 : W.cell? ⟨b, 0, none⟩ = some (.bool t.s0.opn)) (a5 : W.cell? ⟨b, 5, none⟩ = some (.bool t.s0.dd)) => rlive_0 W b _ _ a0 a5
  rw [show (t.s0.opn && !t.s0.dd) = true from Hv.out] at hl
  have HL := Lib.hid (hl w2 c0 c5)
  have HLq := Lib.hid (fun n => hl (w2.drewN n) c0 c5)
  clear hl
  rw [H0.out] at c12
  go_wp2_with fail
  (with_reducible refine (HL.out).mono ?_)
  rintro e w' ⟨rfl, rfl⟩
  go_wp2
  go_ret
  exact ⟨rfl, HB.out⟩

theorem may9_yes_0 (w : World) (b : Nat) (t : Tr) (s : ByteArray) (h : RfAt w b t) :
    Calls Try.prog 34 #[.pointer (some ⟨b, 0, none⟩), .agg #[.int .i64 0, .int .u8 9, .string s]] w fun r w' => r = .returned (.bool true) ∧ Below w.heap.size w w' := by
  have hb0 : Below w.heap.size w w := Below.refl _ _
  have HB := Lib.hid hb0
  clear hb0
  have Ht := Lib.hid h
  clear h
  go_enter Try.func34, Try.ntmps34
  go_upto_region 1 with fail
  have hx := Blk.new w 36 #[.int .i64 0, .int .u8 9, .string s]
  have ht := Blk.alloc Ht.out (.cells #[.int .i64 0, .int .u8 9, .string s] 36)
  clear Ht
  have hB := HB.out.alloc HB.out.size (.cells #[.int .i64 0, .int .u8 9, .string s] 36)
  clear HB
  obtain ⟨gx, hge⟩ : ∃ g, g = w.heap.size := ⟨_, rfl⟩
  rw [← hge] at hx ⊢
  clear hge
  generalize w.alloc _ = w1 at *
  have Ht := Lib.hid ht
  clear ht
  have Hx := Lib.hid hx
  clear hx
  have HB := Lib.hid hB
  clear hB
  have x0 := Hx.out.cell 0
  have x1 := Hx.out.cell 1
  have x2 := Hx.out.cell 2
  simp at x0 x1 x2
  have c0 := Ht.out.cell 0
  have c1 := Ht.out.cell 1
  have c2 := Ht.out.cell 2
  have c3 := Ht.out.cell 3
  have c4 := Ht.out.cell 4
  have c5 := Ht.out.cell 5
  have c6 := Ht.out.cell 6
  have c7 := Ht.out.cell 7
  have c8 := Ht.out.cell 8
  have c9 := Ht.out.cell 9
  have c10 := Ht.out.cell 10
  have c11 := Ht.out.cell 11
  have c12 := Ht.out.cell 12
  simp at c0 c1 c2 c3 c4 c5 c6 c7 c8 c9 c10 c11 c12
  go_upto_region 4 with fail
  clear x0 x1 x2 c0 c1 c2 c3 c4 c5 c6 c7 c8 c9 c10 c11 c12
  have hy := Blk.new w1 29 #[.bool t.s0.opn, .string t.s0.wr, .int .i64 (t.s0.rd : Int), .bool t.s0.cl, .bool t.s0.eof, .bool t.s0.dd]
  have ht := Blk.alloc Ht.out (.cells #[.bool t.s0.opn, .string t.s0.wr, .int .i64 (t.s0.rd : Int), .bool t.s0.cl, .bool t.s0.eof, .bool t.s0.dd] 29)
  clear Ht
  have hx := Blk.alloc Hx.out (.cells #[.bool t.s0.opn, .string t.s0.wr, .int .i64 (t.s0.rd : Int), .bool t.s0.cl, .bool t.s0.eof, .bool t.s0.dd] 29)
  clear Hx
  have hB := HB.out.alloc HB.out.size (.cells #[.bool t.s0.opn, .string t.s0.wr, .int .i64 (t.s0.rd : Int), .bool t.s0.cl, .bool t.s0.eof, .bool t.s0.dd] 29)
  clear HB
  obtain ⟨gy, hge⟩ : ∃ g, g = w1.heap.size := ⟨_, rfl⟩
  rw [← hge] at hy ⊢
  clear hge
  generalize w1.alloc _ = w2 at *
  have Ht := Lib.hid ht
  clear ht
  have Hx := Lib.hid hx
  clear hx
  have Hy := Lib.hid hy
  clear hy
  have HB := Lib.hid hB
  clear hB
  have x0 := Hx.out.cell 0
  have x1 := Hx.out.cell 1
  have x2 := Hx.out.cell 2
  simp at x0 x1 x2
  have y0 := Hy.out.cell 0
  have y1 := Hy.out.cell 1
  have y2 := Hy.out.cell 2
  have y3 := Hy.out.cell 3
  have y4 := Hy.out.cell 4
  have y5 := Hy.out.cell 5
  simp at y0 y1 y2 y3 y4 y5
  have c0 := Ht.out.cell 0
  have c1 := Ht.out.cell 1
  have c2 := Ht.out.cell 2
  have c3 := Ht.out.cell 3
  have c4 := Ht.out.cell 4
  have c5 := Ht.out.cell 5
  have c6 := Ht.out.cell 6
  have c7 := Ht.out.cell 7
  have c8 := Ht.out.cell 8
  have c9 := Ht.out.cell 9
  have c10 := Ht.out.cell 10
  have c11 := Ht.out.cell 11
  have c12 := Ht.out.cell 12
  simp at c0 c1 c2 c3 c4 c5 c6 c7 c8 c9 c10 c11 c12
  go_wp2
  go_ret
  exact ⟨rfl, HB.out⟩

end Go.Proofs.Ytcdbbdjabccjdaa
