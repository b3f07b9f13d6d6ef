/- Layer 5 (ip): the examples that the document fixes; the contracts as the statements take them. -/
import Derived.Test.YtbfmgdcnpefciaaIpRefDec
set_option linter.unusedVariables false
set_option linter.unusedSimpArgs false
namespace Go.Proofs.Ytbfmgdcnpefciaa
open Go.RowKit

theorem dec_all (s : ByteArray) (w : World) (hs : s.size ≤ 1099511627776) : Calls Try.prog 26 #[.string s] w fun e w' => e = .returned (decV s.data.toList) ∧ Below w.heap.size w w' := by
  rcases Nat.lt_or_ge s.size 20 with h | h
  · exact dec_short s w h
  · exact dec_any s w h hs
theorem ref_dec_all (s : ByteArray) (w : World) (hs : s.size ≤ 1099511627776) : Calls Try.prog 27 #[.string s] w fun e w' => e = .returned (decV s.data.toList) ∧ Below w.heap.size w w' := by
  rcases Nat.lt_or_ge s.size 20 with h | h
  · exact ref_dec_short s w h
  · exact ref_dec_any s w h hs
/-- what Encode answers -/
def encV (h : IPh) (load : ByteArray) : Value := if 65535 < 20 + load.size then .tuple #[.string ⟨#[]⟩, .int .i64 4] else .tuple #[.string ⟨(encL h load.data.toList).toArray⟩, .int .i64 0]
theorem enc_all (h : IPh) (load : ByteArray) (w : World) (ho : h.ok) (hm : load.size ≤ 131072) : Calls Try.prog 24 #[.agg h.cells, .string load] w fun e w' => e = .returned (encV h load) ∧ Below w.heap.size w w' := by
  unfold encV
  by_cases hl : 65535 < 20 + load.size
  · rw [if_pos hl]; exact enc_long h load w hl hm
  · rw [if_neg hl]; exact enc_ok h load w ho (by omega)
theorem ref_enc_all (h : IPh) (load : ByteArray) (w : World) (ho : h.ok) (hm : load.size ≤ 131072) : Calls Try.prog 25 #[.agg h.cells, .string load] w fun e w' => e = .returned (encV h load) ∧ Below w.heap.size w w' := by
  unfold encV
  by_cases hl : 65535 < 20 + load.size
  · rw [if_pos hl]; exact ref_enc_long h load w hl hm
  · rw [if_neg hl]; exact ref_enc_ok h load w ho (by omega)
theorem dec_v (s : ByteArray) (V : Value) (hV : decV s.data.toList = V) (w : World) (hs : s.size ≤ 1099511627776) : Calls Try.prog 26 #[.string s] w fun e w' => e = .returned V ∧ Below w.heap.size w w' := by
  subst hV
  exact dec_all s w hs
theorem enc_v (h : IPh) (load : ByteArray) (V : ByteArray) (hV : (⟨(encL h load.data.toList).toArray⟩ : ByteArray) = V) (cs : Array Value) (hc : h.cells = cs) (w : World) (ho : h.ok) (hl : 20 + load.size ≤ 65535) :
    Calls Try.prog 24 #[.agg cs, .string load] w fun e w' => e = .returned (.tuple #[.string V, .int .i64 0]) ∧ Below w.heap.size w w' := by
  subst hV hc
  exact enc_ok h load w ho hl

theorem head_of (b0 b1 b2 b3 b4 b5 : Int) (b6 : Bool) (w0 : (Lit.int .u32 b0).wf = true) (w1 : (Lit.int .u32 b1).wf = true) (w2 : (Lit.int .u8 b2).wf = true) (w3 : (Lit.int .u8 b3).wf = true) (w4 : (Lit.int .u8 b4).wf = true) (w5 : (Lit.int .u16 b5).wf = true) :
    ∃ H : IPh, H.ok ∧ H.cells = #[.int .u32 b0, .int .u32 b1, .int .u8 b2, .int .u8 b3, .int .u8 b4, .int .u16 b5, .bool b6] := by
  obtain ⟨l0, g0⟩ := bounds_u32 w0
  obtain ⟨l1, g1⟩ := bounds_u32 w1
  obtain ⟨l2, g2⟩ := bounds_u8 w2
  obtain ⟨l3, g3⟩ := bounds_u8 w3
  obtain ⟨l4, g4⟩ := bounds_u8 w4
  obtain ⟨l5, g5⟩ := bounds_u16 w5
  refine ⟨⟨b0.toNat, b1.toNat, UInt8.ofNat b2.toNat, UInt8.ofNat b3.toNat, UInt8.ofNat b4.toNat, b5.toNat, b6⟩, ⟨by show b0.toNat < _; omega, by show b1.toNat < _; omega, by show b5.toNat < _; omega⟩, ?_⟩
  unfold IPh.cells
  simp only [u8b]
  rw [show ((b0.toNat : Nat) : Int) = b0 by omega, show ((b1.toNat : Nat) : Int) = b1 by omega, show ((b5.toNat : Nat) : Int) = b5 by omega, show ((b2.toNat : Nat) : Int) % 256 = b2 by omega, show ((b3.toNat : Nat) : Int) % 256 = b3 by omega, show ((b4.toNat : Nat) : Int) % 256 = b4 by omega]
theorem encV_form (h : IPh) (load : ByteArray) : ∃ (E : ByteArray) (k : Int), encV h load = .tuple #[.string E, .int .i64 k] := by
  unfold encV
  split
  · exact ⟨_, _, rfl⟩
  · exact ⟨_, _, rfl⟩
theorem decV_form (l : List UInt8) : ∃ (H : IPh) (b : ByteArray) (k : Int), decV l = .tuple #[.agg H.cells, .string b, .int .i64 k] := by
  unfold decV
  split
  · exact ⟨_, _, _, rfl⟩
  · exact ⟨⟨0, 0, 0, 0, 0, 0, false⟩, _, _, rfl⟩
def ipS : ByteArray := ⟨(encL ⟨167772161, 167772162, 6, 64, 0, 0, false⟩ [108, 111, 97, 100]).toArray⟩
theorem ipS_lit : ipS = ⟨#[69, 0, 0, 24, 0, 0, 0, 0, 64, 6, 102, 222, 10, 0, 0, 1, 10, 0, 0, 2, 108, 111, 97, 100]⟩ := by decide +kernel
set_option maxRecDepth 100000 in
set_option maxHeartbeats 4000000 in
theorem alive_ip (w : World) : Calls Try.prog 23 #[] w fun e w' => e = .returned (.bool true) ∧ Below w.heap.size w w' := by
  obtain ⟨s, hs⟩ : ∃ s, s = ipS := ⟨_, rfl⟩
  have hsz : s.size = 24 := by rw [hs, ipS_lit]; rfl
  have a1 := fun w => enc_v ⟨167772161, 167772162, 6, 64, 0, 0, false⟩ ⟨#[108, 111, 97, 100]⟩ s (by rw [hs]; rfl) #[.int .u32 167772161, .int .u32 167772162, .int .u8 6, .int .u8 64, .int .u8 0, .int .u16 0, .bool false] rfl w ⟨by decide, by decide, by decide⟩ (by decide)
  have a2 := fun w => enc_v ⟨167772161, 167772162, 6, 64, 0, 0, false⟩ ⟨#[]⟩ ⟨#[69, 0, 0, 20, 0, 0, 0, 0, 64, 6, 102, 226, 10, 0, 0, 1, 10, 0, 0, 2]⟩ (by decide +kernel) #[.int .u32 167772161, .int .u32 167772162, .int .u8 6, .int .u8 64, .int .u8 0, .int .u16 0, .bool false] rfl w ⟨by decide, by decide, by decide⟩ (by decide)
  have d1 := fun w => dec_v s (.tuple #[.agg #[.int .u32 167772161, .int .u32 167772162, .int .u8 6, .int .u8 64, .int .u8 0, .int .u16 0, .bool false], .string ⟨#[108, 111, 97, 100]⟩, .int .i64 0]) (by rw [hs, ipS_lit]; kernel_rfl) w (by omega)
  have d2 := fun w => dec_v (s ++ ⟨#[120]⟩) (.tuple #[.agg #[.int .u32 0, .int .u32 0, .int .u8 0, .int .u8 0, .int .u8 0, .int .u16 0, .bool false], .string ⟨#[]⟩, .int .i64 53]) (by rw [hs, ipS_lit]; kernel_rfl) w (by rw [ByteArray.size_append, hsz]; decide)
  have d3 := fun w => dec_v ⟨#[69]⟩ (.tuple #[.agg #[.int .u32 0, .int .u32 0, .int .u8 0, .int .u8 0, .int .u8 0, .int .u16 0, .bool false], .string ⟨#[]⟩, .int .i64 50]) (by kernel_rfl) w (by decide)
  have i1 : (s.size : Int) = 24 := by omega
  have i2 : s.size ≤ 24 := by omega
  have A1 := Lib.hid a1
  clear a1
  have A2 := Lib.hid a2
  clear a2
  have D1 := Lib.hid d1
  clear d1
  have D2 := Lib.hid d2
  clear d2
  have D3 := Lib.hid d3
  clear d3
  have Hs := Lib.hid hs
  clear hs
  clear hsz
  have I1 := Lib.hid i1
  clear i1
  go_enter Try.func23, Try.ntmps23
  go_wp2_with fail
  with_reducible refine (A1.out _).mono ?_
  rintro e w1 ⟨rfl, hb1⟩
  have hbx : Blk w1 w.heap.size 48 #[.int .u32 167772161, .int .u32 167772162, .int .u8 6, .int .u8 64, .int .u8 0, .int .u16 0, .bool false] := Blk.below (Blk.new _ _ _) hb1 (by simp)
  have hB1 : Below w.heap.size w w1 := Below.trans ((Below.refl _ _).alloc (Nat.le_refl _) _) (hb1.mono (by simp))
  clear hb1
  have Hbx := Lib.hid hbx
  clear hbx
  have HB1 := Lib.hid hB1
  clear hB1
  go_wp2_with fail
  (with_reducible refine (D1.out _).mono ?_)
  rintro e w2 ⟨rfl, hb2⟩
  have hbx2 := Hbx.out.below hb2 Hbx.out.lt
  have hB2 := HB1.out.trans (hb2.mono HB1.out.size)
  clear Hbx HB1 hb2
  have Hbx2 := Lib.hid hbx2
  clear hbx2
  have HB2 := Lib.hid hB2
  clear hB2
  go_wp2_with fail
  have hg : Blk (w2.alloc (.cells #[.int .u32 167772161, .int .u32 167772162, .int .u8 6, .int .u8 64, .int .u8 0, .int .u16 0, .bool false] 48)) w2.heap.size 48 #[.int .u32 167772161, .int .u32 167772162, .int .u8 6, .int .u8 64, .int .u8 0, .int .u16 0, .bool false] := Blk.new _ _ _
  have hx3 : Blk (w2.alloc (.cells #[.int .u32 167772161, .int .u32 167772162, .int .u8 6, .int .u8 64, .int .u8 0, .int .u16 0, .bool false] 48)) w.heap.size 48 #[.int .u32 167772161, .int .u32 167772162, .int .u8 6, .int .u8 64, .int .u8 0, .int .u16 0, .bool false] := Blk.alloc Hbx2.out _
  have hB3 : Below w.heap.size w (w2.alloc (.cells #[.int .u32 167772161, .int .u32 167772162, .int .u8 6, .int .u8 64, .int .u8 0, .int .u16 0, .bool false] 48)) := HB2.out.alloc HB2.out.size _
  obtain ⟨g, hge⟩ : ∃ g, g = w2.heap.size := ⟨_, rfl⟩
  obtain ⟨x, hxe⟩ : ∃ x, x = w.heap.size := ⟨_, rfl⟩
  rw [← hge] at hg ⊢
  rw [← hxe] at hx3 ⊢
  clear hge hxe Hbx2 HB2
  generalize w2.alloc _ = w3 at *
  with_reducible refine (D2.out _).mono ?_
  rintro e w4 ⟨rfl, hb4⟩
  have hg4 := hg.below hb4 hg.lt
  have hx4 := hx3.below hb4 hx3.lt
  have hB4 := hB3.trans (hb4.mono hB3.size)
  clear hg hx3 hB3 hb4
  have Hg4 := Lib.hid hg4
  clear hg4
  have Hx4 := Lib.hid hx4
  clear hx4
  have HB4 := Lib.hid hB4
  clear hB4
  go_wp2_with fail
  have hg5 := Blk.alloc Hg4.out (.cells #[.int .u32 0, .int .u32 0, .int .u8 0, .int .u8 0, .int .u8 0, .int .u16 0, .bool false] 48)
  have hx5 := Blk.alloc Hx4.out (.cells #[.int .u32 0, .int .u32 0, .int .u8 0, .int .u8 0, .int .u8 0, .int .u16 0, .bool false] 48)
  have hB5 := HB4.out.alloc HB4.out.size (.cells #[.int .u32 0, .int .u32 0, .int .u8 0, .int .u8 0, .int .u8 0, .int .u16 0, .bool false] 48)
  clear Hg4 Hx4 HB4
  generalize w4.alloc _ = w5 at *
  with_reducible refine (D3.out _).mono ?_
  rintro e w6 ⟨rfl, hb6⟩
  have hg6 := hg5.below hb6 hg5.lt
  have hx6 := hx5.below hb6 hx5.lt
  have hB6 := hB5.trans (hb6.mono hB5.size)
  clear hg5 hx5 hB5 hb6
  have hg7 := Blk.alloc hg6 (.cells #[.int .u32 0, .int .u32 0, .int .u8 0, .int .u8 0, .int .u8 0, .int .u16 0, .bool false] 48)
  have hx7 := Blk.alloc hx6 (.cells #[.int .u32 0, .int .u32 0, .int .u8 0, .int .u8 0, .int .u8 0, .int .u16 0, .bool false] 48)
  have hB7 := hB6.alloc hB6.size (.cells #[.int .u32 0, .int .u32 0, .int .u8 0, .int .u8 0, .int .u8 0, .int .u16 0, .bool false] 48)
  clear hg6 hx6 hB6
  have Hg7 := Lib.hid hg7
  clear hg7
  have HB7 := Lib.hid hB7
  clear hB7
  go_upto_region 6 with fail
  generalize w6.alloc _ = w7 at *
  have c0 := hx7.cell 0
  have c1 := hx7.cell 1
  have c2 := hx7.cell 2
  have c3 := hx7.cell 3
  have c4 := hx7.cell 4
  have c5 := hx7.cell 5
  have c6 := hx7.cell 6
  simp at c0 c1 c2 c3 c4 c5 c6
  have HX7 := Lib.hid hx7
  clear hx7
  go_wp2_with fail
  with_reducible refine (A2.out _).mono ?_
  rintro e w8 ⟨rfl, hb8⟩
  have hg8 := Hg7.out.below hb8 Hg7.out.lt
  have hx8 := HX7.out.below hb8 HX7.out.lt
  have hB8 := HB7.out.trans (hb8.mono HB7.out.size)
  clear Hg7 HX7 HB7 hb8 c0 c1 c2 c3 c4 c5 c6
  have c0 := hx8.cell 0
  have c1 := hx8.cell 1
  have c2 := hx8.cell 2
  have c3 := hx8.cell 3
  have c4 := hx8.cell 4
  have c5 := hx8.cell 5
  have c6 := hx8.cell 6
  simp at c0 c1 c2 c3 c4 c5 c6
  have d0 := hg8.cell 0
  have d1 := hg8.cell 1
  have d2 := hg8.cell 2
  have d3 := hg8.cell 3
  have d4 := hg8.cell 4
  have d5 := hg8.cell 5
  have d6 := hg8.cell 6
  simp at d0 d1 d2 d3 d4 d5 d6
  have i1 := I1.out
  clear hx8 hg8
  go_wp2
  go_ret
  exact ⟨rfl, hB8⟩
end Go.Proofs.Ytbfmgdcnpefciaa
