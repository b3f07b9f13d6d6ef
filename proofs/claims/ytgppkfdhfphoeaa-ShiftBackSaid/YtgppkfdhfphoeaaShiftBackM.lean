/- The statement ShiftBack: the walk where both shifts may be, and the segment. (Printed by gen_back.py.) -/
import Derived.Test.YtgppkfdhfphoeaaShiftSeg
import Derived.Test.YtgppkfdhfphoeaaPktNext
import Derived.Test.YtgppkfdhfphoeaaShiftAlive4
import Derived.Test.YtgppkfdhfphoeaaFlowV
import Derived.Test.YtgppkfdhfphoeaaFlowW
import Derived.Test.YtgppkfdhfphoeaaLoads
import Derived.Deep.DeepCutAuto
set_option linter.unusedVariables false
set_option linter.unusedSimpArgs false
namespace Go.Proofs.Ytgppkfdhfphoeaa
open Go.RowKit Go.BigFrame

set_option maxRecDepth 100000 in
set_option maxHeartbeats 60000000 in
theorem back_main (w : World) (a0 a1 a2 a3 a4 a5 a6 a7 a8 a9 b0 b1 b2 b3 b4 b5 b6 b7 b8 b9 s0 s1 s2 s3 s4 s5 F s7 m sc vl ec X4 X5 X6 X7 Y4 Y5 Y6 Y7 t4 t5 t7 t13 t14 nt ns u4 u7 u13 u14 : Int) (sk tm ak : Bool) (A : Option Addr) (n cp : Nat) (d : ByteArray) (l l2 : List (Int × Int))
    (hh : ∀ W, Calls Try.prog 8 #[.agg #[.int .u32 s0, .int .u16 s1, .int .u32 s2, .int .u16 s3, .int .u32 s4, .int .u32 s5, .int .u8 F, .int .u16 s7, .int .u16 m, .int .i64 sc, .bool sk, .slice A n cp, .bool tm, .int .u32 vl, .int .u32 ec, .string d]] W fun e w' => e = .returned (.bool false) ∧ Below W.heap.size W w')
    (hx : ∀ W, Calls Try.prog 9 #[.agg #[.int .u32 a0, .int .u16 a1, .int .u32 a2, .int .u16 a3, .int .u32 a4, .int .u32 a5, .int .u32 a6, .int .u32 a7, .int .i64 a8, .int .i64 a9], .agg #[.int .u32 b0, .int .u16 b1, .int .u32 b2, .int .u16 b3, .int .u32 b4, .int .u32 b5, .int .u32 b6, .int .u32 b7, .int .i64 b8, .int .i64 b9]] W fun e w' => e = .returned (.tuple #[.agg #[.int .u32 b2, .int .u16 b3, .int .u32 b0, .int .u16 b1, .int .u32 X4, .int .u32 X5, .int .u32 X6, .int .u32 X7, .int .i64 a9, .int .i64 b8], .int .i64 0]) ∧ Below W.heap.size W w')
    (hy : ∀ W, Calls Try.prog 9 #[.agg #[.int .u32 b0, .int .u16 b1, .int .u32 b2, .int .u16 b3, .int .u32 b4, .int .u32 b5, .int .u32 b6, .int .u32 b7, .int .i64 b8, .int .i64 b9], .agg #[.int .u32 a0, .int .u16 a1, .int .u32 a2, .int .u16 a3, .int .u32 a4, .int .u32 a5, .int .u32 a6, .int .u32 a7, .int .i64 a8, .int .i64 a9]] W fun e w' => e = .returned (.tuple #[.agg #[.int .u32 a2, .int .u16 a3, .int .u32 a0, .int .u16 a1, .int .u32 Y4, .int .u32 Y5, .int .u32 Y6, .int .u32 Y7, .int .i64 b9, .int .i64 a8], .int .i64 0]) ∧ Below W.heap.size W w')
    (hsx : ∀ W, BlR W A l → Calls Try.prog 10 #[.agg #[.int .u32 b2, .int .u16 b3, .int .u32 b0, .int .u16 b1, .int .u32 X4, .int .u32 X5, .int .u32 X6, .int .u32 X7, .int .i64 a9, .int .i64 b8], .agg #[.int .u32 s0, .int .u16 s1, .int .u32 s2, .int .u16 s3, .int .u32 s4, .int .u32 s5, .int .u8 F, .int .u16 s7, .int .u16 m, .int .i64 sc, .bool sk, .slice A n cp, .bool tm, .int .u32 vl, .int .u32 ec, .string d]] W fun e w' => ∃ A2 cq, e = .returned (.tuple #[.agg #[.int .u32 b2, .int .u16 b3, .int .u32 b0, .int .u16 b1, .int .u32 t4, .int .u32 t5, .int .u8 F, .int .u16 t7, .int .u16 m, .int .i64 sc, .bool sk, .slice A2 n cq, .bool tm, .int .u32 t13, .int .u32 t14, .string d], .int .i64 0]) ∧ BlR w' A2 l2 ∧ Below W.heap.size W w')
    (hnt : ∀ A2 cq W, Calls Try.prog 11 #[.agg #[.int .u32 b2, .int .u16 b3, .int .u32 b0, .int .u16 b1, .int .u32 t4, .int .u32 t5, .int .u8 F, .int .u16 t7, .int .u16 m, .int .i64 sc, .bool sk, .slice A2 n cq, .bool tm, .int .u32 t13, .int .u32 t14, .string d]] W fun e w' => e = .returned (.int .u32 nt) ∧ Below W.heap.size W w')
    (hns : ∀ W, Calls Try.prog 11 #[.agg #[.int .u32 s0, .int .u16 s1, .int .u32 s2, .int .u16 s3, .int .u32 s4, .int .u32 s5, .int .u8 F, .int .u16 s7, .int .u16 m, .int .i64 sc, .bool sk, .slice A n cp, .bool tm, .int .u32 vl, .int .u32 ec, .string d]] W fun e w' => e = .returned (.int .u32 ns) ∧ Below W.heap.size W w')
    (hsy : ∀ W gl, Blk W gl 48 #[.int .u32 t4, .int .u32 nt] → Calls Try.prog 10 #[.agg #[.int .u32 a2, .int .u16 a3, .int .u32 a0, .int .u16 a1, .int .u32 Y4, .int .u32 Y5, .int .u32 Y6, .int .u32 Y7, .int .i64 b9, .int .i64 a8], .agg #[.int .u32 b0, .int .u16 b1, .int .u32 b2, .int .u16 b3, .int .u32 0, .int .u32 nt, .int .u8 16, .int .u16 0, .int .u16 0, .int .i64 (-1), .bool false, .slice (some ⟨gl, 0, none⟩) 1 1, .bool true, .int .u32 0, .int .u32 t13, .string ⟨#[]⟩]] W fun e w' => ∃ A3 cr, e = .returned (.tuple #[.agg #[.int .u32 a2, .int .u16 a3, .int .u32 a0, .int .u16 a1, .int .u32 u4, .int .u32 ns, .int .u8 16, .int .u16 u7, .int .u16 0, .int .i64 (-1), .bool false, .slice A3 1 cr, .bool true, .int .u32 u13, .int .u32 u14, .string ⟨#[]⟩], .int .i64 0]) ∧ BlR w' A3 [(s4, ns)] ∧ Below W.heap.size W w')
    (hr : BlR w A l) (hln : l.length = n) (hl2 : l2.length = n) (hn : n ≤ 100) (hak : (bits .and .u8 F 16 != 0) = ak) (f1 : (t4 - b4) % 4294967296 = (s4 - a5) % 4294967296) (f2 : ak = true → (t5 - b5) % 4294967296 = (s5 - a4) % 4294967296)
    (f3 : ∀ (j : Nat) (p q : Int × Int), l[j]? = some p → l2[j]? = some q → (q.1 - b5) % 4294967296 = (p.1 - a4) % 4294967296 ∧ (q.2 - b5) % 4294967296 = (p.2 - a4) % 4294967296)
    (f4 : tm = true → u14 = vl ∧ (t13 - b6) % 4294967296 = (vl - a7) % 4294967296 ∧ (t14 - b7) % 4294967296 = (ec - a6) % 4294967296) (f5 : (nt - t4) % 4294967296 = (ns - s4) % 4294967296) :
    Calls Try.prog 4 #[.agg #[.int .u32 a0, .int .u16 a1, .int .u32 a2, .int .u16 a3, .int .u32 a4, .int .u32 a5, .int .u32 a6, .int .u32 a7, .int .i64 a8, .int .i64 a9], .agg #[.int .u32 b0, .int .u16 b1, .int .u32 b2, .int .u16 b3, .int .u32 b4, .int .u32 b5, .int .u32 b6, .int .u32 b7, .int .i64 b8, .int .i64 b9], .agg #[.int .u32 s0, .int .u16 s1, .int .u32 s2, .int .u16 s3, .int .u32 s4, .int .u32 s5, .int .u8 F, .int .u16 s7, .int .u16 m, .int .i64 sc, .bool sk, .slice A n cp, .bool tm, .int .u32 vl, .int .u32 ec, .string d]] w fun e w' => e = .returned (.bool true) ∧ Below w.heap.size w w' := by
  have hb0 : Below w.heap.size w w := Below.refl _ _
  have HB := Lib.hid hb0
  clear hb0
  have Hh := Lib.hid hh
  clear hh
  have Hx := Lib.hid hx
  clear hx
  have Hy := Lib.hid hy
  clear hy
  have Hsx := Lib.hid hsx
  clear hsx
  have Hnt := Lib.hid hnt
  clear hnt
  have Hns := Lib.hid hns
  clear hns
  have Hsy := Lib.hid hsy
  clear hsy
  have Hr := Lib.hid hr
  clear hr
  have Hln := Lib.hid hln
  clear hln
  have Hl2 := Lib.hid hl2
  clear hl2
  have Hn := Lib.hid hn
  clear hn
  have Hak := Lib.hid hak
  clear hak
  have F1 := Lib.hid f1
  clear f1
  have F2 := Lib.hid f2
  clear f2
  have F3 := Lib.hid f3
  clear f3
  have F4 := Lib.hid f4
  clear f4
  have F5 := Lib.hid f5
  clear f5
  have HHs := Hx
  have HHy := Hy
  clear Hx Hy
  go_enter Try.func4, Try.ntmps4
  go_upto_region 1 with fail
  have hp := Blk.alloc (Blk.alloc (Blk.new w 34 #[.int .u32 a0, .int .u16 a1, .int .u32 a2, .int .u16 a3, .int .u32 a4, .int .u32 a5, .int .u32 a6, .int .u32 a7, .int .i64 a8, .int .i64 a9]) (.cells #[.int .u32 b0, .int .u16 b1, .int .u32 b2, .int .u16 b3, .int .u32 b4, .int .u32 b5, .int .u32 b6, .int .u32 b7, .int .i64 b8, .int .i64 b9] 34)) (.cells #[.int .u32 s0, .int .u16 s1, .int .u32 s2, .int .u16 s3, .int .u32 s4, .int .u32 s5, .int .u8 F, .int .u16 s7, .int .u16 m, .int .i64 sc, .bool sk, .slice A n cp, .bool tm, .int .u32 vl, .int .u32 ec, .string d] 39)
  have hq := Blk.alloc (Blk.new (w.alloc (.cells #[.int .u32 a0, .int .u16 a1, .int .u32 a2, .int .u16 a3, .int .u32 a4, .int .u32 a5, .int .u32 a6, .int .u32 a7, .int .i64 a8, .int .i64 a9] 34)) 34 #[.int .u32 b0, .int .u16 b1, .int .u32 b2, .int .u16 b3, .int .u32 b4, .int .u32 b5, .int .u32 b6, .int .u32 b7, .int .i64 b8, .int .i64 b9]) (.cells #[.int .u32 s0, .int .u16 s1, .int .u32 s2, .int .u16 s3, .int .u32 s4, .int .u32 s5, .int .u8 F, .int .u16 s7, .int .u16 m, .int .i64 sc, .bool sk, .slice A n cp, .bool tm, .int .u32 vl, .int .u32 ec, .string d] 39)
  rw [show (w.alloc (.cells #[.int .u32 a0, .int .u16 a1, .int .u32 a2, .int .u16 a3, .int .u32 a4, .int .u32 a5, .int .u32 a6, .int .u32 a7, .int .i64 a8, .int .i64 a9] 34)).heap.size = w.heap.size + 1 by simp] at hq
  have hs := Blk.new ((w.alloc (.cells #[.int .u32 a0, .int .u16 a1, .int .u32 a2, .int .u16 a3, .int .u32 a4, .int .u32 a5, .int .u32 a6, .int .u32 a7, .int .i64 a8, .int .i64 a9] 34)).alloc (.cells #[.int .u32 b0, .int .u16 b1, .int .u32 b2, .int .u16 b3, .int .u32 b4, .int .u32 b5, .int .u32 b6, .int .u32 b7, .int .i64 b8, .int .i64 b9] 34)) 39 #[.int .u32 s0, .int .u16 s1, .int .u32 s2, .int .u16 s3, .int .u32 s4, .int .u32 s5, .int .u8 F, .int .u16 s7, .int .u16 m, .int .i64 sc, .bool sk, .slice A n cp, .bool tm, .int .u32 vl, .int .u32 ec, .string d]
  rw [show ((w.alloc (.cells #[.int .u32 a0, .int .u16 a1, .int .u32 a2, .int .u16 a3, .int .u32 a4, .int .u32 a5, .int .u32 a6, .int .u32 a7, .int .i64 a8, .int .i64 a9] 34)).alloc (.cells #[.int .u32 b0, .int .u16 b1, .int .u32 b2, .int .u16 b3, .int .u32 b4, .int .u32 b5, .int .u32 b6, .int .u32 b7, .int .i64 b8, .int .i64 b9] 34)).heap.size = w.heap.size + 2 by simp] at hs
  have hB := Below.alloc (Below.alloc (Below.alloc (HB.out) (Nat.le_trans HB.out.size (by simp <;> omega)) (.cells #[.int .u32 a0, .int .u16 a1, .int .u32 a2, .int .u16 a3, .int .u32 a4, .int .u32 a5, .int .u32 a6, .int .u32 a7, .int .i64 a8, .int .i64 a9] 34)) (Nat.le_trans HB.out.size (by simp <;> omega)) (.cells #[.int .u32 b0, .int .u16 b1, .int .u32 b2, .int .u16 b3, .int .u32 b4, .int .u32 b5, .int .u32 b6, .int .u32 b7, .int .i64 b8, .int .i64 b9] 34)) (Nat.le_trans HB.out.size (by simp <;> omega)) (.cells #[.int .u32 s0, .int .u16 s1, .int .u32 s2, .int .u16 s3, .int .u32 s4, .int .u32 s5, .int .u8 F, .int .u16 s7, .int .u16 m, .int .i64 sc, .bool sk, .slice A n cp, .bool tm, .int .u32 vl, .int .u32 ec, .string d] 39)
  clear HB
  obtain ⟨gs, hges⟩ : ∃ g, g = w.heap.size + 2 := ⟨_, rfl⟩
  rw [← hges] at hs ⊢
  obtain ⟨gq, hgeq⟩ : ∃ g, g = w.heap.size + 1 := ⟨_, rfl⟩
  rw [← hgeq] at hq ⊢
  obtain ⟨gp, hgep⟩ : ∃ g, g = w.heap.size := ⟨_, rfl⟩
  rw [← hgep] at hp ⊢
  have hne_p_q : gp ≠ gq := by omega
  have hne_p_s : gp ≠ gs := by omega
  have hne_q_s : gq ≠ gs := by omega
  have hle_p : w.heap.size ≤ gp := by omega
  have hle_q : w.heap.size ≤ gq := by omega
  have hle_s : w.heap.size ≤ gs := by omega
  clear hgep hgeq hges
  generalize ((w.alloc _).alloc _).alloc _ = wn1 at *
  have Hp := Lib.hid hp
  clear hp
  have Hq := Lib.hid hq
  clear hq
  have Hs := Lib.hid hs
  clear hs
  have HB := Lib.hid hB
  clear hB
  go_wp2_with (first | (refine wpl_load Hs.out segU segI rfl _ rfl rfl ?_))
  (with_reducible refine (Hh.out _).mono ?_)
  rintro e w1 ⟨rfl, hbq⟩
  have hp := Hp.out.below hbq Hp.out.lt
  clear Hp
  have Hp := Lib.hid hp
  clear hp
  have hq := Hq.out.below hbq Hq.out.lt
  clear Hq
  have Hq := Lib.hid hq
  clear hq
  have hs := Hs.out.below hbq Hs.out.lt
  clear Hs
  have Hs := Lib.hid hs
  clear hs
  have hB := HB.out.trans (hbq.mono HB.out.size)
  clear HB
  have HB := Lib.hid hB
  clear hB
  clear hbq
  go_wp2_with (first | (refine wpl_load Hp.out legU legI rfl _ rfl rfl ?_) | (refine wpl_load Hq.out legU legI rfl _ rfl rfl ?_))
  (with_reducible refine (HHs.out _).mono ?_)
  rintro e w2 ⟨rfl, hbq⟩
  have hp := Hp.out.below hbq Hp.out.lt
  clear Hp
  have Hp := Lib.hid hp
  clear hp
  have hq := Hq.out.below hbq Hq.out.lt
  clear Hq
  have Hq := Lib.hid hq
  clear hq
  have hs := Hs.out.below hbq Hs.out.lt
  clear Hs
  have Hs := Lib.hid hs
  clear hs
  have hB := HB.out.trans (hbq.mono HB.out.size)
  clear HB
  have HB := Lib.hid hB
  clear hB
  clear hbq
  go_upto_region 4 with fail
  have hx := Blk.new w2 27 #[.int .u32 b2, .int .u16 b3, .int .u32 b0, .int .u16 b1, .int .u32 X4, .int .u32 X5, .int .u32 X6, .int .u32 X7, .int .i64 a9, .int .i64 b8]
  have hp := Blk.alloc Hp.out (.cells #[.int .u32 b2, .int .u16 b3, .int .u32 b0, .int .u16 b1, .int .u32 X4, .int .u32 X5, .int .u32 X6, .int .u32 X7, .int .i64 a9, .int .i64 b8] 27)
  clear Hp
  have hq := Blk.alloc Hq.out (.cells #[.int .u32 b2, .int .u16 b3, .int .u32 b0, .int .u16 b1, .int .u32 X4, .int .u32 X5, .int .u32 X6, .int .u32 X7, .int .i64 a9, .int .i64 b8] 27)
  clear Hq
  have hs := Blk.alloc Hs.out (.cells #[.int .u32 b2, .int .u16 b3, .int .u32 b0, .int .u16 b1, .int .u32 X4, .int .u32 X5, .int .u32 X6, .int .u32 X7, .int .i64 a9, .int .i64 b8] 27)
  clear Hs
  have hB := HB.out.alloc HB.out.size (.cells #[.int .u32 b2, .int .u16 b3, .int .u32 b0, .int .u16 b1, .int .u32 X4, .int .u32 X5, .int .u32 X6, .int .u32 X7, .int .i64 a9, .int .i64 b8] 27)
  clear HB
  obtain ⟨gx, hge⟩ : ∃ g, g = w2.heap.size := ⟨_, rfl⟩
  rw [← hge] at hx ⊢
  clear hge
  generalize w2.alloc _ = w3 at *
  have Hp := Lib.hid hp
  clear hp
  have Hq := Lib.hid hq
  clear hq
  have Hs := Lib.hid hs
  clear hs
  have Hx := Lib.hid hx
  clear hx
  have HB := Lib.hid hB
  clear hB
  go_wp2_with (first | (refine wpl_load Hp.out legU legI rfl _ rfl rfl ?_) | (refine wpl_load Hq.out legU legI rfl _ rfl rfl ?_))
  (with_reducible refine (HHy.out _).mono ?_)
  rintro e w4 ⟨rfl, hbq⟩
  have hp := Hp.out.below hbq Hp.out.lt
  clear Hp
  have Hp := Lib.hid hp
  clear hp
  have hq := Hq.out.below hbq Hq.out.lt
  clear Hq
  have Hq := Lib.hid hq
  clear hq
  have hs := Hs.out.below hbq Hs.out.lt
  clear Hs
  have Hs := Lib.hid hs
  clear hs
  have hx := Hx.out.below hbq Hx.out.lt
  clear Hx
  have Hx := Lib.hid hx
  clear hx
  have hB := HB.out.trans (hbq.mono HB.out.size)
  clear HB
  have HB := Lib.hid hB
  clear hB
  clear hbq
  go_upto_region 5 with fail
  have hy := Blk.new w4 27 #[.int .u32 a2, .int .u16 a3, .int .u32 a0, .int .u16 a1, .int .u32 Y4, .int .u32 Y5, .int .u32 Y6, .int .u32 Y7, .int .i64 b9, .int .i64 a8]
  have hp := Blk.alloc Hp.out (.cells #[.int .u32 a2, .int .u16 a3, .int .u32 a0, .int .u16 a1, .int .u32 Y4, .int .u32 Y5, .int .u32 Y6, .int .u32 Y7, .int .i64 b9, .int .i64 a8] 27)
  clear Hp
  have hq := Blk.alloc Hq.out (.cells #[.int .u32 a2, .int .u16 a3, .int .u32 a0, .int .u16 a1, .int .u32 Y4, .int .u32 Y5, .int .u32 Y6, .int .u32 Y7, .int .i64 b9, .int .i64 a8] 27)
  clear Hq
  have hs := Blk.alloc Hs.out (.cells #[.int .u32 a2, .int .u16 a3, .int .u32 a0, .int .u16 a1, .int .u32 Y4, .int .u32 Y5, .int .u32 Y6, .int .u32 Y7, .int .i64 b9, .int .i64 a8] 27)
  clear Hs
  have hx := Blk.alloc Hx.out (.cells #[.int .u32 a2, .int .u16 a3, .int .u32 a0, .int .u16 a1, .int .u32 Y4, .int .u32 Y5, .int .u32 Y6, .int .u32 Y7, .int .i64 b9, .int .i64 a8] 27)
  clear Hx
  have hB := HB.out.alloc HB.out.size (.cells #[.int .u32 a2, .int .u16 a3, .int .u32 a0, .int .u16 a1, .int .u32 Y4, .int .u32 Y5, .int .u32 Y6, .int .u32 Y7, .int .i64 b9, .int .i64 a8] 27)
  clear HB
  obtain ⟨gy, hge⟩ : ∃ g, g = w4.heap.size := ⟨_, rfl⟩
  rw [← hge] at hy ⊢
  clear hge
  generalize w4.alloc _ = w5 at *
  have Hp := Lib.hid hp
  clear hp
  have Hq := Lib.hid hq
  clear hq
  have Hs := Lib.hid hs
  clear hs
  have Hx := Lib.hid hx
  clear hx
  have Hy := Lib.hid hy
  clear hy
  have HB := Lib.hid hB
  clear hB
  have hr5 := Hr.out.below HB.out
  go_wp2_with (first | (refine wpl_load Hx.out shiU shiI rfl _ rfl rfl ?_) | (refine wpl_load Hs.out segU segI rfl _ rfl rfl ?_))
  (with_reducible refine (Hsx.out _ hr5).mono ?_)
  rintro e w6 ⟨A2, cq, rfl, ht2, hbq⟩
  have hp := Hp.out.below hbq Hp.out.lt
  clear Hp
  have Hp := Lib.hid hp
  clear hp
  have hq := Hq.out.below hbq Hq.out.lt
  clear Hq
  have Hq := Lib.hid hq
  clear hq
  have hs := Hs.out.below hbq Hs.out.lt
  clear Hs
  have Hs := Lib.hid hs
  clear hs
  have hx := Hx.out.below hbq Hx.out.lt
  clear Hx
  have Hx := Lib.hid hx
  clear hx
  have hy := Hy.out.below hbq Hy.out.lt
  clear Hy
  have Hy := Lib.hid hy
  clear hy
  have hB := HB.out.trans (hbq.mono HB.out.size)
  clear HB
  have HB := Lib.hid hB
  clear hB
  clear hbq
  have Ht2 := Lib.hid ht2
  clear ht2
  clear hr5
  go_upto_region 6 with fail
  have ht2 := Ht2.out.below ((Below.refl _ _).alloc (Nat.le_refl _) (.cells #[.int .u32 b2, .int .u16 b3, .int .u32 b0, .int .u16 b1, .int .u32 t4, .int .u32 t5, .int .u8 F, .int .u16 t7, .int .u16 m, .int .i64 sc, .bool sk, .slice A2 n cq, .bool tm, .int .u32 t13, .int .u32 t14, .string d] 39))
  clear Ht2
  have ht := Blk.new w6 39 #[.int .u32 b2, .int .u16 b3, .int .u32 b0, .int .u16 b1, .int .u32 t4, .int .u32 t5, .int .u8 F, .int .u16 t7, .int .u16 m, .int .i64 sc, .bool sk, .slice A2 n cq, .bool tm, .int .u32 t13, .int .u32 t14, .string d]
  have hp := Blk.alloc Hp.out (.cells #[.int .u32 b2, .int .u16 b3, .int .u32 b0, .int .u16 b1, .int .u32 t4, .int .u32 t5, .int .u8 F, .int .u16 t7, .int .u16 m, .int .i64 sc, .bool sk, .slice A2 n cq, .bool tm, .int .u32 t13, .int .u32 t14, .string d] 39)
  clear Hp
  have hq := Blk.alloc Hq.out (.cells #[.int .u32 b2, .int .u16 b3, .int .u32 b0, .int .u16 b1, .int .u32 t4, .int .u32 t5, .int .u8 F, .int .u16 t7, .int .u16 m, .int .i64 sc, .bool sk, .slice A2 n cq, .bool tm, .int .u32 t13, .int .u32 t14, .string d] 39)
  clear Hq
  have hs := Blk.alloc Hs.out (.cells #[.int .u32 b2, .int .u16 b3, .int .u32 b0, .int .u16 b1, .int .u32 t4, .int .u32 t5, .int .u8 F, .int .u16 t7, .int .u16 m, .int .i64 sc, .bool sk, .slice A2 n cq, .bool tm, .int .u32 t13, .int .u32 t14, .string d] 39)
  clear Hs
  have hx := Blk.alloc Hx.out (.cells #[.int .u32 b2, .int .u16 b3, .int .u32 b0, .int .u16 b1, .int .u32 t4, .int .u32 t5, .int .u8 F, .int .u16 t7, .int .u16 m, .int .i64 sc, .bool sk, .slice A2 n cq, .bool tm, .int .u32 t13, .int .u32 t14, .string d] 39)
  clear Hx
  have hy := Blk.alloc Hy.out (.cells #[.int .u32 b2, .int .u16 b3, .int .u32 b0, .int .u16 b1, .int .u32 t4, .int .u32 t5, .int .u8 F, .int .u16 t7, .int .u16 m, .int .i64 sc, .bool sk, .slice A2 n cq, .bool tm, .int .u32 t13, .int .u32 t14, .string d] 39)
  clear Hy
  have hB := HB.out.alloc HB.out.size (.cells #[.int .u32 b2, .int .u16 b3, .int .u32 b0, .int .u16 b1, .int .u32 t4, .int .u32 t5, .int .u8 F, .int .u16 t7, .int .u16 m, .int .i64 sc, .bool sk, .slice A2 n cq, .bool tm, .int .u32 t13, .int .u32 t14, .string d] 39)
  clear HB
  obtain ⟨gt, hge⟩ : ∃ g, g = w6.heap.size := ⟨_, rfl⟩
  rw [← hge] at ht ⊢
  clear hge
  generalize w6.alloc _ = w7 at *
  have Hp := Lib.hid hp
  clear hp
  have Hq := Lib.hid hq
  clear hq
  have Hs := Lib.hid hs
  clear hs
  have Hx := Lib.hid hx
  clear hx
  have Hy := Lib.hid hy
  clear hy
  have Ht := Lib.hid ht
  clear ht
  have HB := Lib.hid hB
  clear hB
  have Ht2 := Lib.hid ht2
  clear ht2
  go_upto_region 8 with fail
  have hr7 := Hr.out.below HB.out
  clear Hr
  have Hr := Lib.hid hr7
  clear hr7
  have Hbw := HB
  clear HB
  have hb7 : Below w7.heap.size w7 w7 := Below.refl _ _
  have HB := Lib.hid hb7
  have hS0 : Fresh w7 w7 := hb7
  clear hb7
  have ne : Nonempty (Cls (Fresh w7)) := ⟨⟨w7, hS0⟩⟩
  have k0 : ∀ y : Cls (Fresh w7), y.w.cell? ⟨gq, 0, none⟩ = some (.int .u32 b0) := fun y => (Hq.out.below y.h Hq.out.lt).cell 0
  have k1 : ∀ y : Cls (Fresh w7), y.w.cell? ⟨gq, 1, none⟩ = some (.int .u16 b1) := fun y => (Hq.out.below y.h Hq.out.lt).cell 1
  have k2 : ∀ y : Cls (Fresh w7), y.w.cell? ⟨gq, 2, none⟩ = some (.int .u32 b2) := fun y => (Hq.out.below y.h Hq.out.lt).cell 2
  have k3 : ∀ y : Cls (Fresh w7), y.w.cell? ⟨gq, 3, none⟩ = some (.int .u16 b3) := fun y => (Hq.out.below y.h Hq.out.lt).cell 3
  have j0 : ∀ y : Cls (Fresh w7), y.w.cell? ⟨gt, 0, none⟩ = some (.int .u32 b2) := fun y => (Ht.out.below y.h Ht.out.lt).cell 0
  have j1 : ∀ y : Cls (Fresh w7), y.w.cell? ⟨gt, 1, none⟩ = some (.int .u16 b3) := fun y => (Ht.out.below y.h Ht.out.lt).cell 1
  have j2 : ∀ y : Cls (Fresh w7), y.w.cell? ⟨gt, 2, none⟩ = some (.int .u32 b0) := fun y => (Ht.out.below y.h Ht.out.lt).cell 2
  have j3 : ∀ y : Cls (Fresh w7), y.w.cell? ⟨gt, 3, none⟩ = some (.int .u16 b1) := fun y => (Ht.out.below y.h Ht.out.lt).cell 3
  have j4 : ∀ y : Cls (Fresh w7), y.w.cell? ⟨gt, 4, none⟩ = some (.int .u32 t4) := fun y => (Ht.out.below y.h Ht.out.lt).cell 4
  have j5 : ∀ y : Cls (Fresh w7), y.w.cell? ⟨gt, 5, none⟩ = some (.int .u32 t5) := fun y => (Ht.out.below y.h Ht.out.lt).cell 5
  have j6 : ∀ y : Cls (Fresh w7), y.w.cell? ⟨gt, 6, none⟩ = some (.int .u8 F) := fun y => (Ht.out.below y.h Ht.out.lt).cell 6
  have j7 : ∀ y : Cls (Fresh w7), y.w.cell? ⟨gt, 7, none⟩ = some (.int .u16 t7) := fun y => (Ht.out.below y.h Ht.out.lt).cell 7
  have j8 : ∀ y : Cls (Fresh w7), y.w.cell? ⟨gt, 8, none⟩ = some (.int .u16 m) := fun y => (Ht.out.below y.h Ht.out.lt).cell 8
  have j9 : ∀ y : Cls (Fresh w7), y.w.cell? ⟨gt, 9, none⟩ = some (.int .i64 sc) := fun y => (Ht.out.below y.h Ht.out.lt).cell 9
  have j10 : ∀ y : Cls (Fresh w7), y.w.cell? ⟨gt, 10, none⟩ = some (.bool sk) := fun y => (Ht.out.below y.h Ht.out.lt).cell 10
  have j11 : ∀ y : Cls (Fresh w7), y.w.cell? ⟨gt, 11, none⟩ = some (.slice A2 n cq) := fun y => (Ht.out.below y.h Ht.out.lt).cell 11
  have j12 : ∀ y : Cls (Fresh w7), y.w.cell? ⟨gt, 12, none⟩ = some (.bool tm) := fun y => (Ht.out.below y.h Ht.out.lt).cell 12
  have j13 : ∀ y : Cls (Fresh w7), y.w.cell? ⟨gt, 13, none⟩ = some (.int .u32 t13) := fun y => (Ht.out.below y.h Ht.out.lt).cell 13
  have j14 : ∀ y : Cls (Fresh w7), y.w.cell? ⟨gt, 14, none⟩ = some (.int .u32 t14) := fun y => (Ht.out.below y.h Ht.out.lt).cell 14
  have j15 : ∀ y : Cls (Fresh w7), y.w.cell? ⟨gt, 15, none⟩ = some (.string d) := fun y => (Ht.out.below y.h Ht.out.lt).cell 15
  have cf1 : ∀ (vals : Array Value) (w : World), (callFunc 11 vals).run Try.prog w = .ok (.enter 11 vals) w := fun _ _ => by kernel_rfl
  have m1 : ∀ y : Cls (Fresh w7), Calls Try.prog 11 #[.agg #[.int .u32 b2, .int .u16 b3, .int .u32 b0, .int .u16 b1, .int .u32 t4, .int .u32 t5, .int .u8 F, .int .u16 t7, .int .u16 m, .int .i64 sc, .bool sk, .slice A2 n cq, .bool tm, .int .u32 t13, .int .u32 t14, .string d]] y.w fun e w'' => e = .returned (.int .u32 nt) ∧ Fresh w7 w'' ∧ Below y.w.heap.size y.w w'' := fun y => (Hnt.out A2 cq y.w).mono fun e w' ⟨he, hb⟩ => ⟨he, Fresh.below y.h hb, hb⟩
  have r1 : ∀ W : World, (Instr.alloc 39 true (.tuple #[])).run Try.prog W = .ok (.pointer (some ⟨W.heap.size, 0, none⟩)) (W.alloc (.cells #[.int .u32 0, .int .u16 0, .int .u32 0, .int .u16 0, .int .u32 0, .int .u32 0, .int .u8 0, .int .u16 0, .int .u16 0, .int .i64 0, .bool false, .slice none 0 0, .bool false, .int .u32 0, .int .u32 0, .string ⟨#[]⟩] 39)) := fun _ => by kernel_rfl
  have r2 : ∀ W : World, (Instr.buildSlice 35 1 #[(0, .agg #[.int .u32 t4, .int .u32 nt])]).run Try.prog W = .ok (.slice (some ⟨W.heap.size, 0, none⟩) 1 1) (W.alloc (.cells #[.int .u32 t4, .int .u32 nt] 48)) := fun _ => by kernel_rfl
  have hbt : ∀ y : Cls (Fresh w7), Blk y.w gt 39 #[.int .u32 b2, .int .u16 b3, .int .u32 b0, .int .u16 b1, .int .u32 t4, .int .u32 t5, .int .u8 F, .int .u16 t7, .int .u16 m, .int .i64 sc, .bool sk, .slice A2 n cq, .bool tm, .int .u32 t13, .int .u32 t14, .string d] := fun y => Ht.out.below y.h Ht.out.lt
  have Cf1 := Lib.hid cf1
  clear cf1
  have M1 := Lib.hid m1
  clear m1
  have R1 := Lib.hid r1
  clear r1
  have R2 := Lib.hid r2
  clear r2
  have Hbt := Lib.hid hbt
  clear hbt
  refine wp_region_flow 18 (Fresh w7) (fun w w' => Below w.heap.size w w') (by kernel_rfl) (by kernel_rfl) (by kernel_rfl) (fun w => Below.refl _ _) (Fresh.below hS0 (Below.drew (Below.refl _ _))) ?_
  simp only [List.take_succ_cons, List.take_zero, List.drop_succ_cons, List.drop_zero]
  repeat (first
    | (refine flow_load gt _ Hbt.out segU segI rfl (fun w => Below.refl _ _) rfl rfl rfl w7 ?_; intro K hK; go_big_quiet_op; go_big_quiet_on)
    | (refine flow_quiet (fun w => Below.refl _ _) rfl rfl rfl rfl ?_; intro K hK; go_big_quiet_op; go_big_quiet_on)
    | (refine flow_call Cf1.out _ ?_ rfl rfl rfl _ M1.out w7 ?_; (focus (simp only [List.map_toArray, List.map_cons, List.map_nil]; rfl)); intro K hK; go_big_quiet_op; go_big_quiet_on)
    | (refine flow_build (E := 48) _ ?_ _ R2.out (fun w w' h hb => Fresh.below h hb) rfl rfl rfl w7 ?_; (focus (simp only [List.map_toArray, List.map_cons, List.map_nil]; rfl)); intro K hK; go_big_quiet_op; go_big_quiet_on))
  refine flow_of1 (rowIn (fun u => .agg #[.int .u16 0, .int .i64 (-1), .bool false, u, .bool true, .int .u32 0, .int .u32 t13]) 48 #[.int .u32 t4, .int .u32 nt] 1) 0 rfl rfl rowIn.of (fun w => Below.refl _ _) ?_ rfl rfl w7 ?_
  focus (
    rintro f' w' ⟨g, hg, hb⟩
    have hg2 := List.cons.inj hg
    have hg3 := hg2.1
    refine ⟨(fun u => .agg #[.int .u16 0, .int .i64 (-1), .bool false, u, .bool true, .int .u32 0, .int .u32 t13]) (.slice (some ⟨g, 0, none⟩) 1 1), ?_, g, rfl, hb⟩
    simp only [fillW, Act.put, List.setIfInBounds_toArray, List.set_cons_succ, List.set_cons_zero]
    rw [hg3]
    kernel_rfl)
  intro K hK; go_big_quiet_op; go_big_quiet_on
  refine flow_of1 (rowIn (fun u => .agg #[.int .u32 b0, .int .u16 b1, .int .u32 b2, .int .u16 b3, .int .u32 0, .int .u32 nt, .int .u8 16, .int .u16 0, .int .u16 0, .int .i64 (-1), .bool false, u, .bool true, .int .u32 0, .int .u32 t13, .string ⟨#[]⟩]) 48 #[.int .u32 t4, .int .u32 nt] 1) 0 rfl rfl rowIn.of (fun w => Below.refl _ _) ?_ rfl rfl w7 ?_
  focus (
    rintro f' w' ⟨g, hg, hb⟩
    have hg2 := List.cons.inj hg
    have hg3 := hg2.1
    refine ⟨(fun u => .agg #[.int .u32 b0, .int .u16 b1, .int .u32 b2, .int .u16 b3, .int .u32 0, .int .u32 nt, .int .u8 16, .int .u16 0, .int .u16 0, .int .i64 (-1), .bool false, u, .bool true, .int .u32 0, .int .u32 t13, .string ⟨#[]⟩]) (.slice (some ⟨g, 0, none⟩) 1 1), ?_, g, rfl, hb⟩
    simp only [fillW, Act.put, List.setIfInBounds_toArray, List.set_cons_succ, List.set_cons_zero]
    rw [hg3]
    kernel_rfl)
  intro K hK; go_big_quiet_op; go_big_quiet_on
  refine flow_lay w7.heap.size #[.int .u32 0, .int .u16 0, .int .u32 0, .int .u16 0, .int .u32 0, .int .u32 0, .int .u8 0, .int .u16 0, .int .u16 0, .int .i64 0, .bool false, .slice none 0 0, .bool false, .int .u32 0, .int .u32 0, .string ⟨#[]⟩] R1.out (fun w w' h hb => Fresh.below h hb) (fun w h => Below.size h) rfl rfl w7 ?_
  intro K hK; go_big_quiet_op; go_big_quiet_on
  refine flow_nil ?_
  intro W8 f hW hF
  obtain ⟨gr, hgr, hle_r, hr8⟩ := hF _ List.mem_cons_self
  obtain ⟨gl, hgl, hl8⟩ := hF _ (List.mem_cons_of_mem _ List.mem_cons_self)
  replace hgr := (List.cons.inj hgr).1
  replace hgl := (List.cons.inj hgl).1
  simp only [fillW, Act.put, List.setIfInBounds_toArray, List.set_cons_succ, List.set_cons_zero]
  rw [hgr, hgl]
  generalize f 70 = z70
  generalize f 71 = z71
  clear hF hgr hgl f
  clear HB ne hS0 Cf1 M1 R1 R2 Hbt k0 k1 k2 k3 j0 j1 j2 j3 j4 j5 j6 j7 j8 j9 j10 j11 j12 j13 j14 j15
  have HB := Lib.hid (show Below w7.heap.size w7 W8 from hW)
  clear hW
  have Hl8 := Lib.hid hl8
  clear hl8
  have z0 : W8.cell? ⟨gr, 0, none⟩ = some (.int .u32 0) := hr8.cell 0
  have z1 : W8.cell? ⟨gr, 1, none⟩ = some (.int .u16 0) := hr8.cell 1
  have z2 : W8.cell? ⟨gr, 2, none⟩ = some (.int .u32 0) := hr8.cell 2
  have z3 : W8.cell? ⟨gr, 3, none⟩ = some (.int .u16 0) := hr8.cell 3
  have z4 : W8.cell? ⟨gr, 4, none⟩ = some (.int .u32 0) := hr8.cell 4
  have z5 : W8.cell? ⟨gr, 5, none⟩ = some (.int .u32 0) := hr8.cell 5
  have z6 : W8.cell? ⟨gr, 6, none⟩ = some (.int .u8 0) := hr8.cell 6
  have z7 : W8.cell? ⟨gr, 7, none⟩ = some (.int .u16 0) := hr8.cell 7
  have z8 : W8.cell? ⟨gr, 8, none⟩ = some (.int .u16 0) := hr8.cell 8
  have z9 : W8.cell? ⟨gr, 9, none⟩ = some (.int .i64 0) := hr8.cell 9
  have z10 : W8.cell? ⟨gr, 10, none⟩ = some (.bool false) := hr8.cell 10
  have z11 : W8.cell? ⟨gr, 11, none⟩ = some (.slice none 0 0) := hr8.cell 11
  have z12 : W8.cell? ⟨gr, 12, none⟩ = some (.bool false) := hr8.cell 12
  have z13 : W8.cell? ⟨gr, 13, none⟩ = some (.int .u32 0) := hr8.cell 13
  have z14 : W8.cell? ⟨gr, 14, none⟩ = some (.int .u32 0) := hr8.cell 14
  have z15 : W8.cell? ⟨gr, 15, none⟩ = some (.string ⟨#[]⟩) := hr8.cell 15
  have fr := hr8.frozen
  have Hr8 := Lib.hid hr8
  clear hr8
  go_upto_region 9 with fail
  generalize hWf : World.setCell _ _ _ = W9
  have hr9 : Blk W9 gr 39 #[.int .u32 b0, .int .u16 b1, .int .u32 b2, .int .u16 b3, .int .u32 0, .int .u32 nt, .int .u8 16, .int .u16 0, .int .u16 0, .int .i64 (-1), .bool false, .slice (some ⟨gl, 0, none⟩) 1 1, .bool true, .int .u32 0, .int .u32 t13, .string ⟨#[]⟩] := by
    rw [← hWf]
    have := ((((((((((((((((Hr8.out.set_ 0 (.int .u32 b0)).set_ 1 (.int .u16 b1)).set_ 2 (.int .u32 b2)).set_ 3 (.int .u16 b3)).set_ 4 (.int .u32 0)).set_ 5 (.int .u32 nt)).set_ 6 (.int .u8 16)).set_ 7 (.int .u16 0)).set_ 8 (.int .u16 0)).set_ 9 (.int .i64 (-1))).set_ 10 (.bool false)).set_ 11 (.slice (some ⟨gl, 0, none⟩) 1 1)).set_ 12 (.bool true)).set_ 13 (.int .u32 0)).set_ 14 (.int .u32 t13)).set_ 15 (.string ⟨#[]⟩))
    simpa using this
  have hB9 : Below w7.heap.size w7 W9 := by
    rw [← hWf]
    repeat (refine Below.setCell ?_ hle_r _)
    exact HB.out
  have hg9 : W8.grownBy W9 (some gr) := by
    rw [← hWf]
    repeat (refine only_set ?_ _ _)
    exact World.grownBy.refl _ _
  have hl9 : Blk W9 gl 48 #[.int .u32 t4, .int .u32 nt] := Hl8.out.grown hg9 (fun e => by injection e with e; exact Blk.ne_ Hl8.out Hr8.out (by decide) e)
  clear hWf HB Hr8 Hl8 hg9 fr z0 z1 z2 z3 z4 z5 z6 z7 z8 z9 z10 z11 z12 z13 z14 z15
  have HB := Lib.hid hB9
  have Hrp := Lib.hid hr9
  have Hl9 := Lib.hid hl9
  clear hB9 hr9 hl9
  have hy9 := Hy.out.below HB.out Hy.out.lt
  go_wp2_with (first | (refine wpl_load hy9 shiU shiI rfl _ rfl rfl ?_) | (refine wpl_load Hrp.out segU segI rfl _ rfl rfl ?_))
  (with_reducible refine (Hsy.out _ gl Hl9.out).mono ?_)
  rintro e w10 ⟨A3, cr, rfl, hu2, hbq⟩
  have hrp := Hrp.out.below hbq Hrp.out.lt
  clear Hrp
  have Hrp := Lib.hid hrp
  clear hrp
  have hB := HB.out.trans (hbq.mono HB.out.size)
  clear HB
  have HB := Lib.hid hB
  clear hB
  clear hbq
  have Hu2 := Lib.hid hu2
  clear hu2
  clear Hl9 hy9
  go_upto_region 10 with fail
  have hu2 := Hu2.out.below ((Below.refl _ _).alloc (Nat.le_refl _) (.cells #[.int .u32 a2, .int .u16 a3, .int .u32 a0, .int .u16 a1, .int .u32 u4, .int .u32 ns, .int .u8 16, .int .u16 u7, .int .u16 0, .int .i64 (-1), .bool false, .slice A3 1 cr, .bool true, .int .u32 u13, .int .u32 u14, .string ⟨#[]⟩] 39))
  clear Hu2
  have hu := Blk.new w10 39 #[.int .u32 a2, .int .u16 a3, .int .u32 a0, .int .u16 a1, .int .u32 u4, .int .u32 ns, .int .u8 16, .int .u16 u7, .int .u16 0, .int .i64 (-1), .bool false, .slice A3 1 cr, .bool true, .int .u32 u13, .int .u32 u14, .string ⟨#[]⟩]
  have hrp := Blk.alloc Hrp.out (.cells #[.int .u32 a2, .int .u16 a3, .int .u32 a0, .int .u16 a1, .int .u32 u4, .int .u32 ns, .int .u8 16, .int .u16 u7, .int .u16 0, .int .i64 (-1), .bool false, .slice A3 1 cr, .bool true, .int .u32 u13, .int .u32 u14, .string ⟨#[]⟩] 39)
  clear Hrp
  have hB := HB.out.alloc HB.out.size (.cells #[.int .u32 a2, .int .u16 a3, .int .u32 a0, .int .u16 a1, .int .u32 u4, .int .u32 ns, .int .u8 16, .int .u16 u7, .int .u16 0, .int .i64 (-1), .bool false, .slice A3 1 cr, .bool true, .int .u32 u13, .int .u32 u14, .string ⟨#[]⟩] 39)
  clear HB
  obtain ⟨gu, hge⟩ : ∃ g, g = w10.heap.size := ⟨_, rfl⟩
  rw [← hge] at hu ⊢
  clear hge
  generalize w10.alloc _ = w11 at *
  have Hrp := Lib.hid hrp
  clear hrp
  have Hu := Lib.hid hu
  clear hu
  have HB := Lib.hid hB
  clear hB
  have Hu2 := Lib.hid hu2
  clear hu2
  obtain ⟨rb, off, rfl, hrb, hrc⟩ : ∃ rb off, A3 = some ⟨rb, off, none⟩ ∧ rb < w11.heap.size ∧ ∀ j p, [(s4, ns)][j]? = some p → w11.cell? ⟨rb, off + j * 2, none⟩ = some (.int .u32 p.1) ∧ w11.cell? ⟨rb, off + j * 2 + 1, none⟩ = some (.int .u32 p.2) := by
    rcases Hu2.out with h | h
    · cases h
    · exact h
  have hrc0 := hrc 0 (s4, ns) rfl
  simp at hrc0
  clear hrc Hu2
  have hp := Hp.out.below HB.out Hp.out.lt
  have hs := Hs.out.below HB.out Hs.out.lt
  have hu := Hu.out
  have hS0 : Fresh w11 w11 := Below.refl _ _
  have ne : Nonempty (Cls (Fresh w11)) := ⟨⟨w11, hS0⟩⟩
  have r0 : ∀ y : Cls (Fresh w11), y.w.cell? ⟨rb, off, none⟩ = some (.int .u32 s4) := fun y => (Below.cell y.h (p := ⟨rb, off, none⟩) hrb).trans hrc0.1
  have r1 : ∀ y : Cls (Fresh w11), y.w.cell? ⟨rb, off + 1, none⟩ = some (.int .u32 ns) := fun y => (Below.cell y.h (p := ⟨rb, off + 1, none⟩) hrb).trans hrc0.2
  have k0 : ∀ y : Cls (Fresh w11), y.w.cell? ⟨gp, 0, none⟩ = some (.int .u32 a0) := fun y => (hp.below y.h hp.lt).cell 0
  have k1 : ∀ y : Cls (Fresh w11), y.w.cell? ⟨gp, 1, none⟩ = some (.int .u16 a1) := fun y => (hp.below y.h hp.lt).cell 1
  have k2 : ∀ y : Cls (Fresh w11), y.w.cell? ⟨gp, 2, none⟩ = some (.int .u32 a2) := fun y => (hp.below y.h hp.lt).cell 2
  have k3 : ∀ y : Cls (Fresh w11), y.w.cell? ⟨gp, 3, none⟩ = some (.int .u16 a3) := fun y => (hp.below y.h hp.lt).cell 3
  have j4 : ∀ y : Cls (Fresh w11), y.w.cell? ⟨gs, 4, none⟩ = some (.int .u32 s4) := fun y => (hs.below y.h hs.lt).cell 4
  have j12 : ∀ y : Cls (Fresh w11), y.w.cell? ⟨gs, 12, none⟩ = some (.bool tm) := fun y => (hs.below y.h hs.lt).cell 12
  have j13 : ∀ y : Cls (Fresh w11), y.w.cell? ⟨gs, 13, none⟩ = some (.int .u32 vl) := fun y => (hs.below y.h hs.lt).cell 13
  have i0 : ∀ y : Cls (Fresh w11), y.w.cell? ⟨gu, 0, none⟩ = some (.int .u32 a2) := fun y => (hu.below y.h hu.lt).cell 0
  have i1 : ∀ y : Cls (Fresh w11), y.w.cell? ⟨gu, 1, none⟩ = some (.int .u16 a3) := fun y => (hu.below y.h hu.lt).cell 1
  have i2 : ∀ y : Cls (Fresh w11), y.w.cell? ⟨gu, 2, none⟩ = some (.int .u32 a0) := fun y => (hu.below y.h hu.lt).cell 2
  have i3 : ∀ y : Cls (Fresh w11), y.w.cell? ⟨gu, 3, none⟩ = some (.int .u16 a1) := fun y => (hu.below y.h hu.lt).cell 3
  have i5 : ∀ y : Cls (Fresh w11), y.w.cell? ⟨gu, 5, none⟩ = some (.int .u32 ns) := fun y => (hu.below y.h hu.lt).cell 5
  have i11 : ∀ y : Cls (Fresh w11), y.w.cell? ⟨gu, 11, none⟩ = some (.slice (some ⟨rb, off, none⟩) 1 cr) := fun y => (hu.below y.h hu.lt).cell 11
  have i14 : ∀ y : Cls (Fresh w11), y.w.cell? ⟨gu, 14, none⟩ = some (.int .u32 u14) := fun y => (hu.below y.h hu.lt).cell 14
  have cf1 : ∀ (vals : Array Value) (w : World), (callFunc 11 vals).run Try.prog w = .ok (.enter 11 vals) w := fun _ _ => by kernel_rfl
  have m1 : ∀ y : Cls (Fresh w11), Calls Try.prog 11 #[.agg #[.int .u32 s0, .int .u16 s1, .int .u32 s2, .int .u16 s3, .int .u32 s4, .int .u32 s5, .int .u8 F, .int .u16 s7, .int .u16 m, .int .i64 sc, .bool sk, .slice A n cp, .bool tm, .int .u32 vl, .int .u32 ec, .string d]] y.w fun e w'' => e = .returned (.int .u32 ns) ∧ Fresh w11 w'' ∧ Below y.w.heap.size y.w w'' := fun y => (Hns.out y.w).mono fun e w' ⟨he, hb⟩ => ⟨he, Fresh.below y.h hb, hb⟩
  have hbs : ∀ y : Cls (Fresh w11), Blk y.w gs 39 #[.int .u32 s0, .int .u16 s1, .int .u32 s2, .int .u16 s3, .int .u32 s4, .int .u32 s5, .int .u8 F, .int .u16 s7, .int .u16 m, .int .i64 sc, .bool sk, .slice A n cp, .bool tm, .int .u32 vl, .int .u32 ec, .string d] := fun y => hs.below y.h hs.lt
  have Cf1 := Lib.hid cf1
  clear cf1
  have M1 := Lib.hid m1
  clear m1
  have Hbs := Lib.hid hbs
  clear hbs
  clear hp hs hu hrb hrc0
  go_cut [135] from 79 to 135 (fun v wx => v = .bool false ∧ Below w11.heap.size w11 wx)
  case first =>
    have e14 : tm = true → u14 = vl := fun h => (F4.out h).1
    cases tm
    · clear e14
      refine wp_region_flow 57 (Fresh w11) (fun w w' => Below w.heap.size w w') (by kernel_rfl) (by kernel_rfl) (by kernel_rfl) (fun w => Below.refl _ _) (Fresh.below hS0 (Below.drew (Below.refl _ _))) ?_
      simp only [List.take_succ_cons, List.take_zero, List.drop_succ_cons, List.drop_zero]
      repeat (first
        | (refine flow_skip rfl rfl w11 ?_; intro K hK; go_big_quiet_op; go_big_quiet_on)
        | (refine flow_load gs _ Hbs.out segU segI rfl (fun w => Below.refl _ _) rfl rfl rfl w11 ?_; intro K hK; go_big_quiet_op; go_big_quiet_on)
        | (refine flow_quiet (fun w => Below.refl _ _) rfl rfl rfl rfl ?_; intro K hK; go_big_quiet_op; go_big_quiet_on)
        | (refine flow_call Cf1.out _ ?_ rfl rfl rfl _ M1.out w11 ?_; (focus (simp only [List.map_toArray, List.map_cons, List.map_nil]; rfl)); intro K hK; go_big_quiet_op; go_big_quiet_on))
      refine flow_nil ?_
      intro W12 f hW hF
      simp only [fillW]
      have HW := Lib.hid hW
      clear hF f hW
      go_wp2
      go_meet
      case rel => exact ⟨rfl, HW.out⟩
    · have e15 := e14 rfl
      subst e15
      refine wp_region_flow 57 (Fresh w11) (fun w w' => Below w.heap.size w w') (by kernel_rfl) (by kernel_rfl) (by kernel_rfl) (fun w => Below.refl _ _) (Fresh.below hS0 (Below.drew (Below.refl _ _))) ?_
      simp only [List.take_succ_cons, List.take_zero, List.drop_succ_cons, List.drop_zero]
      repeat (first
        | (refine flow_skip rfl rfl w11 ?_; intro K hK; go_big_quiet_op; go_big_quiet_on)
        | (refine flow_load gs _ Hbs.out segU segI rfl (fun w => Below.refl _ _) rfl rfl rfl w11 ?_; intro K hK; go_big_quiet_op; go_big_quiet_on)
        | (refine flow_quiet (fun w => Below.refl _ _) rfl rfl rfl rfl ?_; intro K hK; go_big_quiet_op; go_big_quiet_on)
        | (refine flow_call Cf1.out _ ?_ rfl rfl rfl _ M1.out w11 ?_; (focus (simp only [List.map_toArray, List.map_cons, List.map_nil]; rfl)); intro K hK; go_big_quiet_op; go_big_quiet_on))
      refine flow_nil ?_
      intro W12 f hW hF
      simp only [fillW]
      have HW := Lib.hid hW
      clear hF f hW
      go_wp2
      go_meet
      case rel => exact ⟨rfl, HW.out⟩
  case rest =>
    obtain ⟨rfl, hb12⟩ := hcut
    generalize hWc : wc = W12 at *
    have hB := HB.out.trans (hb12.mono HB.out.size)
    clear hWc HB hb12
    have HB := Lib.hid hB
    clear hB hS0 ne Cf1 M1 Hbs Hu Hrp r0 r1 k0 k1 k2 k3 j4 j12 j13 i0 i1 i2 i3 i5 i11 i14
    have hp := Hp.out.below HB.out Hp.out.lt
    have k4 : W12.cell? ⟨gp, 4, none⟩ = some (.int .u32 a4) := hp.cell 4
    have k5 : W12.cell? ⟨gp, 5, none⟩ = some (.int .u32 a5) := hp.cell 5
    clear hp
    have hq := Hq.out.below HB.out Hq.out.lt
    have j4 : W12.cell? ⟨gq, 4, none⟩ = some (.int .u32 b4) := hq.cell 4
    have j5 : W12.cell? ⟨gq, 5, none⟩ = some (.int .u32 b5) := hq.cell 5
    clear hq
    have hs := Hs.out.below HB.out Hs.out.lt
    have i4 : W12.cell? ⟨gs, 4, none⟩ = some (.int .u32 s4) := hs.cell 4
    have i5 : W12.cell? ⟨gs, 5, none⟩ = some (.int .u32 s5) := hs.cell 5
    have i6 : W12.cell? ⟨gs, 6, none⟩ = some (.int .u8 F) := hs.cell 6
    have i11 : W12.cell? ⟨gs, 11, none⟩ = some (.slice A n cp) := hs.cell 11
    clear hs
    have ht := Ht.out.below HB.out Ht.out.lt
    have r4 : W12.cell? ⟨gt, 4, none⟩ = some (.int .u32 t4) := ht.cell 4
    have r5 : W12.cell? ⟨gt, 5, none⟩ = some (.int .u32 t5) := ht.cell 5
    have r11 : W12.cell? ⟨gt, 11, none⟩ = some (.slice A2 n cq) := ht.cell 11
    clear ht
    have i8 : (n : Int) ≤ 100 := by have := Hn.out; omega
    have i9 : (0 : Int) ≤ (n : Int) := by omega
    go_upto_region 12 with fail
    go_cut [176] from 136 to 176 (fun v wx => v = .bool false ∧ wx = W12)
    case first =>
      have hak := Hak.out
      have f1 := F1.out
      have f2 := F2.out
      clear Hak F1 F2
      cases ak with
      | false =>
        clear f2
        go_wp2_with fail
        go_meet
        case rel => exact ⟨rfl, rfl⟩
      | true =>
        have f3 := f2 rfl
        clear f2
        go_wp2_with fail
        go_meet
        case rel => exact ⟨rfl, rfl⟩
    case rest =>
      obtain ⟨rfl, rfl⟩ := hcut
      clear i4 i5 i6 i11 r4 r5 r11 k4 k5 j4 j5
      go_upto_region 14 with fail
      go_wp2_with fail
      go_loopw [16, 17, 18] (fun i p q wr => ∃ k : Nat, i = .int .i64 (k : Int) ∧ k ≤ n ∧ Below w7.heap.size w7 wr) (fun i _ _ _ => n - (intOf i).toNat)
      case atStart => exact ⟨0, rfl, Nat.zero_le _, HB.out⟩
      case round =>
        clear HB
        obtain ⟨k, rfl, hkn, hB3⟩ := hrel
        have hs := Hs.out.below hB3 Hs.out.lt
        have ht := Ht.out.below hB3 Ht.out.lt
        have hp := Hp.out.below hB3 Hp.out.lt
        have hq := Hq.out.below hB3 Hq.out.lt
        have hs11 : wr.cell? ⟨gs, 11, none⟩ = some (.slice A n cp) := hs.cell 11
        by_cases hk : k < n
        · have j1 : (k : Int) < (n : Int) := by omega
          have j0 : (0 : Int) ≤ (k : Int) := by omega
          obtain ⟨p1, p2, hp1⟩ : ∃ p1 p2, l[k]? = some (p1, p2) := ⟨(l[k]'(by rw [Hln.out]; exact hk)).1, (l[k]'(by rw [Hln.out]; exact hk)).2, by rw [List.getElem?_eq_getElem (by rw [Hln.out]; exact hk)]⟩
          obtain ⟨q1, q2, hq1⟩ : ∃ q1 q2, l2[k]? = some (q1, q2) := ⟨(l2[k]'(by rw [Hl2.out]; exact hk)).1, (l2[k]'(by rw [Hl2.out]; exact hk)).2, by rw [List.getElem?_eq_getElem (by rw [Hl2.out]; exact hk)]⟩
          obtain ⟨g1, g2⟩ := F3.out k _ _ hp1 hq1
          simp only at g1 g2
          obtain ⟨rb1, of1, e1, hb1, hc1⟩ : ∃ rb off, A = some ⟨rb, off, none⟩ ∧ rb < wr.heap.size ∧ ∀ j p, l[j]? = some p → wr.cell? ⟨rb, off + j * 2, none⟩ = some (.int .u32 p.1) ∧ wr.cell? ⟨rb, off + j * 2 + 1, none⟩ = some (.int .u32 p.2) := by
            rcases Hr.out.below hB3 with h | h
            · rw [h] at hp1; simp at hp1
            · exact h
          obtain ⟨rb2, of2, e2, hb2, hc2⟩ : ∃ rb off, A2 = some ⟨rb, off, none⟩ ∧ rb < wr.heap.size ∧ ∀ j p, l2[j]? = some p → wr.cell? ⟨rb, off + j * 2, none⟩ = some (.int .u32 p.1) ∧ wr.cell? ⟨rb, off + j * 2 + 1, none⟩ = some (.int .u32 p.2) := by
            rcases Ht2.out.below hB3 with h | h
            · rw [h] at hq1; simp at hq1
            · exact h
          subst e1 e2
          obtain ⟨x1, x2⟩ := hc1 k _ hp1
          obtain ⟨y1, y2⟩ := hc2 k _ hq1
          simp only at x1 x2 y1 y2
          clear hc1 hc2 hp1 hq1
          have ht11 : wr.cell? ⟨gt, 11, none⟩ = some (.slice (some ⟨rb2, of2, none⟩) n cq) := ht.cell 11
          have hmk : ∀ W, Below wr.heap.size wr W → (fun W => Below wr.heap.size wr W ∧ W.cell? ⟨gs, 11, none⟩ = some (.slice (some ⟨rb1, of1, none⟩) n cp) ∧ W.cell? ⟨gt, 11, none⟩ = some (.slice (some ⟨rb2, of2, none⟩) n cq) ∧ W.cell? ⟨rb1, of1 + k * 2, none⟩ = some (.int .u32 p1) ∧ W.cell? ⟨rb1, of1 + k * 2 + 1, none⟩ = some (.int .u32 p2) ∧ W.cell? ⟨rb2, of2 + k * 2, none⟩ = some (.int .u32 q1) ∧ W.cell? ⟨rb2, of2 + k * 2 + 1, none⟩ = some (.int .u32 q2)) W := fun W hb => ⟨hb, (hb.cell (p := ⟨gs, 11, none⟩) hs.lt).trans hs11, (hb.cell (p := ⟨gt, 11, none⟩) ht.lt).trans ht11, (hb.cell (p := ⟨rb1, of1 + k * 2, none⟩) hb1).trans x1, (hb.cell (p := ⟨rb1, of1 + k * 2 + 1, none⟩) hb1).trans x2, (hb.cell (p := ⟨rb2, of2 + k * 2, none⟩) hb2).trans y1, (hb.cell (p := ⟨rb2, of2 + k * 2 + 1, none⟩) hb2).trans y2⟩
          have hS0 : (fun W => Below wr.heap.size wr W ∧ W.cell? ⟨gs, 11, none⟩ = some (.slice (some ⟨rb1, of1, none⟩) n cp) ∧ W.cell? ⟨gt, 11, none⟩ = some (.slice (some ⟨rb2, of2, none⟩) n cq) ∧ W.cell? ⟨rb1, of1 + k * 2, none⟩ = some (.int .u32 p1) ∧ W.cell? ⟨rb1, of1 + k * 2 + 1, none⟩ = some (.int .u32 p2) ∧ W.cell? ⟨rb2, of2 + k * 2, none⟩ = some (.int .u32 q1) ∧ W.cell? ⟨rb2, of2 + k * 2 + 1, none⟩ = some (.int .u32 q2)) wr := hmk _ (Below.refl _ _)
          have Hmk := Lib.hid hmk
          clear hmk
          go_upto_region 17 with fail
          go_region_held3 (fun W => Below wr.heap.size wr W ∧ W.cell? ⟨gs, 11, none⟩ = some (.slice (some ⟨rb1, of1, none⟩) n cp) ∧ W.cell? ⟨gt, 11, none⟩ = some (.slice (some ⟨rb2, of2, none⟩) n cq) ∧ W.cell? ⟨rb1, of1 + k * 2, none⟩ = some (.int .u32 p1) ∧ W.cell? ⟨rb1, of1 + k * 2 + 1, none⟩ = some (.int .u32 p2) ∧ W.cell? ⟨rb2, of2 + k * 2, none⟩ = some (.int .u32 q1) ∧ W.cell? ⟨rb2, of2 + k * 2 + 1, none⟩ = some (.int .u32 q2)) (exact Hmk.out _ (by repeat (first | (with_reducible exact Below.refl _ _) | (refine Below.drew ?_) | (refine Below.alloc ?_ (by simp <;> omega) _)))) (fail)
          all_goals
            have k4 : wr.cell? ⟨gp, 4, none⟩ = some (.int .u32 a4) := hp.cell 4
            have j5 : wr.cell? ⟨gq, 5, none⟩ = some (.int .u32 b5) := hq.cell 5
            have kl := hp.lt
            have jl := hq.lt
            clear hs ht hp hq Hmk
            go_upto_region 18 with fail
            go_wp2_with fail
            go_roundw
            case rel => exact ⟨k + 1, by go_num, by omega, hB3.trans (Below.mono (by repeat (first | (with_reducible exact Below.refl _ _) | (refine Below.drew ?_) | (refine Below.alloc ?_ (by simp <;> omega) _))) hB3.size)⟩
            case measure => simp [intOf]; omega
        · obtain rfl : n = k := by omega
          have j1 : ¬ ((n : Int) < (n : Int)) := by omega
          go_upto_region 20 with fail
          have HB := Lib.hid hB3
          clear hB3 hs11
          have i12 : wr.cell? ⟨gs, 12, none⟩ = some (.bool tm) := hs.cell 12
          go_cut [253] from 221 to 253 (fun v wx => v = .bool false ∧ wr = wx)
          case first =>
            have i13 : wr.cell? ⟨gs, 13, none⟩ = some (.int .u32 vl) := hs.cell 13
            have i14 : wr.cell? ⟨gs, 14, none⟩ = some (.int .u32 ec) := hs.cell 14
            have r13 : wr.cell? ⟨gt, 13, none⟩ = some (.int .u32 t13) := ht.cell 13
            have r14 : wr.cell? ⟨gt, 14, none⟩ = some (.int .u32 t14) := ht.cell 14
            have k6 : wr.cell? ⟨gp, 6, none⟩ = some (.int .u32 a6) := hp.cell 6
            have k7 : wr.cell? ⟨gp, 7, none⟩ = some (.int .u32 a7) := hp.cell 7
            have j6 : wr.cell? ⟨gq, 6, none⟩ = some (.int .u32 b6) := hq.cell 6
            have j7 : wr.cell? ⟨gq, 7, none⟩ = some (.int .u32 b7) := hq.cell 7
            clear hs ht hp hq
            have f4 := F4.out
            clear F4
            cases tm with
            | false =>
              clear f4
              go_wp2_with fail
              go_meet
              case rel => exact ⟨rfl, rfl⟩
            | true =>
              have f5 := (f4 rfl).2.1
              have f6 := (f4 rfl).2.2
              clear f4
              go_wp2_with fail
              go_meet
              case rel => exact ⟨rfl, rfl⟩
          case rest =>
            obtain ⟨rfl, rfl⟩ := hcut
            clear i12
            go_upto_region 22 with fail
            have hS0 : Fresh wr wr := Below.refl _ _
            have ne : Nonempty (Cls (Fresh wr)) := ⟨⟨wr, hS0⟩⟩
            have k15 : ∀ y : Cls (Fresh wr), y.w.cell? ⟨gs, 15, none⟩ = some (.string d) := fun y => (hs.below y.h hs.lt).cell 15
            have k6 : ∀ y : Cls (Fresh wr), y.w.cell? ⟨gs, 6, none⟩ = some (.int .u8 F) := fun y => (hs.below y.h hs.lt).cell 6
            have k4 : ∀ y : Cls (Fresh wr), y.w.cell? ⟨gs, 4, none⟩ = some (.int .u32 s4) := fun y => (hs.below y.h hs.lt).cell 4
            have j15 : ∀ y : Cls (Fresh wr), y.w.cell? ⟨gt, 15, none⟩ = some (.string d) := fun y => (ht.below y.h ht.lt).cell 15
            have j6 : ∀ y : Cls (Fresh wr), y.w.cell? ⟨gt, 6, none⟩ = some (.int .u8 F) := fun y => (ht.below y.h ht.lt).cell 6
            have j4 : ∀ y : Cls (Fresh wr), y.w.cell? ⟨gt, 4, none⟩ = some (.int .u32 t4) := fun y => (ht.below y.h ht.lt).cell 4
            have cf1 : ∀ (vals : Array Value) (w : World), (callFunc 11 vals).run Try.prog w = .ok (.enter 11 vals) w := fun _ _ => by kernel_rfl
            have cf2 : ∀ (vals : Array Value) (w : World), (callFunc 7 vals).run Try.prog w = .ok (.enter 7 vals) w := fun _ _ => by kernel_rfl
            have m1 : ∀ y : Cls (Fresh wr), Calls Try.prog 11 #[.agg #[.int .u32 s0, .int .u16 s1, .int .u32 s2, .int .u16 s3, .int .u32 s4, .int .u32 s5, .int .u8 F, .int .u16 s7, .int .u16 m, .int .i64 sc, .bool sk, .slice A n cp, .bool tm, .int .u32 vl, .int .u32 ec, .string d]] y.w fun e w'' => e = .returned (.int .u32 ns) ∧ Fresh wr w'' ∧ Below y.w.heap.size y.w w'' := fun y => (Hns.out y.w).mono fun e w' ⟨he, hb⟩ => ⟨he, Fresh.below y.h hb, hb⟩
            have m2 : ∀ y : Cls (Fresh wr), Calls Try.prog 11 #[.agg #[.int .u32 b2, .int .u16 b3, .int .u32 b0, .int .u16 b1, .int .u32 t4, .int .u32 t5, .int .u8 F, .int .u16 t7, .int .u16 m, .int .i64 sc, .bool sk, .slice A2 n cq, .bool tm, .int .u32 t13, .int .u32 t14, .string d]] y.w fun e w'' => e = .returned (.int .u32 nt) ∧ Fresh wr w'' ∧ Below y.w.heap.size y.w w'' := fun y => (Hnt.out A2 cq y.w).mono fun e w' ⟨he, hb⟩ => ⟨he, Fresh.below y.h hb, hb⟩
            have m3 : ∀ y : Cls (Fresh wr), Calls Try.prog 7 #[] y.w fun e w'' => e = .returned (.bool true) ∧ Fresh wr w'' ∧ Below y.w.heap.size y.w w'' := fun y => (alive26 y.w).mono fun e w' ⟨he, hb⟩ => ⟨he, Fresh.below y.h hb, hb⟩
            have hbs : ∀ y : Cls (Fresh wr), Blk y.w gs 39 #[.int .u32 s0, .int .u16 s1, .int .u32 s2, .int .u16 s3, .int .u32 s4, .int .u32 s5, .int .u8 F, .int .u16 s7, .int .u16 m, .int .i64 sc, .bool sk, .slice A n cp, .bool tm, .int .u32 vl, .int .u32 ec, .string d] := fun y => hs.below y.h hs.lt
            have hbt : ∀ y : Cls (Fresh wr), Blk y.w gt 39 #[.int .u32 b2, .int .u16 b3, .int .u32 b0, .int .u16 b1, .int .u32 t4, .int .u32 t5, .int .u8 F, .int .u16 t7, .int .u16 m, .int .i64 sc, .bool sk, .slice A2 n cq, .bool tm, .int .u32 t13, .int .u32 t14, .string d] := fun y => ht.below y.h ht.lt
            have Cf1 := Lib.hid cf1
            clear cf1
            have Cf2 := Lib.hid cf2
            clear cf2
            have M1 := Lib.hid m1
            clear m1
            have M2 := Lib.hid m2
            clear m2
            have M3 := Lib.hid m3
            clear m3
            have Hbs := Lib.hid hbs
            clear hbs
            have Hbt := Lib.hid hbt
            clear hbt
            clear hp hq hs ht
            have f5 : (IntKind.u32.wrap (nt - t4) == IntKind.u32.wrap (ns - s4)) = true := by rw [IntKind.wrap_u32, IntKind.wrap_u32, F5.out]; exact beq_self_eq_true _
            have f6 : ((nt - t4) % 4294967296 == (ns - s4) % 4294967296) = true := by rw [F5.out]; exact beq_self_eq_true _
            clear F5
            refine wp_region_flow 29 (Fresh wr) (fun w w' => Below w.heap.size w w') (by kernel_rfl) (by kernel_rfl) (by kernel_rfl) (fun w => Below.refl _ _) (Fresh.below hS0 (Below.drew (Below.refl _ _))) ?_
            simp only [List.take_succ_cons, List.take_zero, List.drop_succ_cons, List.drop_zero]
            repeat (first
              | (refine flow_load gs _ Hbs.out segU segI rfl (fun w => Below.refl _ _) rfl rfl rfl wr ?_; intro K hK; go_big_quiet_op; go_big_quiet_on)
              | (refine flow_load gt _ Hbt.out segU segI rfl (fun w => Below.refl _ _) rfl rfl rfl wr ?_; intro K hK; go_big_quiet_op; go_big_quiet_on)
              | (refine flow_quiet (fun w => Below.refl _ _) rfl rfl rfl rfl ?_; intro K hK; go_big_quiet_op; go_big_quiet_on)
              | (refine flow_call Cf1.out _ ?_ rfl rfl rfl _ M1.out wr ?_; (focus (simp only [List.map_toArray, List.map_cons, List.map_nil]; rfl)); intro K hK; go_big_quiet_op; go_big_quiet_on)
              | (refine flow_call Cf1.out _ ?_ rfl rfl rfl _ M2.out wr ?_; (focus (simp only [List.map_toArray, List.map_cons, List.map_nil]; rfl)); intro K hK; go_big_quiet_op; go_big_quiet_on)
              | (refine flow_call Cf2.out _ ?_ rfl rfl rfl _ M3.out wr ?_; (focus simp); intro K hK; go_big_quiet_op; go_big_quiet_on))
            refine flow_nil ?_
            intro W13 f hW hF
            simp only [fillW]
            have HW := Lib.hid hW
            clear hF f hW
            go_wp2
            go_ret
            exact ⟨rfl, Hbw.out.trans ((HB.out.trans (HW.out.mono HB.out.size)).mono Hbw.out.size)⟩
          all_goals sorry
end Go.Proofs.Ytgppkfdhfphoeaa
