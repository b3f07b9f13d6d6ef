/- Contracts of the reference: transomref26.Seg, of any segment by any shift. -/
import Derived.Test.YtgppkfdhfphoeaaShiftSeg
import Derived.Test.YtgppkfdhfphoeaaShiftRefT
set_option linter.unusedVariables false
set_option linter.unusedSimpArgs false
namespace Go.Proofs.Ytgppkfdhfphoeaa
open Go.RowKit Go.BigFrame

set_option maxRecDepth 100000 in
set_option maxHeartbeats 4000000 in
theorem rseg_no (w : World) (s0 s1 s2 s3 s4 s5 : Int) (f : Nat) (s7 : Int) (o : Op) (A : Option Addr) (c : Nat) (d : ByteArray) (x0 x1 x2 x3 x4 x5 x6 x7 x8 x9 : Int) (ho : o.wf) (hr : BlR w A o.bl) (hn : o.bl.length ≤ 1000) (hf : f < 256) (hd : d.size ≤ maxLen) (hp : pmayB f o d = false) :
    Calls Try.prog 13 #[.agg #[.int .u32 x0, .int .u16 x1, .int .u32 x2, .int .u16 x3, .int .u32 x4, .int .u32 x5, .int .u32 x6, .int .u32 x7, .int .i64 x8, .int .i64 x9], .agg (segO s0 s1 s2 s3 s4 s5 f s7 o A c d)] w fun e w' => e = .returned segNo ∧ Below w.heap.size w w' := by
  have hpm := fun W (h : BlR W A o.bl) => rpmay_any W s0 s1 s2 s3 s4 s5 f s7 o A c d ho h hn hf hd
  rw [hp] at hpm
  have hb0 : Below w.heap.size w w := Below.refl _ _
  unfold segO at hpm ⊢
  clear hp ho hn hf hd
  generalize o.bl.length = n at *
  generalize (o.mss : Int) = m at *
  generalize (o.val : Int) = vl at *
  generalize (o.echo : Int) = ec at *
  generalize o.scale = sc at *
  generalize o.sack = sk at *
  generalize o.time = tm at *
  generalize (f : Int) = F at *
  unfold segNo
  have HP := Lib.hid hpm
  have HB := Lib.hid hb0
  have HR := Lib.hid hr
  clear hpm hb0 hr
  go_enter Try.func13, Try.ntmps13
  go_upto_region 1 with fail
  have hx := Blk.alloc (Blk.alloc (Blk.new w 27 #[.int .u32 x0, .int .u16 x1, .int .u32 x2, .int .u16 x3, .int .u32 x4, .int .u32 x5, .int .u32 x6, .int .u32 x7, .int .i64 x8, .int .i64 x9]) (.cells #[.int .u32 s0, .int .u16 s1, .int .u32 s2, .int .u16 s3, .int .u32 s4, .int .u32 s5, .int .u8 F, .int .u16 s7, .int .u16 m, .int .i64 sc, .bool sk, .slice A n c, .bool tm, .int .u32 vl, .int .u32 ec, .string d] 39)) (.cells #[.int .u32 0, .int .u16 0, .int .u32 0, .int .u16 0, .int .u32 0, .int .u32 0, .int .u8 0, .int .u16 0, .int .u16 0, .int .i64 0, .bool false, .slice none 0 0, .bool false, .int .u32 0, .int .u32 0, .string ⟨#[]⟩] 39)
  have hs := Blk.alloc (Blk.new (w.alloc (.cells #[.int .u32 x0, .int .u16 x1, .int .u32 x2, .int .u16 x3, .int .u32 x4, .int .u32 x5, .int .u32 x6, .int .u32 x7, .int .i64 x8, .int .i64 x9] 27)) 39 #[.int .u32 s0, .int .u16 s1, .int .u32 s2, .int .u16 s3, .int .u32 s4, .int .u32 s5, .int .u8 F, .int .u16 s7, .int .u16 m, .int .i64 sc, .bool sk, .slice A n c, .bool tm, .int .u32 vl, .int .u32 ec, .string d]) (.cells #[.int .u32 0, .int .u16 0, .int .u32 0, .int .u16 0, .int .u32 0, .int .u32 0, .int .u8 0, .int .u16 0, .int .u16 0, .int .i64 0, .bool false, .slice none 0 0, .bool false, .int .u32 0, .int .u32 0, .string ⟨#[]⟩] 39)
  rw [show (w.alloc (.cells #[.int .u32 x0, .int .u16 x1, .int .u32 x2, .int .u16 x3, .int .u32 x4, .int .u32 x5, .int .u32 x6, .int .u32 x7, .int .i64 x8, .int .i64 x9] 27)).heap.size = w.heap.size + 1 by simp] at hs
  have hr := Blk.new ((w.alloc (.cells #[.int .u32 x0, .int .u16 x1, .int .u32 x2, .int .u16 x3, .int .u32 x4, .int .u32 x5, .int .u32 x6, .int .u32 x7, .int .i64 x8, .int .i64 x9] 27)).alloc (.cells #[.int .u32 s0, .int .u16 s1, .int .u32 s2, .int .u16 s3, .int .u32 s4, .int .u32 s5, .int .u8 F, .int .u16 s7, .int .u16 m, .int .i64 sc, .bool sk, .slice A n c, .bool tm, .int .u32 vl, .int .u32 ec, .string d] 39)) 39 #[.int .u32 0, .int .u16 0, .int .u32 0, .int .u16 0, .int .u32 0, .int .u32 0, .int .u8 0, .int .u16 0, .int .u16 0, .int .i64 0, .bool false, .slice none 0 0, .bool false, .int .u32 0, .int .u32 0, .string ⟨#[]⟩]
  rw [show ((w.alloc (.cells #[.int .u32 x0, .int .u16 x1, .int .u32 x2, .int .u16 x3, .int .u32 x4, .int .u32 x5, .int .u32 x6, .int .u32 x7, .int .i64 x8, .int .i64 x9] 27)).alloc (.cells #[.int .u32 s0, .int .u16 s1, .int .u32 s2, .int .u16 s3, .int .u32 s4, .int .u32 s5, .int .u8 F, .int .u16 s7, .int .u16 m, .int .i64 sc, .bool sk, .slice A n c, .bool tm, .int .u32 vl, .int .u32 ec, .string d] 39)).heap.size = w.heap.size + 2 by simp] at hr
  have hB := Below.alloc (Below.alloc (Below.alloc (HB.out) (Nat.le_trans HB.out.size (by simp <;> omega)) (.cells #[.int .u32 x0, .int .u16 x1, .int .u32 x2, .int .u16 x3, .int .u32 x4, .int .u32 x5, .int .u32 x6, .int .u32 x7, .int .i64 x8, .int .i64 x9] 27)) (Nat.le_trans HB.out.size (by simp <;> omega)) (.cells #[.int .u32 s0, .int .u16 s1, .int .u32 s2, .int .u16 s3, .int .u32 s4, .int .u32 s5, .int .u8 F, .int .u16 s7, .int .u16 m, .int .i64 sc, .bool sk, .slice A n c, .bool tm, .int .u32 vl, .int .u32 ec, .string d] 39)) (Nat.le_trans HB.out.size (by simp <;> omega)) (.cells #[.int .u32 0, .int .u16 0, .int .u32 0, .int .u16 0, .int .u32 0, .int .u32 0, .int .u8 0, .int .u16 0, .int .u16 0, .int .i64 0, .bool false, .slice none 0 0, .bool false, .int .u32 0, .int .u32 0, .string ⟨#[]⟩] 39)
  clear HB
  obtain ⟨gr, hger⟩ : ∃ g, g = w.heap.size + 2 := ⟨_, rfl⟩
  rw [← hger] at hr ⊢
  obtain ⟨gs, hges⟩ : ∃ g, g = w.heap.size + 1 := ⟨_, rfl⟩
  rw [← hges] at hs ⊢
  obtain ⟨gx, hgex⟩ : ∃ g, g = w.heap.size := ⟨_, rfl⟩
  rw [← hgex] at hx ⊢
  have hne_x_s : gx ≠ gs := by omega
  have hne_x_r : gx ≠ gr := by omega
  have hne_s_r : gs ≠ gr := by omega
  have hle_x : w.heap.size ≤ gx := by omega
  have hle_s : w.heap.size ≤ gs := by omega
  have hle_r : w.heap.size ≤ gr := by omega
  clear hgex hges hger
  generalize ((w.alloc _).alloc _).alloc _ = wn1 at *
  have Hx := Lib.hid hx
  clear hx
  have Hs := Lib.hid hs
  clear hs
  have Hr := Lib.hid hr
  clear hr
  have HB := Lib.hid hB
  clear hB
  have hr1 := HR.out.below HB.out
  have c0 := Hs.out.cell 0
  have c1 := Hs.out.cell 1
  have c2 := Hs.out.cell 2
  have c3 := Hs.out.cell 3
  have c4 := Hs.out.cell 4
  have c5 := Hs.out.cell 5
  have c6 := Hs.out.cell 6
  have c7 := Hs.out.cell 7
  have c8 := Hs.out.cell 8
  have c9 := Hs.out.cell 9
  have c10 := Hs.out.cell 10
  have c11 := Hs.out.cell 11
  have c12 := Hs.out.cell 12
  have c13 := Hs.out.cell 13
  have c14 := Hs.out.cell 14
  have c15 := Hs.out.cell 15
  simp at c0 c1 c2 c3 c4 c5 c6 c7 c8 c9 c10 c11 c12 c13 c14 c15
  go_wp2_with fail
  (with_reducible refine (HP.out _ hr1).mono ?_)
  rintro e w2 ⟨rfl, hbq⟩
  have hx := Hx.out.below hbq Hx.out.lt
  clear Hx
  have Hx := Lib.hid hx
  clear hx
  have hs := Hs.out.below hbq Hs.out.lt
  clear Hs
  have Hs := Lib.hid hs
  clear hs
  have hr := Hr.out.below hbq Hr.out.lt
  clear Hr
  have Hr := Lib.hid hr
  clear hr
  have hB := HB.out.trans (hbq.mono HB.out.size)
  clear HB
  have HB := Lib.hid hB
  clear hB
  clear hbq
  clear hr1
  clear c0 c1 c2 c3 c4 c5 c6 c7 c8 c9 c10 c11 c12 c13 c14 c15
  have d0 := Hr.out.cell 0
  have d1 := Hr.out.cell 1
  have d2 := Hr.out.cell 2
  have d3 := Hr.out.cell 3
  have d4 := Hr.out.cell 4
  have d5 := Hr.out.cell 5
  have d6 := Hr.out.cell 6
  have d7 := Hr.out.cell 7
  have d8 := Hr.out.cell 8
  have d9 := Hr.out.cell 9
  have d10 := Hr.out.cell 10
  have d11 := Hr.out.cell 11
  have d12 := Hr.out.cell 12
  have d13 := Hr.out.cell 13
  have d14 := Hr.out.cell 14
  have d15 := Hr.out.cell 15
  simp at d0 d1 d2 d3 d4 d5 d6 d7 d8 d9 d10 d11 d12 d13 d14 d15
  have fr := Hr.out.frozen
  go_wp2
  generalize hWf : World.setCell _ _ _ = Wf
  have hf : Blk Wf gr 39 #[.int .u32 0, .int .u16 0, .int .u32 0, .int .u16 0, .int .u32 0, .int .u32 0, .int .u8 0, .int .u16 0, .int .u16 0, .int .i64 0, .bool false, .slice none 0 0, .bool false, .int .u32 0, .int .u32 0, .string ⟨#[]⟩] := by
    rw [← hWf]
    have := (((((((((((((((Hr.out.set_ 0 (.int .u32 0)).set_ 1 (.int .u16 0)).set_ 2 (.int .u32 0)).set_ 3 (.int .u16 0)).set_ 4 (.int .u32 0)).set_ 5 (.int .u32 0)).set_ 6 (.int .u8 0)).set_ 7 (.int .u16 0)).set_ 8 (.int .u16 0)).set_ 9 (.int .i64 0)).set_ 10 (.bool false)).set_ 11 (.slice none 0 0)).set_ 12 (.bool false)).set_ 13 (.int .u32 0)).set_ 14 (.int .u32 0)).set_ 15 (.string ⟨#[]⟩)
    simpa using this
  have hBf : Below w.heap.size w Wf := by
    rw [← hWf]
    repeat (refine Below.setCell ?_ hle_r _)
    exact HB.out
  clear hWf d0 d1 d2 d3 d4 d5 d6 d7 d8 d9 d10 d11 d12 d13 d14 d15 fr
  have z0 := hf.cell 0
  have z1 := hf.cell 1
  have z2 := hf.cell 2
  have z3 := hf.cell 3
  have z4 := hf.cell 4
  have z5 := hf.cell 5
  have z6 := hf.cell 6
  have z7 := hf.cell 7
  have z8 := hf.cell 8
  have z9 := hf.cell 9
  have z10 := hf.cell 10
  have z11 := hf.cell 11
  have z12 := hf.cell 12
  have z13 := hf.cell 13
  have z14 := hf.cell 14
  have z15 := hf.cell 15
  simp at z0 z1 z2 z3 z4 z5 z6 z7 z8 z9 z10 z11 z12 z13 z14 z15
  exact bodyPost_ret (v := .tuple #[.agg #[.int .u32 0, .int .u16 0, .int .u32 0, .int .u16 0, .int .u32 0, .int .u32 0, .int .u8 0, .int .u16 0, .int .u16 0, .int .i64 0, .bool false, .slice none 0 0, .bool false, .int .u32 0, .int .u32 0, .string ⟨#[]⟩], .int .i64 2]) (by simp [results, Try.results13, go_sem, z0, z1, z2, z3, z4, z5, z6, z7, z8, z9, z10, z11, z12, z13, z14, z15]) rfl ⟨rfl, hBf⟩
set_option maxRecDepth 100000 in
set_option maxHeartbeats 4000000 in
theorem rseg_yes (w : World) (s0 s1 s2 s3 s4 s5 : Int) (f : Nat) (s7 : Int) (o : Op) (A : Option Addr) (c : Nat) (d : ByteArray) (x0 x1 x2 x3 x4 x5 x6 x7 x8 x9 : Int) (ho : o.wf) (hr : BlR w A o.bl) (hn : o.bl.length ≤ 1000) (hf : f < 256) (hd : d.size ≤ maxLen) (hp : pmayB f o d = true) (hw0 : 0 ≤ s7) (hw1 : s7 < 65536) :
    Calls Try.prog 13 #[.agg #[.int .u32 x0, .int .u16 x1, .int .u32 x2, .int .u16 x3, .int .u32 x4, .int .u32 x5, .int .u32 x6, .int .u32 x7, .int .i64 x8, .int .i64 x9], .agg (segO s0 s1 s2 s3 s4 s5 f s7 o A c d)] w (SegPost w (fun V => turnedC s4 s5 (f : Int) s7 (o.mss : Int) o.scale o.sack o.time (o.val : Int) (o.echo : Int) d x0 x1 x2 x3 x4 x5 x6 x7 x8 x9 V) (o.bl.map (turnB x5))) := by
  have hpm := fun W (h : BlR W A o.bl) => rpmay_any W s0 s1 s2 s3 s4 s5 f s7 o A c d ho h hn hf hd
  rw [hp] at hpm
  have hb0 : Below w.heap.size w w := Below.refl _ _
  unfold segO at hpm ⊢
  have htu := fun W (h : BlR W A o.bl) => rturned_any s0 s1 s2 s3 s4 s5 (f : Int) s7 (o.mss : Int) o.scale o.sack o.time A o.bl.length c (o.val : Int) (o.echo : Int) d x0 x1 x2 x3 x4 x5 x6 x7 x8 x9 o.bl W rfl (show BRow W A o.bl from h) (by omega) hw0 hw1
  have HT := Lib.hid htu
  obtain ⟨n, hnn⟩ : ∃ n, n = o.bl.length := ⟨_, rfl⟩
  have Hnn := Lib.hid hnn
  rw [← hnn] at hpm htu ⊢
  clear hp ho hn hf hd HT hw0 hw1 hnn
  generalize (o.mss : Int) = m at *
  generalize (o.val : Int) = vl at *
  generalize (o.echo : Int) = ec at *
  generalize o.scale = sc at *
  generalize o.sack = sk at *
  generalize o.time = tm at *
  generalize (f : Int) = F at *
  generalize hl : o.bl = l at *
  have Hl := Lib.hid hl
  clear hl
  generalize hQ : SegPost w _ _ = Q
  have HQ := Lib.hid hQ
  have HT := Lib.hid htu
  clear htu hQ
  have HP := Lib.hid hpm
  have HB := Lib.hid hb0
  have HR := Lib.hid hr
  clear hpm hb0 hr
  go_enter Try.func13, Try.ntmps13
  go_upto_region 1 with fail
  have hx := Blk.alloc (Blk.alloc (Blk.new w 27 #[.int .u32 x0, .int .u16 x1, .int .u32 x2, .int .u16 x3, .int .u32 x4, .int .u32 x5, .int .u32 x6, .int .u32 x7, .int .i64 x8, .int .i64 x9]) (.cells #[.int .u32 s0, .int .u16 s1, .int .u32 s2, .int .u16 s3, .int .u32 s4, .int .u32 s5, .int .u8 F, .int .u16 s7, .int .u16 m, .int .i64 sc, .bool sk, .slice A n c, .bool tm, .int .u32 vl, .int .u32 ec, .string d] 39)) (.cells #[.int .u32 0, .int .u16 0, .int .u32 0, .int .u16 0, .int .u32 0, .int .u32 0, .int .u8 0, .int .u16 0, .int .u16 0, .int .i64 0, .bool false, .slice none 0 0, .bool false, .int .u32 0, .int .u32 0, .string ⟨#[]⟩] 39)
  have hs := Blk.alloc (Blk.new (w.alloc (.cells #[.int .u32 x0, .int .u16 x1, .int .u32 x2, .int .u16 x3, .int .u32 x4, .int .u32 x5, .int .u32 x6, .int .u32 x7, .int .i64 x8, .int .i64 x9] 27)) 39 #[.int .u32 s0, .int .u16 s1, .int .u32 s2, .int .u16 s3, .int .u32 s4, .int .u32 s5, .int .u8 F, .int .u16 s7, .int .u16 m, .int .i64 sc, .bool sk, .slice A n c, .bool tm, .int .u32 vl, .int .u32 ec, .string d]) (.cells #[.int .u32 0, .int .u16 0, .int .u32 0, .int .u16 0, .int .u32 0, .int .u32 0, .int .u8 0, .int .u16 0, .int .u16 0, .int .i64 0, .bool false, .slice none 0 0, .bool false, .int .u32 0, .int .u32 0, .string ⟨#[]⟩] 39)
  rw [show (w.alloc (.cells #[.int .u32 x0, .int .u16 x1, .int .u32 x2, .int .u16 x3, .int .u32 x4, .int .u32 x5, .int .u32 x6, .int .u32 x7, .int .i64 x8, .int .i64 x9] 27)).heap.size = w.heap.size + 1 by simp] at hs
  have hr := Blk.new ((w.alloc (.cells #[.int .u32 x0, .int .u16 x1, .int .u32 x2, .int .u16 x3, .int .u32 x4, .int .u32 x5, .int .u32 x6, .int .u32 x7, .int .i64 x8, .int .i64 x9] 27)).alloc (.cells #[.int .u32 s0, .int .u16 s1, .int .u32 s2, .int .u16 s3, .int .u32 s4, .int .u32 s5, .int .u8 F, .int .u16 s7, .int .u16 m, .int .i64 sc, .bool sk, .slice A n c, .bool tm, .int .u32 vl, .int .u32 ec, .string d] 39)) 39 #[.int .u32 0, .int .u16 0, .int .u32 0, .int .u16 0, .int .u32 0, .int .u32 0, .int .u8 0, .int .u16 0, .int .u16 0, .int .i64 0, .bool false, .slice none 0 0, .bool false, .int .u32 0, .int .u32 0, .string ⟨#[]⟩]
  rw [show ((w.alloc (.cells #[.int .u32 x0, .int .u16 x1, .int .u32 x2, .int .u16 x3, .int .u32 x4, .int .u32 x5, .int .u32 x6, .int .u32 x7, .int .i64 x8, .int .i64 x9] 27)).alloc (.cells #[.int .u32 s0, .int .u16 s1, .int .u32 s2, .int .u16 s3, .int .u32 s4, .int .u32 s5, .int .u8 F, .int .u16 s7, .int .u16 m, .int .i64 sc, .bool sk, .slice A n c, .bool tm, .int .u32 vl, .int .u32 ec, .string d] 39)).heap.size = w.heap.size + 2 by simp] at hr
  have hB := Below.alloc (Below.alloc (Below.alloc (HB.out) (Nat.le_trans HB.out.size (by simp <;> omega)) (.cells #[.int .u32 x0, .int .u16 x1, .int .u32 x2, .int .u16 x3, .int .u32 x4, .int .u32 x5, .int .u32 x6, .int .u32 x7, .int .i64 x8, .int .i64 x9] 27)) (Nat.le_trans HB.out.size (by simp <;> omega)) (.cells #[.int .u32 s0, .int .u16 s1, .int .u32 s2, .int .u16 s3, .int .u32 s4, .int .u32 s5, .int .u8 F, .int .u16 s7, .int .u16 m, .int .i64 sc, .bool sk, .slice A n c, .bool tm, .int .u32 vl, .int .u32 ec, .string d] 39)) (Nat.le_trans HB.out.size (by simp <;> omega)) (.cells #[.int .u32 0, .int .u16 0, .int .u32 0, .int .u16 0, .int .u32 0, .int .u32 0, .int .u8 0, .int .u16 0, .int .u16 0, .int .i64 0, .bool false, .slice none 0 0, .bool false, .int .u32 0, .int .u32 0, .string ⟨#[]⟩] 39)
  clear HB
  obtain ⟨gr, hger⟩ : ∃ g, g = w.heap.size + 2 := ⟨_, rfl⟩
  rw [← hger] at hr ⊢
  obtain ⟨gs, hges⟩ : ∃ g, g = w.heap.size + 1 := ⟨_, rfl⟩
  rw [← hges] at hs ⊢
  obtain ⟨gx, hgex⟩ : ∃ g, g = w.heap.size := ⟨_, rfl⟩
  rw [← hgex] at hx ⊢
  have hne_x_s : gx ≠ gs := by omega
  have hne_x_r : gx ≠ gr := by omega
  have hne_s_r : gs ≠ gr := by omega
  have hle_x : w.heap.size ≤ gx := by omega
  have hle_s : w.heap.size ≤ gs := by omega
  have hle_r : w.heap.size ≤ gr := by omega
  clear hgex hges hger
  generalize ((w.alloc _).alloc _).alloc _ = wn3 at *
  have Hx := Lib.hid hx
  clear hx
  have Hs := Lib.hid hs
  clear hs
  have Hr := Lib.hid hr
  clear hr
  have HB := Lib.hid hB
  clear hB
  have hr1 := HR.out.below HB.out
  have c0 := Hs.out.cell 0
  have c1 := Hs.out.cell 1
  have c2 := Hs.out.cell 2
  have c3 := Hs.out.cell 3
  have c4 := Hs.out.cell 4
  have c5 := Hs.out.cell 5
  have c6 := Hs.out.cell 6
  have c7 := Hs.out.cell 7
  have c8 := Hs.out.cell 8
  have c9 := Hs.out.cell 9
  have c10 := Hs.out.cell 10
  have c11 := Hs.out.cell 11
  have c12 := Hs.out.cell 12
  have c13 := Hs.out.cell 13
  have c14 := Hs.out.cell 14
  have c15 := Hs.out.cell 15
  simp at c0 c1 c2 c3 c4 c5 c6 c7 c8 c9 c10 c11 c12 c13 c14 c15
  go_wp2_with fail
  (with_reducible refine (HP.out _ hr1).mono ?_)
  rintro e w2 ⟨rfl, hbq⟩
  have hx := Hx.out.below hbq Hx.out.lt
  clear Hx
  have Hx := Lib.hid hx
  clear hx
  have hs := Hs.out.below hbq Hs.out.lt
  clear Hs
  have Hs := Lib.hid hs
  clear hs
  have hr := Hr.out.below hbq Hr.out.lt
  clear Hr
  have Hr := Lib.hid hr
  clear hr
  have hB := HB.out.trans (hbq.mono HB.out.size)
  clear HB
  have HB := Lib.hid hB
  clear hB
  clear hbq
  clear hr1
  have hr2 := HR.out.below HB.out
  clear c0 c1 c2 c3 c4 c5 c6 c7 c8 c9 c10 c11 c12 c13 c14 c15
  have c0 := Hs.out.cell 0
  have c1 := Hs.out.cell 1
  have c2 := Hs.out.cell 2
  have c3 := Hs.out.cell 3
  have c4 := Hs.out.cell 4
  have c5 := Hs.out.cell 5
  have c6 := Hs.out.cell 6
  have c7 := Hs.out.cell 7
  have c8 := Hs.out.cell 8
  have c9 := Hs.out.cell 9
  have c10 := Hs.out.cell 10
  have c11 := Hs.out.cell 11
  have c12 := Hs.out.cell 12
  have c13 := Hs.out.cell 13
  have c14 := Hs.out.cell 14
  have c15 := Hs.out.cell 15
  simp at c0 c1 c2 c3 c4 c5 c6 c7 c8 c9 c10 c11 c12 c13 c14 c15
  have b0 := Hx.out.cell 0
  have b1 := Hx.out.cell 1
  have b2 := Hx.out.cell 2
  have b3 := Hx.out.cell 3
  have b4 := Hx.out.cell 4
  have b5 := Hx.out.cell 5
  have b6 := Hx.out.cell 6
  have b7 := Hx.out.cell 7
  have b8 := Hx.out.cell 8
  have b9 := Hx.out.cell 9
  simp at b0 b1 b2 b3 b4 b5 b6 b7 b8 b9
  go_wp2_with fail
  (with_reducible refine (HT.out _ hr2).mono ?_)
  rintro e w3 ⟨A2, cz, hz2, rfl, ho2, hbq⟩
  have ho3 : w3.ownsRow w2.heap.size 48 2 (.slice A2 (l.map (turnB x5)).length cz) (l.map (turnB x5)).length ((l.map (turnB x5)).flatMap blkCells) := ho2
  clear ho2 hz2
  unfold turnedC
  generalize hq : (s4 + x4) % 4294967296 = q
  generalize ha : (if (bits .and .u8 F 16 != 0) = true then (s5 + x5) % 4294967296 else s5) = a
  generalize hw : winT s7 x8 x9 = wn
  generalize hv1 : (if tm = true then (vl + x6) % 4294967296 else vl) = v1
  generalize hv2 : (if tm = true then (ec + x7) % 4294967296 else ec) = v2
  generalize hk : (l.map (turnB x5)).length = k at *
  have Hq := Lib.hid hq
  clear hq
  have Ha := Lib.hid ha
  clear ha
  have Hw := Lib.hid hw
  clear hw
  have Hv1 := Lib.hid hv1
  clear hv1
  have Hv2 := Lib.hid hv2
  clear hv2
  have Ho3 := Lib.hid ho3
  clear ho3
  have Hk := Lib.hid hk
  clear hk
  have Hr2 := Lib.hid hr2
  clear hr2
  have hx := Hx.out.below hbq Hx.out.lt
  clear Hx
  have Hx := Lib.hid hx
  clear hx
  have hs := Hs.out.below hbq Hs.out.lt
  clear Hs
  have Hs := Lib.hid hs
  clear hs
  have hr := Hr.out.below hbq Hr.out.lt
  clear Hr
  have Hr := Lib.hid hr
  clear hr
  have hB := HB.out.trans (hbq.mono HB.out.size)
  clear HB
  have HB := Lib.hid hB
  clear hB
  clear hbq
  clear c0 c1 c2 c3 c4 c5 c6 c7 c8 c9 c10 c11 c12 c13 c14 c15
  clear b0 b1 b2 b3 b4 b5 b6 b7 b8 b9
  have d0 := Hr.out.cell 0
  have d1 := Hr.out.cell 1
  have d2 := Hr.out.cell 2
  have d3 := Hr.out.cell 3
  have d4 := Hr.out.cell 4
  have d5 := Hr.out.cell 5
  have d6 := Hr.out.cell 6
  have d7 := Hr.out.cell 7
  have d8 := Hr.out.cell 8
  have d9 := Hr.out.cell 9
  have d10 := Hr.out.cell 10
  have d11 := Hr.out.cell 11
  have d12 := Hr.out.cell 12
  have d13 := Hr.out.cell 13
  have d14 := Hr.out.cell 14
  have d15 := Hr.out.cell 15
  simp at d0 d1 d2 d3 d4 d5 d6 d7 d8 d9 d10 d11 d12 d13 d14 d15
  have fr := Hr.out.frozen
  go_wp2
  generalize hWf : World.setCell _ _ _ = Wf
  have hf : Blk Wf gr 39 #[.int .u32 x0, .int .u16 x1, .int .u32 x2, .int .u16 x3, .int .u32 q, .int .u32 a, .int .u8 F, .int .u16 wn, .int .u16 m, .int .i64 sc, .bool sk, .slice A2 k cz, .bool tm, .int .u32 v1, .int .u32 v2, .string d] := by
    rw [← hWf]
    have := (((((((((((((((Hr.out.set_ 0 (.int .u32 x0)).set_ 1 (.int .u16 x1)).set_ 2 (.int .u32 x2)).set_ 3 (.int .u16 x3)).set_ 4 (.int .u32 q)).set_ 5 (.int .u32 a)).set_ 6 (.int .u8 F)).set_ 7 (.int .u16 wn)).set_ 8 (.int .u16 m)).set_ 9 (.int .i64 sc)).set_ 10 (.bool sk)).set_ 11 (.slice A2 k cz)).set_ 12 (.bool tm)).set_ 13 (.int .u32 v1)).set_ 14 (.int .u32 v2)).set_ 15 (.string d)
    simpa using this
  have hBf : Below w.heap.size w Wf := by
    rw [← hWf]
    repeat (refine Below.setCell ?_ hle_r _)
    exact HB.out
  have hgf : w3.grownBy Wf (some gr) := by
    rw [← hWf]
    repeat (refine only_set ?_ _ _)
    exact World.grownBy.refl _ _
  have hof := Ho3.out.kept hgf (.inr (own_blk_ne Ho3.out Hr.out (by decide)))
  clear hWf d0 d1 d2 d3 d4 d5 d6 d7 d8 d9 d10 d11 d12 d13 d14 d15 fr hgf
  have z0 := hf.cell 0
  have z1 := hf.cell 1
  have z2 := hf.cell 2
  have z3 := hf.cell 3
  have z4 := hf.cell 4
  have z5 := hf.cell 5
  have z6 := hf.cell 6
  have z7 := hf.cell 7
  have z8 := hf.cell 8
  have z9 := hf.cell 9
  have z10 := hf.cell 10
  have z11 := hf.cell 11
  have z12 := hf.cell 12
  have z13 := hf.cell 13
  have z14 := hf.cell 14
  have z15 := hf.cell 15
  simp at z0 z1 z2 z3 z4 z5 z6 z7 z8 z9 z10 z11 z12 z13 z14 z15
  refine bodyPost_ret (v := .tuple #[.agg #[.int .u32 x0, .int .u16 x1, .int .u32 x2, .int .u16 x3, .int .u32 q, .int .u32 a, .int .u8 F, .int .u16 wn, .int .u16 m, .int .i64 sc, .bool sk, .slice A2 k cz, .bool tm, .int .u32 v1, .int .u32 v2, .string d], .int .i64 0]) (by simp [results, Try.results13, go_sem, z0, z1, z2, z3, z4, z5, z6, z7, z8, z9, z10, z11, z12, z13, z14, z15]) rfl ?_
  rw [← HQ.out]
  refine ⟨A2, cz, ?_, ?_, hBf⟩
  · unfold turnedC
    rw [Hq.out, Ha.out, Hw.out, Hv1.out, Hv2.out, Hk.out]
  · refine own_blr (base := w2.heap.size) (c := cz) ?_
    rw [Hk.out]
    exact hof
end Go.Proofs.Ytgppkfdhfphoeaa
