/- Layer 7 (opt): the reference's take, of blocks; of any option. -/
import Derived.Test.YtimepplfaaddeaaOptTake
import Derived.Test.YtimepplfaaddeaaOptAdd
set_option linter.unusedVariables false
set_option linter.unusedSimpArgs false
namespace Go.Proofs.Ytimepplfaaddeaa
open Go.RowKit Go.BigFrame

set_option maxRecDepth 100000 in
set_option maxHeartbeats 4000000 in
theorem take_5 (base : Nat) (w : World) (o : Op) (A : Option Addr) (c : Nat) (k : Nat) (S : ByteArray) (B : List UInt8) (hSB : S.data.toList = B) (hl : longB k (B.length + 2) = true) (hBl : B.length ≤ 253)
    (hv : w.ownsRow base 56 2 (.slice A o.bl.length c) o.bl.length (o.bl.flatMap blkC)) (hb : base ≤ w.heap.size) (hn : o.bl.length ≤ 2000) (h5 : k = 5) :
    Calls Try.prog 28 #[.agg (optC o A c), .int .i64 (k : Int), .string S] w (TakePost base w o A c k B) := by
  have hsz : S.size = B.length := by rw [← hSB]; simp
  have u2 : ((k : Int) == 2) = false := by simp; omega
  have u3 : ((k : Int) == 3) = false := by simp; omega
  have u4 : ((k : Int) == 4) = false := by simp; omega
  have u5 : ((k : Int) == 5) = true := by simp; omega
  have u8 : ((k : Int) == 8) = false := by simp; omega
  have hB8 : B.length % 8 = 0 ∧ B.length ≤ 32 := by rw [h5] at hl; have := long5 hl; omega
  have htk : takeI o k B = some { o with bl := o.bl ++ blocksL B } := by
    unfold takeI
    rw [if_neg (by omega), if_neg (by omega), if_neg (by omega), if_neg (by omega), if_pos h5]
    rfl
  obtain ⟨N, hN⟩ : ∃ N, N = B.length := ⟨_, rfl⟩
  rw [← hN] at hsz
  have HB8 := Lib.hid hB8
  clear hB8
  have H5 := Lib.hid h5
  clear h5
  have Htk := Lib.hid htk
  clear htk
  have HN := Lib.hid hN
  clear hN
  have hszk : S.size = N := hsz
  have hb0 : Below w.heap.size w w := Below.refl _ _
  have HB := Lib.hid hb0
  clear hb0
  have hv1 := (hv.alloc (.cells #[.int .u16 (o.mss : Int), .int .i64 o.scale, .bool o.sack, .slice A o.bl.length c, .bool o.time, .int .u32 (o.val : Int), .int .u32 (o.echo : Int)] 26)).alloc (.cells #[.int .u16 0, .int .i64 0, .bool false, .slice none 0 0, .bool false, .int .u32 0, .int .u32 0] 26)
  have HSB := Lib.hid hSB
  clear hSB
  have Hl := Lib.hid hl
  clear hl
  have Hv := Lib.hid hv
  clear hv
  have Hb := Lib.hid hb
  clear hb
  have Hn := Lib.hid hn
  clear hn
  have HBl := Lib.hid hBl
  clear hBl
  have Hsz := Lib.hid hsz
  clear hsz
  unfold optC
  go_enter Try.func28, Try.ntmps28
  go_upto_region 1 with fail
  have hx := Blk.alloc (Blk.new w 26 #[.int .u16 (o.mss : Int), .int .i64 o.scale, .bool o.sack, .slice A o.bl.length c, .bool o.time, .int .u32 (o.val : Int), .int .u32 (o.echo : Int)]) (.cells #[.int .u16 0, .int .i64 0, .bool false, .slice none 0 0, .bool false, .int .u32 0, .int .u32 0] 26)
  have hr := Blk.new (w.alloc (.cells #[.int .u16 (o.mss : Int), .int .i64 o.scale, .bool o.sack, .slice A o.bl.length c, .bool o.time, .int .u32 (o.val : Int), .int .u32 (o.echo : Int)] 26)) 26 #[.int .u16 0, .int .i64 0, .bool false, .slice none 0 0, .bool false, .int .u32 0, .int .u32 0]
  rw [show (w.alloc (.cells #[.int .u16 (o.mss : Int), .int .i64 o.scale, .bool o.sack, .slice A o.bl.length c, .bool o.time, .int .u32 (o.val : Int), .int .u32 (o.echo : Int)] 26)).heap.size = w.heap.size + 1 by simp] at hr
  have hB := Below.alloc (Below.alloc (HB.out) (Nat.le_trans HB.out.size (by simp <;> omega)) (.cells #[.int .u16 (o.mss : Int), .int .i64 o.scale, .bool o.sack, .slice A o.bl.length c, .bool o.time, .int .u32 (o.val : Int), .int .u32 (o.echo : Int)] 26)) (Nat.le_trans HB.out.size (by simp <;> omega)) (.cells #[.int .u16 0, .int .i64 0, .bool false, .slice none 0 0, .bool false, .int .u32 0, .int .u32 0] 26)
  clear HB
  obtain ⟨gr, hger⟩ : ∃ g, g = w.heap.size + 1 := ⟨_, rfl⟩
  rw [← hger] at hr ⊢
  obtain ⟨gx, hgex⟩ : ∃ g, g = w.heap.size := ⟨_, rfl⟩
  rw [← hgex] at hx ⊢
  have hne_x_r : gx ≠ gr := by omega
  have hle_x : w.heap.size ≤ gx := by omega
  have hle_r : w.heap.size ≤ gr := by omega
  clear hgex hger
  generalize (w.alloc _).alloc _ = wn1 at *
  have Hx := Lib.hid hx
  clear hx
  have Hr := Lib.hid hr
  clear hr
  have HB := Lib.hid hB
  clear hB
  obtain ⟨W1, hW1⟩ : ∃ W, W = wn1 := ⟨_, rfl⟩
  rw [← hW1] at Hx Hr HB hv1 ⊢
  clear hW1
  have hx1 : Blk W1 gx 26 (optC o A c) := Hx.out
  have hx1' := Hx.out
  have c0 := hx1'.cell 0
  have c1 := hx1'.cell 1
  have c2 := hx1'.cell 2
  have c3 := hx1'.cell 3
  have c4 := hx1'.cell 4
  have c5 := hx1'.cell 5
  have c6 := hx1'.cell 6
  simp at c0 c1 c2 c3 c4 c5 c6
  have fr := hx1'.frozen
  have Hx1 := Lib.hid hx1
  have Hv1 := Lib.hid hv1
  have hout1 : Out (fun i => rowOf A o.bl.length c = some i) w W1 := Out.of_below HB.out
  have Hout1 := Lib.hid hout1
  clear hx1 hx1' hv1 hout1
  clear c0 c1 c2 c3 c4 c5 c6 fr
  go_wp2_with fail
  go_loopw [8] (fun i wr => ∃ (j : Nat) (bl2 : List (Int × Int)) (A2 : Option Addr) (c2 : Nat), i = .int .i64 (j : Int) ∧ j % 8 = 0 ∧ j ≤ N ∧ bl2 ++ blocksL (B.drop j) = o.bl ++ blocksL B ∧ wr.ownsRow base 56 2 (.slice A2 bl2.length c2) bl2.length (bl2.flatMap blkC) ∧ bl2.length ≤ o.bl.length + j ∧
      Blk wr gx 26 (optC { o with bl := bl2 } A2 c2) ∧ (rowOf A2 bl2.length c2 = rowOf A o.bl.length c ∨ ∃ g, w.heap.size ≤ g ∧ rowOf A2 bl2.length c2 = some g) ∧ Blk wr gr 26 #[.int .u16 0, .int .i64 0, .bool false, .slice none 0 0, .bool false, .int .u32 0, .int .u32 0] ∧ Out (fun i => rowOf A o.bl.length c = some i) w wr)
    (fun i _ => N - (intOf i).toNat)
  case atStart => exact ⟨0, o.bl, A, c, rfl, rfl, Nat.zero_le _, rfl, Hv1.out, by omega, Hx1.out, .inl rfl, Hr.out, Hout1.out⟩
  case round =>
    obtain ⟨j, bl2, A2, c2, rfl, hj8, hjN, hbl, hv2, hlen2, hx2, hrow2, hr2, hout2⟩ := hrel
    by_cases hj : j < N
    · have j1 : (j : Int) < (N : Int) := by omega
      have hj8' : j + 8 ≤ N := by have := HB8.out; have := HN.out; omega
      have j2 : (j : Int) + 4 ≤ (N : Int) := by omega
      have j3 : (j : Int) + 8 ≤ (N : Int) := by omega
      have j4 : (0 : Int) ≤ (j : Int) + 4 := by omega
      have j5 : (j : Int) ≤ (j : Int) + 4 := by omega
      have j6 : (j : Int) + 4 ≤ (j : Int) + 8 := by omega
      have j7 : (0 : Int) ≤ (j : Int) + 8 := by omega
      have j8 : (j : Int) + 8 ≤ 32 := by have := HB8.out; have := HN.out; omega
      have hTn : B.drop j ≠ [] := fun e => by have := congrArg List.length e; rw [List.length_drop] at this; have := HN.out; simp at *; omega
      obtain ⟨row, hrw⟩ : ∃ row, (Value.slice A2 bl2.length c2).ownBlock = row := ⟨_, rfl⟩
      have t1 := own_blk_ne hv2 hx2 (by decide)
      rw [hrw] at t1
      have t2 := own_blk_ne hv2 hr2 (by decide)
      rw [hrw] at t2
      obtain ⟨q1, hq1⟩ : ∃ q, q = numL ((B.drop j).take 4) := ⟨_, rfl⟩
      obtain ⟨q2, hq2⟩ : ∃ q, q = numL (((B.drop j).drop 4).take 4) := ⟨_, rfl⟩
      have hstepB := blocksL_step hTn
      rw [← hq1, ← hq2] at hstepB
      have e1 : (S.extract j (j + 4)).data.toList = (B.drop j).take 4 := by
        rw [ByteArray.data_extract, Array.toList_extract, List.extract_eq_take_drop, HSB.out, show j + 4 - j = 4 by omega]
      have e2 : (S.extract (j + 4) (j + 8)).data.toList = ((B.drop j).drop 4).take 4 := by
        rw [ByteArray.data_extract, Array.toList_extract, List.extract_eq_take_drop, HSB.out, List.drop_drop, show j + 8 - (j + 4) = 4 by omega]
      have hS0 : Out (fun i => row = some i) wr wr.drew := Out.of_below (Below.drew (Below.refl _ _))
      have ne : Nonempty (Cls (fun W => Out (fun i => row = some i) wr W)) := ⟨⟨_, hS0⟩⟩
      have co : wr.cell? ⟨gx, 3, none⟩ = some (.slice A2 bl2.length c2) := by simpa [optC] using hx2.cell 3
      have q3 : ∀ y : Cls (fun W => Out (fun i => row = some i) wr W), y.w.cell? ⟨gx, 3, none⟩ = some (.slice A2 bl2.length c2) := fun y => (World.cell?_of_block (y.h.block gx hx2.lt t1)).trans co
      have hSb : ∀ w w', Out (fun i => row = some i) wr w → Below w.heap.size w w' → Out (fun i => row = some i) wr w' := fun w w' h hb => Out.trans h (Out.of_below (O := fun _ => False) hb) (fun _ _ e => e.elim)
      have n1 : ∀ y : Cls (fun W => Out (fun i => row = some i) wr W), Calls Try.prog 40 #[.string (S.extract j (j + 4))] y.w fun e w'' => e = .returned (.int .u32 (q1 : Int)) ∧ Out (fun i => row = some i) wr w'' ∧ RApp 17 row 7 y.w w'' := fun y => (ref_num _ y.w (by simp [maxLen]; omega)).mono fun e w' ⟨he, hb⟩ => ⟨by rw [he, e1, hq1], by rw [← hb]; exact y.h, by rw [← hb]; exact RApp.refl _ _⟩
      have n2 : ∀ y : Cls (fun W => Out (fun i => row = some i) wr W), Calls Try.prog 40 #[.string (S.extract (j + 4) (j + 8))] y.w fun e w'' => e = .returned (.int .u32 (q2 : Int)) ∧ Out (fun i => row = some i) wr w'' ∧ RApp 17 row 14 y.w w'' := fun y => (ref_num _ y.w (by simp [maxLen]; omega)).mono fun e w' ⟨he, hb⟩ => ⟨by rw [he, e2, hq2], by rw [← hb]; exact y.h, by rw [← hb]; exact RApp.refl _ _⟩
      have cf : ∀ (vals : Array Value) (w : World), (callFunc 40 vals).run Try.prog w = .ok (.enter 40 vals) w := fun _ _ => by kernel_rfl
      have rb1 : ∀ w : World, (Instr.buildSlice 23 1 #[(0, .agg #[.int .u32 (q1 : Int), .int .u32 (q2 : Int)])]).run Try.prog w = .ok (.slice (some ⟨w.heap.size, 0, none⟩) 1 1) (w.alloc (.cells #[.int .u32 (q1 : Int), .int .u32 (q2 : Int)] 56)) := fun _ => by kernel_rfl
      have hrl : ∀ q, row = some q → q < wr.heap.size := fun q hq => (hv2.lt q (hrw.trans hq)).2
      have hwle : base ≤ wr.heap.size := Nat.le_trans Hb.out hout2.size
      have hU0 : ∀ q ∈ ([(17, fun W => W.ownsRow base 56 2 (.slice A2 bl2.length c2) bl2.length (bl2.flatMap blkC))] : List (Nat × (World → Prop))), q.2 wr.drew := by
        intro q hq
        obtain rfl := List.mem_singleton.1 hq
        exact hv2.kept (only_of_below (Below.drew (Below.refl _ _)) none) (Classical.em _)
      have hUs : ∀ q ∈ ([(17, fun W => W.ownsRow base 56 2 (.slice A2 bl2.length c2) bl2.length (bl2.flatMap blkC))] : List (Nat × (World → Prop))), ∀ i w w', i ≠ q.1 → RApp 17 row i w w' → q.2 w → q.2 w' := by
        intro q hq i w w' hi hr hw
        obtain rfl := List.mem_singleton.1 hq
        exact hw.kept (only_of_below (hr.below hi) none) (Classical.em _)
      obtain ⟨i0, hi0, h0, h1, h22⟩ := info_parts_o infoBo
      have hnb60 : bl2.length ≤ 4000 := by have := Hn.out; have := HBl.out; have := HN.out; omega
      have HTn := Lib.hid hTn
      clear hTn
      have Hv2 := Lib.hid hv2
      clear hv2
      have Hlen2 := Lib.hid hlen2
      clear hlen2
      have Hx2 := Lib.hid hx2
      clear hx2
      have Hrow2 := Lib.hid hrow2
      clear hrow2
      have Hr2 := Lib.hid hr2
      clear hr2
      have Hout2 := Lib.hid hout2
      clear hout2
      have Hbl := Lib.hid hbl
      clear hbl
      have HstepB := Lib.hid hstepB
      clear hstepB
      have E1 := Lib.hid e1
      clear e1
      have E2 := Lib.hid e2
      clear e2
      have Hq1 := Lib.hid hq1
      clear hq1
      have Hq2 := Lib.hid hq2
      clear hq2
      have N1 := Lib.hid n1
      clear n1
      have N2 := Lib.hid n2
      clear n2
      have Cf := Lib.hid cf
      clear cf
      have Rb1 := Lib.hid rb1
      clear rb1
      have Hrl := Lib.hid hrl
      clear hrl
      have Hwle := Lib.hid hwle
      clear hwle
      have HU0 := Lib.hid hU0
      clear hU0
      have HUs := Lib.hid hUs
      clear hUs
      have Hi0 := Lib.hid hi0
      clear hi0
      have H0 := Lib.hid h0
      clear h0
      have H1 := Lib.hid h1
      clear h1
      have H22 := Lib.hid h22
      clear h22
      have HS0 := Lib.hid hS0
      clear hS0
      have Hrw := Lib.hid hrw
      clear hrw
      have HSb := Lib.hid hSb
      clear hSb
      have T1 := Lib.hid t1
      clear t1
      have T2 := Lib.hid t2
      clear t2
      have Hj8 := Lib.hid hj8
      clear hj8
      have Hj8' := Lib.hid hj8'
      clear hj8'
      go_upto_region 13 with fail
      clear co
      refine wp_region_flowu 19 (fun W => Out (fun i => row = some i) wr W) (RApp 17 row) [(17, fun W => W.ownsRow base 56 2 (.slice A2 bl2.length c2) bl2.length (bl2.flatMap blkC))] (by kernel_rfl) (by kernel_rfl) (by kernel_rfl) RApp.refl HUs.out HU0.out HS0.out ?_
      simp only [List.take_succ_cons, List.take_zero, List.drop_succ_cons, List.drop_zero]
      repeat (first
        | (refine flowu_quiet RApp.refl rfl rfl rfl rfl ?_; intro K hK; go_big_quiet_op; go_big_quiet_on)
        | (refine flowu_call Cf.out _ ?_ rfl rfl rfl _ N1.out wr ?_; (focus (simp only [List.map_toArray, List.map_cons, List.map_nil]; rfl)); intro K hK; go_big_quiet_op; go_big_quiet_on)
        | (refine flowu_call Cf.out _ ?_ rfl rfl rfl _ N2.out wr ?_; (focus (simp only [List.map_toArray, List.map_cons, List.map_nil]; rfl)); intro K hK; go_big_quiet_op; go_big_quiet_on))
      refine flowx_build wr.heap.size (E := 56) #[(0, .agg #[.int .u32 (q1 : Int), .int .u32 (q2 : Int)])] ?_ #[.int .u32 (q1 : Int), .int .u32 (q2 : Int)] Rb1.out HSb.out (fun w h => h.size) Hrl.out rfl rfl rfl wr ?_
      focus (simp only [List.map_toArray, List.map_cons, List.map_nil]; rfl)
      intro K hK; go_big_quiet_op; go_big_quiet_on
      refine flowx_append wr.heap.size base i0 _ 2 8 Try.underlying23 Hi0.out H0.out H1.out H22.out rfl (by decide) (.slice A2 bl2.length c2) bl2.length (bl2.flatMap blkC) 1 #[.int .u32 (q1 : Int), .int .u32 (q2 : Int)] 0 rfl rfl rfl (of_decide_eq_true rfl) (fun f => rfl) Hrw.out rfl (fun w hw hut => hut _ List.mem_cons_self rfl) rfl (by intro u hu; simp at hu; rcases hu with rfl | rfl <;> rfl) (by simp only [maxLen]; omega) (by omega) (fun w h => Nat.le_trans Hwle.out h.size) (fun w h => h.size) (fun w w' h hg => Out.trans h (Out.mono (O := fun i => row = some i) ⟨hg.os, hg.tape, hg.output, hg.size, fun i hi hn => hg.block i hi (fun e => hn e.symm)⟩ (fun _ _ e => e)) (fun _ _ e => e)) rfl rfl wr ?_
      intro K hK; go_big_quiet_op; go_big_quiet_on
      repeat (refine flowu_quiet RApp.refl rfl rfl rfl rfl ?_; intro K hK; go_big_quiet_op; go_big_quiet_on)
      refine flowu_nil ?_
      intro W5 f hW5 hF5
      obtain ⟨v', hv', hrow5, hvb5⟩ := hF5 _ (List.mem_cons_self)
      clear hF5
      injection hv' with hv'
      simp only [fillW, Act.put, List.setIfInBounds_toArray, List.set_cons_succ, List.set_cons_zero]
      rw [hv']
      generalize f 54 = v54
      clear hv' q3 ne
      obtain ⟨A1, k1, hv1, _⟩ := own_slice hrow5
      subst hv1
      have hg5 : wr.grownBy W5 row := ⟨hW5.os, hW5.tape, hW5.output, hW5.size, fun i hi hn => hW5.block i hi (fun e => hn e.symm)⟩
      have hx5 := Hx2.out.grown hg5 (fun e => T1.out e.symm)
      have hr5 := Hr2.out.grown hg5 (fun e => T2.out e.symm)
      have c3 := hx5.cell 3
      try simp [optC] at c3
      have fr3 := hx5.frozen 3
      have hv5 : W5.ownsRow base 56 2 (.slice A1 (bl2.length + 1) k1) (bl2 ++ [((q1 : Int), (q2 : Int))]).length ((bl2 ++ [((q1 : Int), (q2 : Int))]).flatMap blkC) := by
        rw [List.length_append, List.flatMap_append]
        exact hrow5
      have hn5 := own_blk_ne hv5 hx5 (by decide)
      have hx6 : Blk (W5.setCell ⟨gx, 3, none⟩ (.slice A1 (bl2.length + 1) k1)) gx 26 (optC { o with bl := bl2 ++ [((q1 : Int), (q2 : Int))] } A1 k1) := by
        have := hx5.set_ 3 (.slice A1 (bl2.length + 1) k1)
        simpa [optC] using this
      have hr6 := hr5.far (p := ⟨gx, 3, none⟩) (Ne.symm hne_x_r) (.slice A1 (bl2.length + 1) k1)
      have hv6 := hv5.kept (only_set (World.grownBy.refl W5 (some gx)) 3 (.slice A1 (bl2.length + 1) k1)) (.inr hn5)
      have hout6 : Out (fun i => rowOf A o.bl.length c = some i) w (W5.setCell ⟨gx, 3, none⟩ (.slice A1 (bl2.length + 1) k1)) := out_new (Out.trans Hout2.out hW5 (fun i hi e => by
        rcases Hrow2.out with h | ⟨g, h1, h⟩
        · show rowOf A o.bl.length c = some i
          rw [← h]
          exact Hrw.out.trans e
        · have h3 : rowOf A2 bl2.length c2 = some i := Hrw.out.trans e
          rw [h3] at h
          injection h with h
          omega)) hle_x 3 (.slice A1 (bl2.length + 1) k1)
      have hrow6 : rowOf A1 (bl2 ++ [((q1 : Int), (q2 : Int))]).length k1 = rowOf A o.bl.length c ∨ ∃ g, w.heap.size ≤ g ∧ rowOf A1 (bl2 ++ [((q1 : Int), (q2 : Int))]).length k1 = some g := by
        rw [List.length_append]
        rcases hvb5 with e | ⟨g, h1, e⟩
        · have e' : rowOf A1 (bl2.length + 1) k1 = rowOf A2 bl2.length c2 := e.trans Hrw.out.symm
          rcases Hrow2.out with h | ⟨g, h1, h⟩
          · exact .inl (e'.trans h)
          · exact .inr ⟨g, h1, e'.trans h⟩
        · exact .inr ⟨g, Nat.le_trans Hout2.out.size h1, e⟩
      have hbl6 : (bl2 ++ [((q1 : Int), (q2 : Int))]) ++ blocksL (B.drop (j + 8)) = o.bl ++ blocksL B := by
        rw [List.append_assoc, ← Hbl.out, HstepB.out, List.drop_drop]
        rfl
      have hl6 : (bl2 ++ [((q1 : Int), (q2 : Int))]).length ≤ o.bl.length + (j + 8) := by
        have := Hlen2.out
        rw [List.length_append, List.length_singleton]
        omega
      have hlen1 : bl2.length + 1 = (bl2 ++ [((q1 : Int), (q2 : Int))]).length := by rw [List.length_append]; rfl
      clear hrow5 hvb5 hW5 hg5 hx5 hr5 hv5 hn5
      have hv6 : (W5.setCell ⟨gx, 3, none⟩ (.slice A1 (bl2.length + 1) k1)).ownsRow base 56 2 (.slice A1 (bl2 ++ [((q1 : Int), (q2 : Int))]).length k1) (bl2 ++ [((q1 : Int), (q2 : Int))]).length ((bl2 ++ [((q1 : Int), (q2 : Int))]).flatMap blkC) := by
        rw [← hlen1]
        rw [← hlen1] at hv6
        exact hv6
      have Hx6 := Lib.hid hx6
      clear hx6
      have Hr6 := Lib.hid hr6
      clear hr6
      have Hv6 := Lib.hid hv6
      clear hv6
      have Hout6 := Lib.hid hout6
      clear hout6
      have Hrow6 := Lib.hid hrow6
      clear hrow6
      have Hbl6 := Lib.hid hbl6
      clear hbl6
      have Hl6 := Lib.hid hl6
      clear hl6
      have Hlen1 := Lib.hid hlen1
      clear hlen1
      go_wp2_with fail
      go_roundw
      case rel => exact ⟨j + 8, bl2 ++ [((q1 : Int), (q2 : Int))], A1, k1, by go_num, by have := Hj8.out; omega, Hj8'.out, Hbl6.out, Hv6.out, Hl6.out, Hx6.out, Hrow6.out, Hr6.out, Hout6.out⟩
      case measure => simp [intOf]; omega
    · have j1 : ¬ (j : Int) < (N : Int) := by omega
      have hd : B.drop j = [] := List.drop_eq_nil_iff.2 (by have := HN.out; omega)
      rw [hd, blocksL_nil, List.append_nil] at hbl
      obtain ⟨o2, ho2⟩ : ∃ z, z = ({ o with bl := bl2 } : Op) := ⟨_, rfl⟩
      have hlen : bl2.length = o2.bl.length := by rw [ho2]
      have hfl : bl2.flatMap blkC = o2.bl.flatMap blkC := by rw [ho2]
      have htk2 : takeI o k B = if true then some o2 else none := by rw [Htk.out, ho2, hbl]; rfl
      clear Htk
      rw [← ho2] at hx2
      rw [hlen, hfl] at hv2
      rw [hlen] at hrow2
      have Htk := Lib.hid htk2
      obtain ⟨W2, hW2⟩ : ∃ W, W = wr := ⟨_, rfl⟩
      rw [← hW2] at hx2 hv2 hr2 hout2 ⊢
      clear hd hbl hlen2 hlen hfl hW2 htk2 ho2 hj8
      have Hx2 := Lib.hid hx2
      clear hx2
      have Hv2 := Lib.hid hv2
      clear hv2
      have Hr2 := Lib.hid hr2
      clear hr2
      have Hout2 := Lib.hid hout2
      clear hout2
      have Hrow2 := Lib.hid hrow2
      clear hrow2
      go_upto_region 18 with fail
      have hx2' := Hx2.out
      unfold optC at hx2'
      have z0 := hx2'.cell 0
      have z1 := hx2'.cell 1
      have z2 := hx2'.cell 2
      have z3 := hx2'.cell 3
      have z4 := hx2'.cell 4
      have z5 := hx2'.cell 5
      have z6 := hx2'.cell 6
      simp at z0 z1 z2 z3 z4 z5 z6
      have fq := Hr2.out.frozen
      have e0 := Hr2.out.cell 0
      have e1 := Hr2.out.cell 1
      have e2 := Hr2.out.cell 2
      have e3 := Hr2.out.cell 3
      have e4 := Hr2.out.cell 4
      have e5 := Hr2.out.cell 5
      have e6 := Hr2.out.cell 6
      simp at e0 e1 e2 e3 e4 e5 e6
      clear hx2'
      go_wp2_with fail
      generalize hWf : World.setCell _ _ _ = Wf
      have hrF : Blk Wf gr 26 #[.int .u16 (o2.mss : Int), .int .i64 o2.scale, .bool o2.sack, .slice A2 o2.bl.length c2, .bool o2.time, .int .u32 (o2.val : Int), .int .u32 (o2.echo : Int)] := by
        rw [← hWf]
        have := ((((((Hr2.out.set_ 0 (.int .u16 (o2.mss : Int))).set_ 1 (.int .i64 o2.scale)).set_ 2 (.bool o2.sack)).set_ 3 (.slice A2 o2.bl.length c2)).set_ 4 (.bool o2.time)).set_ 5 (.int .u32 (o2.val : Int))).set_ 6 (.int .u32 (o2.echo : Int))
        simpa using this
      have houtF : Out (fun i => rowOf A o.bl.length c = some i) w Wf := by
        rw [← hWf]
        repeat (refine out_new ?_ hle_r _ _)
        exact Hout2.out
      have hvF : Wf.ownsRow base 56 2 (.slice A2 o2.bl.length c2) o2.bl.length (o2.bl.flatMap blkC) := by
        refine Hv2.out.kept (row := some gr) ?_ (.inr (own_blk_ne Hv2.out Hr2.out (by decide)))
        rw [← hWf]
        repeat (refine only_set ?_ _ _)
        exact World.grownBy.refl _ _
      clear hWf z0 z1 z2 z3 z4 z5 z6 e0 e1 e2 e3 e4 e5 e6 fq
      have y0 := hrF.cell 0
      have y1 := hrF.cell 1
      have y2 := hrF.cell 2
      have y3 := hrF.cell 3
      have y4 := hrF.cell 4
      have y5 := hrF.cell 5
      have y6 := hrF.cell 6
      simp at y0 y1 y2 y3 y4 y5 y6
      exact bodyPost_ret (v := .tuple #[.agg (optC o2 A2 c2), .bool true]) (by simp [results, Try.results28, go_sem, optC, y0, y1, y2, y3, y4, y5, y6]) rfl ⟨o2, A2, c2, true, rfl, hvF, houtF, Hrow2.out, Htk.out⟩
/-- of any option -/
theorem take_any (base : Nat) (w : World) (o : Op) (A : Option Addr) (c : Nat) (k : Nat) (S : ByteArray) (B : List UInt8) (hSB : S.data.toList = B) (hl : longB k (B.length + 2) = true) (hBl : B.length ≤ 253)
    (hv : w.ownsRow base 56 2 (.slice A o.bl.length c) o.bl.length (o.bl.flatMap blkC)) (hb : base ≤ w.heap.size) (hn : o.bl.length ≤ 2000) :
    Calls Try.prog 28 #[.agg (optC o A c), .int .i64 (k : Int), .string S] w (TakePost base w o A c k B) := by
  by_cases h2 : k = 2
  · exact take_2 base w o A c k S B hSB hl hBl hv hb hn h2
  by_cases h3 : k = 3
  · exact take_3 base w o A c k S B hSB hl hBl hv hb hn h3
  by_cases h4 : k = 4
  · exact take_4 base w o A c k S B hSB hl hBl hv hb hn h4
  by_cases h5 : k = 5
  · exact take_5 base w o A c k S B hSB hl hBl hv hb hn h5
  by_cases h8 : k = 8
  · exact take_8 base w o A c k S B hSB hl hBl hv hb hn h8
  exact take_x base w o A c k S B hSB hl hBl hv hb hn ⟨h2, h3, h4, h5, h8⟩
end Go.Proofs.Ytimepplfaaddeaa
