/- Contracts and plain lemmas: OptTakeB, OptBits, OptRDec, OptRTurn, OptRep, OptTurnW. -/
import Derived.Laws.CopyOwn
import Derived.StillTailTactics
import Derived.Test.YtengegcnocdkoaaRc11
import Derived.Test.YtengegcnocdkoaaRc10
import Derived.Test.YtengegcnocdkoaaRc8
import Derived.Test.YtengegcnocdkoaaRc7
set_option linter.unusedVariables false
set_option linter.unusedSimpArgs false
set_option linter.unusedSectionVars false
section
set_option maxRecDepth 20000
namespace Go.Proofs.Ytengegcnocdkoaa
open Go.RowKit Go.BigFrame
set_option maxRecDepth 100000 in
set_option maxHeartbeats 4000000 in
theorem take_5 (base : Nat) (w : World) (o : Op) (A : Option Addr) (c : Nat) (k : Nat) (S : ByteArray) (B : List UInt8) (hSB : S.data.toList = B) (hl : longB k (B.length + 2) = true) (hBl : B.length ≤ 253)
    (hv : w.ownsRow base 92 2 (.slice A o.bl.length c) o.bl.length (o.bl.flatMap blkC)) (hb : base ≤ w.heap.size) (hn : o.bl.length ≤ 2000) (h5 : k = 5) :
    Calls Try.prog 82 #[.agg (optC o A c), .int .i64 (k : Int), .string S] w (TakePost base w o A c k B) := by
  have hsz : S.size = B.length := by rw [← hSB]; simp
  have u2 : ((k : Int) == 2) = false := by simp; omega
  have u3 : ((k : Int) == 3) = false := by simp; omega
  have u4 : ((k : Int) == 4) = false := by simp; omega
  have u5 : ((k : Int) == 5) = true := by simp; omega
  have u8 : ((k : Int) == 8) = false := by simp; omega
  have hB8 : B.length % 8 = 0 ∧ B.length ≤ 32 := by rw [h5] at hl; have := long5 hl; omega
  have htk : takeI o k B = some { o with bl := o.bl ++ blocksL B } := by
    unfold takeI
    rw [if_neg (by omega), if_neg (by omega), if_neg (by omega), if_neg (by omega), if_pos h5]
    rfl
  obtain ⟨N, hN⟩ : ∃ N, N = B.length := ⟨_, rfl⟩
  rw [← hN] at hsz
  have HB8 := Lib.hid hB8
  clear hB8
  have H5 := Lib.hid h5
  clear h5
  have Htk := Lib.hid htk
  clear htk
  have HN := Lib.hid hN
  clear hN
  have hszk : S.size = N := hsz
  have hb0 : Below w.heap.size w w := Below.refl _ _
  have HB := Lib.hid hb0
  clear hb0
  have hv1 := (hv.alloc (.cells #[.int .u16 (o.mss : Int), .int .i64 o.scale, .bool o.sack, .slice A o.bl.length c, .bool o.time, .int .u32 (o.val : Int), .int .u32 (o.echo : Int)] 28)).alloc (.cells #[.int .u16 0, .int .i64 0, .bool false, .slice none 0 0, .bool false, .int .u32 0, .int .u32 0] 28)
  have HSB := Lib.hid hSB
  clear hSB
  have Hl := Lib.hid hl
  clear hl
  have Hv := Lib.hid hv
  clear hv
  have Hb := Lib.hid hb
  clear hb
  have Hn := Lib.hid hn
  clear hn
  have HBl := Lib.hid hBl
  clear hBl
  have Hsz := Lib.hid hsz
  clear hsz
  unfold optC
  go_enter Try.func82, Try.ntmps82
  go_upto_region 1 with fail
  have hx := Blk.alloc (Blk.new w 28 #[.int .u16 (o.mss : Int), .int .i64 o.scale, .bool o.sack, .slice A o.bl.length c, .bool o.time, .int .u32 (o.val : Int), .int .u32 (o.echo : Int)]) (.cells #[.int .u16 0, .int .i64 0, .bool false, .slice none 0 0, .bool false, .int .u32 0, .int .u32 0] 28)
  have hr := Blk.new (w.alloc (.cells #[.int .u16 (o.mss : Int), .int .i64 o.scale, .bool o.sack, .slice A o.bl.length c, .bool o.time, .int .u32 (o.val : Int), .int .u32 (o.echo : Int)] 28)) 28 #[.int .u16 0, .int .i64 0, .bool false, .slice none 0 0, .bool false, .int .u32 0, .int .u32 0]
  rw [show (w.alloc (.cells #[.int .u16 (o.mss : Int), .int .i64 o.scale, .bool o.sack, .slice A o.bl.length c, .bool o.time, .int .u32 (o.val : Int), .int .u32 (o.echo : Int)] 28)).heap.size = w.heap.size + 1 by simp] at hr
  have hB := Below.alloc (Below.alloc (HB.out) (Nat.le_trans HB.out.size (by simp <;> omega)) (.cells #[.int .u16 (o.mss : Int), .int .i64 o.scale, .bool o.sack, .slice A o.bl.length c, .bool o.time, .int .u32 (o.val : Int), .int .u32 (o.echo : Int)] 28)) (Nat.le_trans HB.out.size (by simp <;> omega)) (.cells #[.int .u16 0, .int .i64 0, .bool false, .slice none 0 0, .bool false, .int .u32 0, .int .u32 0] 28)
  clear HB
  obtain ⟨gr, hger⟩ : ∃ g, g = w.heap.size + 1 := ⟨_, rfl⟩
  rw [← hger] at hr ⊢
  obtain ⟨gx, hgex⟩ : ∃ g, g = w.heap.size := ⟨_, rfl⟩
  rw [← hgex] at hx ⊢
  have hne_x_r : gx ≠ gr := by omega
  have hle_x : w.heap.size ≤ gx := by omega
  have hle_r : w.heap.size ≤ gr := by omega
  clear hgex hger
  generalize (w.alloc _).alloc _ = wn1 at *
  have Hx := Lib.hid hx
  clear hx
  have Hr := Lib.hid hr
  clear hr
  have HB := Lib.hid hB
  clear hB
  obtain ⟨W1, hW1⟩ : ∃ W, W = wn1 := ⟨_, rfl⟩
  rw [← hW1] at Hx Hr HB hv1 ⊢
  clear hW1
  have hx1 : Blk W1 gx 28 (optC o A c) := Hx.out
  have hx1' := Hx.out
  have c0 := hx1'.cell 0
  have c1 := hx1'.cell 1
  have c2 := hx1'.cell 2
  have c3 := hx1'.cell 3
  have c4 := hx1'.cell 4
  have c5 := hx1'.cell 5
  have c6 := hx1'.cell 6
  simp at c0 c1 c2 c3 c4 c5 c6
  have fr := hx1'.frozen
  have Hx1 := Lib.hid hx1
  have Hv1 := Lib.hid hv1
  have hout1 : Out (fun i => rowOf A o.bl.length c = some i) w W1 := Out.of_below HB.out
  have Hout1 := Lib.hid hout1
  clear hx1 hx1' hv1 hout1
  clear c0 c1 c2 c3 c4 c5 c6 fr
  go_wp2_with fail
  go_loopw [8] (fun i wr => ∃ (j : Nat) (bl2 : List (Int × Int)) (A2 : Option Addr) (c2 : Nat), i = .int .i64 (j : Int) ∧ j % 8 = 0 ∧ j ≤ N ∧ bl2 ++ blocksL (B.drop j) = o.bl ++ blocksL B ∧ wr.ownsRow base 92 2 (.slice A2 bl2.length c2) bl2.length (bl2.flatMap blkC) ∧ bl2.length ≤ o.bl.length + j ∧
      Blk wr gx 28 (optC { o with bl := bl2 } A2 c2) ∧ (rowOf A2 bl2.length c2 = rowOf A o.bl.length c ∨ ∃ g, w.heap.size ≤ g ∧ rowOf A2 bl2.length c2 = some g) ∧ Blk wr gr 28 #[.int .u16 0, .int .i64 0, .bool false, .slice none 0 0, .bool false, .int .u32 0, .int .u32 0] ∧ Out (fun i => rowOf A o.bl.length c = some i) w wr)
    (fun i _ => N - (intOf i).toNat)
  case atStart => exact ⟨0, o.bl, A, c, rfl, rfl, Nat.zero_le _, rfl, Hv1.out, by omega, Hx1.out, .inl rfl, Hr.out, Hout1.out⟩
  case round =>
    obtain ⟨j, bl2, A2, c2, rfl, hj8, hjN, hbl, hv2, hlen2, hx2, hrow2, hr2, hout2⟩ := hrel
    by_cases hj : j < N
    · have j1 : (j : Int) < (N : Int) := by omega
      have hj8' : j + 8 ≤ N := by have := HB8.out; have := HN.out; omega
      have j2 : (j : Int) + 4 ≤ (N : Int) := by omega
      have j3 : (j : Int) + 8 ≤ (N : Int) := by omega
      have j4 : (0 : Int) ≤ (j : Int) + 4 := by omega
      have j5 : (j : Int) ≤ (j : Int) + 4 := by omega
      have j6 : (j : Int) + 4 ≤ (j : Int) + 8 := by omega
      have j7 : (0 : Int) ≤ (j : Int) + 8 := by omega
      have j8 : (j : Int) + 8 ≤ 32 := by have := HB8.out; have := HN.out; omega
      have hTn : B.drop j ≠ [] := fun e => by have := congrArg List.length e; rw [List.length_drop] at this; have := HN.out; simp at *; omega
      obtain ⟨row, hrw⟩ : ∃ row, (Value.slice A2 bl2.length c2).ownBlock = row := ⟨_, rfl⟩
      have t1 := own_blk_ne hv2 hx2 (by decide)
      rw [hrw] at t1
      have t2 := own_blk_ne hv2 hr2 (by decide)
      rw [hrw] at t2
      obtain ⟨q1, hq1⟩ : ∃ q, q = numL ((B.drop j).take 4) := ⟨_, rfl⟩
      obtain ⟨q2, hq2⟩ : ∃ q, q = numL (((B.drop j).drop 4).take 4) := ⟨_, rfl⟩
      have hstepB := blocksL_step hTn
      rw [← hq1, ← hq2] at hstepB
      have e1 : (S.extract j (j + 4)).data.toList = (B.drop j).take 4 := by
        rw [ByteArray.data_extract, Array.toList_extract, List.extract_eq_take_drop, HSB.out, show j + 4 - j = 4 by omega]
      have e2 : (S.extract (j + 4) (j + 8)).data.toList = ((B.drop j).drop 4).take 4 := by
        rw [ByteArray.data_extract, Array.toList_extract, List.extract_eq_take_drop, HSB.out, List.drop_drop, show j + 8 - (j + 4) = 4 by omega]
      have hS0 : Out (fun i => row = some i) wr wr.drew := Out.of_below (Below.drew (Below.refl _ _))
      have ne : Nonempty (Cls (fun W => Out (fun i => row = some i) wr W)) := ⟨⟨_, hS0⟩⟩
      have co : wr.cell? ⟨gx, 3, none⟩ = some (.slice A2 bl2.length c2) := by simpa [optC] using hx2.cell 3
      have q3 : ∀ y : Cls (fun W => Out (fun i => row = some i) wr W), y.w.cell? ⟨gx, 3, none⟩ = some (.slice A2 bl2.length c2) := fun y => (World.cell?_of_block (y.h.block gx hx2.lt t1)).trans co
      have hSb : ∀ w w', Out (fun i => row = some i) wr w → Below w.heap.size w w' → Out (fun i => row = some i) wr w' := fun w w' h hb => Out.trans h (Out.of_below (O := fun _ => False) hb) (fun _ _ e => e.elim)
      have n1 : ∀ y : Cls (fun W => Out (fun i => row = some i) wr W), Calls Try.prog 54 #[.string (S.extract j (j + 4))] y.w fun e w'' => e = .returned (.int .u32 (q1 : Int)) ∧ Out (fun i => row = some i) wr w'' ∧ RApp 17 row 7 y.w w'' := fun y => (ref_num _ y.w (by simp [maxLen]; omega)).mono fun e w' ⟨he, hb⟩ => ⟨by rw [he, e1, hq1], by rw [← hb]; exact y.h, by rw [← hb]; exact RApp.refl _ _⟩
      have n2 : ∀ y : Cls (fun W => Out (fun i => row = some i) wr W), Calls Try.prog 54 #[.string (S.extract (j + 4) (j + 8))] y.w fun e w'' => e = .returned (.int .u32 (q2 : Int)) ∧ Out (fun i => row = some i) wr w'' ∧ RApp 17 row 14 y.w w'' := fun y => (ref_num _ y.w (by simp [maxLen]; omega)).mono fun e w' ⟨he, hb⟩ => ⟨by rw [he, e2, hq2], by rw [← hb]; exact y.h, by rw [← hb]; exact RApp.refl _ _⟩
      have cf : ∀ (vals : Array Value) (w : World), (callFunc 54 vals).run Try.prog w = .ok (.enter 54 vals) w := fun _ _ => by kernel_rfl
      have rb1 : ∀ w : World, (Instr.buildSlice 26 1 #[(0, .agg #[.int .u32 (q1 : Int), .int .u32 (q2 : Int)])]).run Try.prog w = .ok (.slice (some ⟨w.heap.size, 0, none⟩) 1 1) (w.alloc (.cells #[.int .u32 (q1 : Int), .int .u32 (q2 : Int)] 92)) := fun _ => by kernel_rfl
      have hrl : ∀ q, row = some q → q < wr.heap.size := fun q hq => (hv2.lt q (hrw.trans hq)).2
      have hwle : base ≤ wr.heap.size := Nat.le_trans Hb.out hout2.size
      have hU0 : ∀ q ∈ ([(17, fun W => W.ownsRow base 92 2 (.slice A2 bl2.length c2) bl2.length (bl2.flatMap blkC))] : List (Nat × (World → Prop))), q.2 wr.drew := by
        intro q hq
        obtain rfl := List.mem_singleton.1 hq
        exact hv2.kept (only_of_below (Below.drew (Below.refl _ _)) none) (Classical.em _)
      have hUs : ∀ q ∈ ([(17, fun W => W.ownsRow base 92 2 (.slice A2 bl2.length c2) bl2.length (bl2.flatMap blkC))] : List (Nat × (World → Prop))), ∀ i w w', i ≠ q.1 → RApp 17 row i w w' → q.2 w → q.2 w' := by
        intro q hq i w w' hi hr hw
        obtain rfl := List.mem_singleton.1 hq
        exact hw.kept (only_of_below (hr.below hi) none) (Classical.em _)
      obtain ⟨i0, hi0, h0, h1, h22⟩ := info_parts_o infoBo
      have hnb60 : bl2.length ≤ 4000 := by have := Hn.out; have := HBl.out; have := HN.out; omega
      have HTn := Lib.hid hTn
      clear hTn
      have Hv2 := Lib.hid hv2
      clear hv2
      have Hlen2 := Lib.hid hlen2
      clear hlen2
      have Hx2 := Lib.hid hx2
      clear hx2
      have Hrow2 := Lib.hid hrow2
      clear hrow2
      have Hr2 := Lib.hid hr2
      clear hr2
      have Hout2 := Lib.hid hout2
      clear hout2
      have Hbl := Lib.hid hbl
      clear hbl
      have HstepB := Lib.hid hstepB
      clear hstepB
      have E1 := Lib.hid e1
      clear e1
      have E2 := Lib.hid e2
      clear e2
      have Hq1 := Lib.hid hq1
      clear hq1
      have Hq2 := Lib.hid hq2
      clear hq2
      have N1 := Lib.hid n1
      clear n1
      have N2 := Lib.hid n2
      clear n2
      have Cf := Lib.hid cf
      clear cf
      have Rb1 := Lib.hid rb1
      clear rb1
      have Hrl := Lib.hid hrl
      clear hrl
      have Hwle := Lib.hid hwle
      clear hwle
      have HU0 := Lib.hid hU0
      clear hU0
      have HUs := Lib.hid hUs
      clear hUs
      have Hi0 := Lib.hid hi0
      clear hi0
      have H0 := Lib.hid h0
      clear h0
      have H1 := Lib.hid h1
      clear h1
      have H22 := Lib.hid h22
      clear h22
      have HS0 := Lib.hid hS0
      clear hS0
      have Hrw := Lib.hid hrw
      clear hrw
      have HSb := Lib.hid hSb
      clear hSb
      have T1 := Lib.hid t1
      clear t1
      have T2 := Lib.hid t2
      clear t2
      have Hj8 := Lib.hid hj8
      clear hj8
      have Hj8' := Lib.hid hj8'
      clear hj8'
      go_upto_region 13 with fail
      clear co
      refine wp_region_flowu 19 (fun W => Out (fun i => row = some i) wr W) (RApp 17 row) [(17, fun W => W.ownsRow base 92 2 (.slice A2 bl2.length c2) bl2.length (bl2.flatMap blkC))] (by kernel_rfl) (by kernel_rfl) (by kernel_rfl) RApp.refl HUs.out HU0.out HS0.out ?_
      simp only [List.take_succ_cons, List.take_zero, List.drop_succ_cons, List.drop_zero]
      repeat (first
        | (refine flowu_quiet RApp.refl rfl rfl rfl rfl ?_; intro K hK; go_big_quiet_op; go_big_quiet_on)
        | (refine flowu_call Cf.out _ ?_ rfl rfl rfl _ N1.out wr ?_; (focus (simp only [List.map_toArray, List.map_cons, List.map_nil]; rfl)); intro K hK; go_big_quiet_op; go_big_quiet_on)
        | (refine flowu_call Cf.out _ ?_ rfl rfl rfl _ N2.out wr ?_; (focus (simp only [List.map_toArray, List.map_cons, List.map_nil]; rfl)); intro K hK; go_big_quiet_op; go_big_quiet_on))
      refine flowx_build wr.heap.size (E := 92) #[(0, .agg #[.int .u32 (q1 : Int), .int .u32 (q2 : Int)])] ?_ #[.int .u32 (q1 : Int), .int .u32 (q2 : Int)] Rb1.out HSb.out (fun w h => h.size) Hrl.out rfl rfl rfl wr ?_
      focus (simp only [List.map_toArray, List.map_cons, List.map_nil]; rfl)
      intro K hK; go_big_quiet_op; go_big_quiet_on
      refine flowx_append wr.heap.size base i0 _ 2 8 Try.underlying26 Hi0.out H0.out H1.out H22.out rfl (by decide) (.slice A2 bl2.length c2) bl2.length (bl2.flatMap blkC) 1 #[.int .u32 (q1 : Int), .int .u32 (q2 : Int)] 0 rfl rfl rfl (of_decide_eq_true rfl) (fun f => rfl) Hrw.out rfl (fun w hw hut => hut _ List.mem_cons_self rfl) rfl (by intro u hu; simp at hu; rcases hu with rfl | rfl <;> rfl) (by simp only [maxLen]; omega) (by omega) (fun w h => Nat.le_trans Hwle.out h.size) (fun w h => h.size) (fun w w' h hg => Out.trans h (Out.mono (O := fun i => row = some i) ⟨hg.os, hg.tape, hg.output, hg.size, fun i hi hn => hg.block i hi (fun e => hn e.symm)⟩ (fun _ _ e => e)) (fun _ _ e => e)) rfl rfl wr ?_
      intro K hK; go_big_quiet_op; go_big_quiet_on
      repeat (refine flowu_quiet RApp.refl rfl rfl rfl rfl ?_; intro K hK; go_big_quiet_op; go_big_quiet_on)
      refine flowu_nil ?_
      intro W5 f hW5 hF5
      obtain ⟨v', hv', hrow5, hvb5⟩ := hF5 _ (List.mem_cons_self)
      clear hF5
      injection hv' with hv'
      simp only [fillW, Act.put, List.setIfInBounds_toArray, List.set_cons_succ, List.set_cons_zero]
      rw [hv']
      generalize f 54 = v54
      clear hv' q3 ne
      obtain ⟨A1, k1, hv1, _⟩ := own_slice hrow5
      subst hv1
      have hg5 : wr.grownBy W5 row := ⟨hW5.os, hW5.tape, hW5.output, hW5.size, fun i hi hn => hW5.block i hi (fun e => hn e.symm)⟩
      have hx5 := Hx2.out.grown hg5 (fun e => T1.out e.symm)
      have hr5 := Hr2.out.grown hg5 (fun e => T2.out e.symm)
      have c3 := hx5.cell 3
      try simp [optC] at c3
      have fr3 := hx5.frozen 3
      have hv5 : W5.ownsRow base 92 2 (.slice A1 (bl2.length + 1) k1) (bl2 ++ [((q1 : Int), (q2 : Int))]).length ((bl2 ++ [((q1 : Int), (q2 : Int))]).flatMap blkC) := by
        rw [List.length_append, List.flatMap_append]
        exact hrow5
      have hn5 := own_blk_ne hv5 hx5 (by decide)
      have hx6 : Blk (W5.setCell ⟨gx, 3, none⟩ (.slice A1 (bl2.length + 1) k1)) gx 28 (optC { o with bl := bl2 ++ [((q1 : Int), (q2 : Int))] } A1 k1) := by
        have := hx5.set_ 3 (.slice A1 (bl2.length + 1) k1)
        simpa [optC] using this
      have hr6 := hr5.far (p := ⟨gx, 3, none⟩) (Ne.symm hne_x_r) (.slice A1 (bl2.length + 1) k1)
      have hv6 := hv5.kept (only_set (World.grownBy.refl W5 (some gx)) 3 (.slice A1 (bl2.length + 1) k1)) (.inr hn5)
      have hout6 : Out (fun i => rowOf A o.bl.length c = some i) w (W5.setCell ⟨gx, 3, none⟩ (.slice A1 (bl2.length + 1) k1)) := out_new (Out.trans Hout2.out hW5 (fun i hi e => by
        rcases Hrow2.out with h | ⟨g, h1, h⟩
        · show rowOf A o.bl.length c = some i
          rw [← h]
          exact Hrw.out.trans e
        · have h3 : rowOf A2 bl2.length c2 = some i := Hrw.out.trans e
          rw [h3] at h
          injection h with h
          omega)) hle_x 3 (.slice A1 (bl2.length + 1) k1)
      have hrow6 : rowOf A1 (bl2 ++ [((q1 : Int), (q2 : Int))]).length k1 = rowOf A o.bl.length c ∨ ∃ g, w.heap.size ≤ g ∧ rowOf A1 (bl2 ++ [((q1 : Int), (q2 : Int))]).length k1 = some g := by
        rw [List.length_append]
        rcases hvb5 with e | ⟨g, h1, e⟩
        · have e' : rowOf A1 (bl2.length + 1) k1 = rowOf A2 bl2.length c2 := e.trans Hrw.out.symm
          rcases Hrow2.out with h | ⟨g, h1, h⟩
          · exact .inl (e'.trans h)
          · exact .inr ⟨g, h1, e'.trans h⟩
        · exact .inr ⟨g, Nat.le_trans Hout2.out.size h1, e⟩
      have hbl6 : (bl2 ++ [((q1 : Int), (q2 : Int))]) ++ blocksL (B.drop (j + 8)) = o.bl ++ blocksL B := by
        rw [List.append_assoc, ← Hbl.out, HstepB.out, List.drop_drop]
        rfl
      have hl6 : (bl2 ++ [((q1 : Int), (q2 : Int))]).length ≤ o.bl.length + (j + 8) := by
        have := Hlen2.out
        rw [List.length_append, List.length_singleton]
        omega
      have hlen1 : bl2.length + 1 = (bl2 ++ [((q1 : Int), (q2 : Int))]).length := by rw [List.length_append]; rfl
      clear hrow5 hvb5 hW5 hg5 hx5 hr5 hv5 hn5
      have hv6 : (W5.setCell ⟨gx, 3, none⟩ (.slice A1 (bl2.length + 1) k1)).ownsRow base 92 2 (.slice A1 (bl2 ++ [((q1 : Int), (q2 : Int))]).length k1) (bl2 ++ [((q1 : Int), (q2 : Int))]).length ((bl2 ++ [((q1 : Int), (q2 : Int))]).flatMap blkC) := by
        rw [← hlen1]
        rw [← hlen1] at hv6
        exact hv6
      have Hx6 := Lib.hid hx6
      clear hx6
      have Hr6 := Lib.hid hr6
      clear hr6
      have Hv6 := Lib.hid hv6
      clear hv6
      have Hout6 := Lib.hid hout6
      clear hout6
      have Hrow6 := Lib.hid hrow6
      clear hrow6
      have Hbl6 := Lib.hid hbl6
      clear hbl6
      have Hl6 := Lib.hid hl6
      clear hl6
      have Hlen1 := Lib.hid hlen1
      clear hlen1
      go_wp2_with fail
      go_roundw
      case rel => exact ⟨j + 8, bl2 ++ [((q1 : Int), (q2 : Int))], A1, k1, by go_num, by have := Hj8.out; omega, Hj8'.out, Hbl6.out, Hv6.out, Hl6.out, Hx6.out, Hrow6.out, Hr6.out, Hout6.out⟩
      case measure => simp [intOf]; omega
    · have j1 : ¬ (j : Int) < (N : Int) := by omega
      have hd : B.drop j = [] := List.drop_eq_nil_iff.2 (by have := HN.out; omega)
      rw [hd, blocksL_nil, List.append_nil] at hbl
      obtain ⟨o2, ho2⟩ : ∃ z, z = ({ o with bl := bl2 } : Op) := ⟨_, rfl⟩
      have hlen : bl2.length = o2.bl.length := by rw [ho2]
      have hfl : bl2.flatMap blkC = o2.bl.flatMap blkC := by rw [ho2]
      have htk2 : takeI o k B = if true then some o2 else none := by rw [Htk.out, ho2, hbl]; rfl
      clear Htk
      rw [← ho2] at hx2
      rw [hlen, hfl] at hv2
      rw [hlen] at hrow2
      have Htk := Lib.hid htk2
      obtain ⟨W2, hW2⟩ : ∃ W, W = wr := ⟨_, rfl⟩
      rw [← hW2] at hx2 hv2 hr2 hout2 ⊢
      clear hd hbl hlen2 hlen hfl hW2 htk2 ho2 hj8
      have Hx2 := Lib.hid hx2
      clear hx2
      have Hv2 := Lib.hid hv2
      clear hv2
      have Hr2 := Lib.hid hr2
      clear hr2
      have Hout2 := Lib.hid hout2
      clear hout2
      have Hrow2 := Lib.hid hrow2
      clear hrow2
      go_upto_region 18 with fail
      have hx2' := Hx2.out
      unfold optC at hx2'
      have z0 := hx2'.cell 0
      have z1 := hx2'.cell 1
      have z2 := hx2'.cell 2
      have z3 := hx2'.cell 3
      have z4 := hx2'.cell 4
      have z5 := hx2'.cell 5
      have z6 := hx2'.cell 6
      simp at z0 z1 z2 z3 z4 z5 z6
      have fq := Hr2.out.frozen
      have e0 := Hr2.out.cell 0
      have e1 := Hr2.out.cell 1
      have e2 := Hr2.out.cell 2
      have e3 := Hr2.out.cell 3
      have e4 := Hr2.out.cell 4
      have e5 := Hr2.out.cell 5
      have e6 := Hr2.out.cell 6
      simp at e0 e1 e2 e3 e4 e5 e6
      clear hx2'
      go_wp2_with fail
      generalize hWf : World.setCell _ _ _ = Wf
      have hrF : Blk Wf gr 28 #[.int .u16 (o2.mss : Int), .int .i64 o2.scale, .bool o2.sack, .slice A2 o2.bl.length c2, .bool o2.time, .int .u32 (o2.val : Int), .int .u32 (o2.echo : Int)] := by
        rw [← hWf]
        have := ((((((Hr2.out.set_ 0 (.int .u16 (o2.mss : Int))).set_ 1 (.int .i64 o2.scale)).set_ 2 (.bool o2.sack)).set_ 3 (.slice A2 o2.bl.length c2)).set_ 4 (.bool o2.time)).set_ 5 (.int .u32 (o2.val : Int))).set_ 6 (.int .u32 (o2.echo : Int))
        simpa using this
      have houtF : Out (fun i => rowOf A o.bl.length c = some i) w Wf := by
        rw [← hWf]
        repeat (refine out_new ?_ hle_r _ _)
        exact Hout2.out
      have hvF : Wf.ownsRow base 92 2 (.slice A2 o2.bl.length c2) o2.bl.length (o2.bl.flatMap blkC) := by
        refine Hv2.out.kept (row := some gr) ?_ (.inr (own_blk_ne Hv2.out Hr2.out (by decide)))
        rw [← hWf]
        repeat (refine only_set ?_ _ _)
        exact World.grownBy.refl _ _
      clear hWf z0 z1 z2 z3 z4 z5 z6 e0 e1 e2 e3 e4 e5 e6 fq
      have y0 := hrF.cell 0
      have y1 := hrF.cell 1
      have y2 := hrF.cell 2
      have y3 := hrF.cell 3
      have y4 := hrF.cell 4
      have y5 := hrF.cell 5
      have y6 := hrF.cell 6
      simp at y0 y1 y2 y3 y4 y5 y6
      exact bodyPost_ret (v := .tuple #[.agg (optC o2 A2 c2), .bool true]) (by simp [results, Try.results82, go_sem, optC, y0, y1, y2, y3, y4, y5, y6]) rfl ⟨o2, A2, c2, true, rfl, hvF, houtF, Hrow2.out, Htk.out⟩
/-- of any option -/
theorem take_any (base : Nat) (w : World) (o : Op) (A : Option Addr) (c : Nat) (k : Nat) (S : ByteArray) (B : List UInt8) (hSB : S.data.toList = B) (hl : longB k (B.length + 2) = true) (hBl : B.length ≤ 253)
    (hv : w.ownsRow base 92 2 (.slice A o.bl.length c) o.bl.length (o.bl.flatMap blkC)) (hb : base ≤ w.heap.size) (hn : o.bl.length ≤ 2000) :
    Calls Try.prog 82 #[.agg (optC o A c), .int .i64 (k : Int), .string S] w (TakePost base w o A c k B) := by
  by_cases h2 : k = 2
  · exact take_2 base w o A c k S B hSB hl hBl hv hb hn h2
  by_cases h3 : k = 3
  · exact take_3 base w o A c k S B hSB hl hBl hv hb hn h3
  by_cases h4 : k = 4
  · exact take_4 base w o A c k S B hSB hl hBl hv hb hn h4
  by_cases h5 : k = 5
  · exact take_5 base w o A c k S B hSB hl hBl hv hb hn h5
  by_cases h8 : k = 8
  · exact take_8 base w o A c k S B hSB hl hBl hv hb hn h8
  exact take_x base w o A c k S B hSB hl hBl hv hb hn ⟨h2, h3, h4, h5, h8⟩
end Go.Proofs.Ytengegcnocdkoaa
end
section
set_option maxRecDepth 20000
namespace Go.Proofs.Ytengegcnocdkoaa
open Go.RowKit Go.BigFrame
theorem rnone_any (w : World) : Calls Try.prog 81 #[] w fun e w' => e = .returned (.agg #[.int .u16 0, .int .i64 (-1), .bool false, .slice none 0 0, .bool false, .int .u32 0, .int .u32 0]) ∧ Below w.heap.size w w' := by
  have hb0 : Below w.heap.size w w := Below.refl _ _
  have HB := Lib.hid hb0
  clear hb0
  go_enter Try.func81, Try.ntmps81
  go_upto_region 1 with fail
  have hr := Blk.new w 28 #[.int .u16 0, .int .i64 0, .bool false, .slice none 0 0, .bool false, .int .u32 0, .int .u32 0]
  have hB := HB.out.alloc HB.out.size (.cells #[.int .u16 0, .int .i64 0, .bool false, .slice none 0 0, .bool false, .int .u32 0, .int .u32 0] 28)
  clear HB
  obtain ⟨gr, hge⟩ : ∃ g, g = w.heap.size := ⟨_, rfl⟩
  rw [← hge] at hr ⊢
  have hle_r : w.heap.size ≤ gr := by omega
  clear hge
  generalize w.alloc _ = wn1 at *
  have Hr := Lib.hid hr
  clear hr
  have HB := Lib.hid hB
  clear hB
  have d0 := Hr.out.cell 0
  have d1 := Hr.out.cell 1
  have d2 := Hr.out.cell 2
  have d3 := Hr.out.cell 3
  have d4 := Hr.out.cell 4
  have d5 := Hr.out.cell 5
  have d6 := Hr.out.cell 6
  simp at d0 d1 d2 d3 d4 d5 d6
  have fr := Hr.out.frozen
  go_wp2
  generalize hWf : World.setCell _ _ _ = Wf
  have hf : Blk Wf gr 28 #[.int .u16 0, .int .i64 (-1), .bool false, .slice none 0 0, .bool false, .int .u32 0, .int .u32 0] := by
    rw [← hWf]
    have := ((((((Hr.out.set_ 0 (.int .u16 0)).set_ 1 (.int .i64 (-1))).set_ 2 (.bool false)).set_ 3 (.slice none 0 0)).set_ 4 (.bool false)).set_ 5 (.int .u32 0)).set_ 6 (.int .u32 0)
    simpa using this
  have hBf : Below w.heap.size w Wf := by
    rw [← hWf]
    repeat (refine Below.setCell ?_ hle_r _)
    exact HB.out
  clear hWf d0 d1 d2 d3 d4 d5 d6 fr
  have z0 := hf.cell 0
  have z1 := hf.cell 1
  have z2 := hf.cell 2
  have z3 := hf.cell 3
  have z4 := hf.cell 4
  have z5 := hf.cell 5
  have z6 := hf.cell 6
  simp at z0 z1 z2 z3 z4 z5 z6
  exact bodyPost_ret (v := .agg #[.int .u16 0, .int .i64 (-1), .bool false, .slice none 0 0, .bool false, .int .u32 0, .int .u32 0]) (by simp [results, Try.results81, go_sem, z0, z1, z2, z3, z4, z5, z6]) rfl ⟨rfl, hBf⟩
end Go.Proofs.Ytengegcnocdkoaa
end
section
set_option maxRecDepth 20000
namespace Go.Proofs.Ytengegcnocdkoaa
open Go.RowKit Go.BigFrame
def foldT (L : List UInt8) (l : List (Nat × Nat)) (o : Op) : Option Op := l.foldlM (takeP L) o
theorem foldT_snoc (L : List UInt8) (l : List (Nat × Nat)) (p : Nat × Nat) (o : Op) : foldT L (l ++ [p]) o = (foldT L l o).bind fun q => takeP L q p := by
  unfold foldT
  rw [List.foldlM_append]
  cases List.foldlM (takeP L) o l with
  | none => rfl
  | some q => simp
theorem foldT_app (L : List UInt8) (l m : List (Nat × Nat)) (o : Op) : foldT L (l ++ m) o = (foldT L l o).bind fun q => foldT L m q := by
  unfold foldT
  rw [List.foldlM_append]
  rfl
theorem foldT_bl (L : List UInt8) : ∀ (l : List (Nat × Nat)) (o o2 : Op), foldT L l o = some o2 → o2.bl.length ≤ o.bl.length + L.length * l.length := by
  intro l
  induction l with
  | nil =>
    intro o o2 h
    have : some o = some o2 := h
    cases this
    simp
  | cons p l ih =>
    intro o o2 h
    have h1 : (takeP L o p).bind (fun q => foldT L l q) = some o2 := by
      unfold foldT at h
      rw [List.foldlM_cons] at h
      exact h
    cases ht : takeP L o p with
    | none => rw [ht] at h1; cases h1
    | some q =>
      rw [ht] at h1
      have h2 := ih q o2 h1
      have h3 := takeP_bl ht
      simp only [List.length_cons] at *
      rw [Nat.mul_succ]
      omega
theorem own_low {w w' : World} {base size n : Nat} {e : TypeId} {v : Value} {xs : List Value} (h : w.ownsRow base e size v n xs) (hb : Below w.heap.size w w') : w'.ownsRow base e size v n xs :=
  h.kept (only_of_below hb none) (by cases v.ownBlock <;> simp)
def TkR := Op × Option Addr × Nat × Bool
def tkA (r : TkR) : Array Value := optC r.1 r.2.1 r.2.2.1
def tkO (r : TkR) : Value := .bool r.2.2.2
def tkQ (base : Nat) (o : Op) (k : Nat) (B : List UInt8) (r : TkR) (W : World) : Prop := W.ownsRow base 92 2 (.slice r.2.1 r.1.bl.length r.2.2.1) r.1.bl.length (r.1.bl.flatMap blkC) ∧ takeI o k B = if r.2.2.2 then some r.1 else none
theorem allocOpts : ∀ W : World, (Instr.alloc 28 true (.tuple #[])).run Try.prog W = .ok (.pointer (some ⟨W.heap.size, 0, none⟩)) (W.alloc (.cells #[.int .u16 0, .int .i64 0, .bool false, .slice none 0 0, .bool false, .int .u32 0, .int .u32 0] 28)) := fun _ => by kernel_rfl
theorem sizeOpts : ∀ W : World, (sizeOf 28).run Try.prog W = .ok 7 W := fun _ => by kernel_rfl
theorem put7 {cs : Array Value} {a b c d e f g : Value} (h : cs.size = 7) : putFrom cs 0 [a, b, c, d, e, f, g] = #[a, b, c, d, e, f, g] := by
  obtain ⟨l⟩ := cs
  match l, h with
  | [x0, x1, x2, x3, x4, x5, x6], _ => simp [putFrom]
set_option maxRecDepth 100000 in
set_option maxHeartbeats 8000000 in
theorem rdec_in (x : ByteArray) (L : List UInt8) (hx : x.data.toList = L) (hm : L.length ≤ 40) (w : World) :
    Calls Try.prog 44 #[.string x] w (DecPost w L) := by
  have hsz : x.size = L.length := by rw [← hx]; simp
  obtain ⟨N, hN⟩ : ∃ N, N = L.length := ⟨_, rfl⟩
  rw [← hN] at hsz
  have j0 : (N : Int) ≤ 40 := by omega
  have j1 : ¬ (40 : Int) < (N : Int) := by omega
  have hpla := places_any x L hx (by omega)
  have hsame := dec_same L
  unfold rdecR at hsame
  rw [if_neg (by omega)] at hsame
  have hb0 : Below w.heap.size w w := Below.refl _ _
  have HB := Lib.hid hb0
  clear hb0
  have Hx := Lib.hid hx
  clear hx
  have HN := Lib.hid hN
  clear hN
  have Hpla := Lib.hid hpla
  clear hpla
  have Hsame := Lib.hid hsame
  clear hsame
  have Hm := Lib.hid hm
  clear hm
  go_enter Try.func44, Try.ntmps44
  go_upto_region 1 with fail
  have hr := Blk.new w 28 #[.int .u16 0, .int .i64 0, .bool false, .slice none 0 0, .bool false, .int .u32 0, .int .u32 0]
  have hB := HB.out.alloc HB.out.size (.cells #[.int .u16 0, .int .i64 0, .bool false, .slice none 0 0, .bool false, .int .u32 0, .int .u32 0] 28)
  clear HB
  obtain ⟨gr, hge⟩ : ∃ g, g = w.heap.size := ⟨_, rfl⟩
  rw [← hge] at hr ⊢
  have hle_r : w.heap.size ≤ gr := by omega
  clear hge
  generalize w.alloc _ = wn1 at *
  have Hr := Lib.hid hr
  clear hr
  have HB := Lib.hid hB
  clear hB
  obtain ⟨W1, hW1⟩ : ∃ W, W = wn1 := ⟨_, rfl⟩
  rw [← hW1] at Hr HB ⊢
  clear hW1
  go_wp2_with fail
  with_reducible refine (Hpla.out _).mono ?_
  rintro e w2 hpost
  unfold PlacesPost at hpost
  cases hg : goodR L (placesAt L 0) [] with
  | false =>
    rw [hg, if_neg (by decide)] at hpost
    obtain ⟨rfl, hbq⟩ := hpost
    have hd := Hsame.out
    rw [hg, if_neg (by decide)] at hd
    have hr := Hr.out.below hbq Hr.out.lt
    clear Hr
    have Hr := Lib.hid hr
    clear hr
    have hB := HB.out.trans (hbq.mono HB.out.size)
    clear HB
    have HB := Lib.hid hB
    clear hB
    clear hbq Hsame hg Hpla
    have Hd := Lib.hid hd
    clear hd
    have y0 := Hr.out.cell 0
    have y1 := Hr.out.cell 1
    have y2 := Hr.out.cell 2
    have y3 := Hr.out.cell 3
    have y4 := Hr.out.cell 4
    have y5 := Hr.out.cell 5
    have y6 := Hr.out.cell 6
    simp at y0 y1 y2 y3 y4 y5 y6
    have fr := Hr.out.frozen
    go_wp2_with fail
    generalize hWf : World.setCell _ _ _ = Wf
    have hrF : Blk Wf gr 28 #[.int .u16 0, .int .i64 0, .bool false, .slice none 0 0, .bool false, .int .u32 0, .int .u32 0] := by
      rw [← hWf]
      have := ((((((Hr.out.set_ 0 (.int .u16 0)).set_ 1 (.int .i64 0)).set_ 2 (.bool false)).set_ 3 (.slice none 0 0)).set_ 4 (.bool false)).set_ 5 (.int .u32 0)).set_ 6 (.int .u32 0)
      simpa using this
    have hBF : Below w.heap.size w Wf := by
      rw [← hWf]
      repeat (refine Below.setCell ?_ hle_r _)
      exact HB.out
    clear hWf y0 y1 y2 y3 y4 y5 y6 fr
    have y0 := hrF.cell 0
    have y1 := hrF.cell 1
    have y2 := hrF.cell 2
    have y3 := hrF.cell 3
    have y4 := hrF.cell 4
    have y5 := hrF.cell 5
    have y6 := hrF.cell 6
    simp at y0 y1 y2 y3 y4 y5 y6
    exact bodyPost_ret (v := .tuple #[.agg #[.int .u16 0, .int .i64 0, .bool false, .slice none 0 0, .bool false, .int .u32 0, .int .u32 0], .int .i64 70]) (by simp [results, Try.results44, go_sem, y0, y1, y2, y3, y4, y5, y6]) rfl ⟨zeroO, none, 0, 70, rfl, ⟨.inl rfl, fun _ e => by cases e⟩, hBF, Hd.out.symm⟩
  | true =>
    rw [hg, if_pos rfl] at hpost
    obtain ⟨Al, cl, rfl, hbq, hl⟩ := hpost
    have hd := Hsame.out
    rw [hg, if_pos rfl] at hd
    obtain ⟨pl, hpl⟩ : ∃ pl, pl = placesAt L 0 := ⟨_, rfl⟩
    have hplok : ∀ p ∈ pl, OkP L p ∧ p.2 ≠ 0 := by
      intro p hp
      rw [hpl] at hp
      refine ⟨places_ok L _ 0 p hp, fun h0 => ?_⟩
      obtain ⟨l1, l2, he⟩ := List.append_of_mem hp
      rw [he] at hg
      have : ∀ (l1 : List (Nat × Nat)) (met : List Nat), goodR L (l1 ++ p :: l2) met = false := by
        intro l1
        induction l1 with
        | nil => intro met; simp [goodR, h0]
        | cons q l ih => intro met; simp [goodR, ih]
      rw [this] at hg
      cases hg
    have hpll : pl.length ≤ 41 := by
      have := places_len L (L.length - 0 + 1) 0
      rw [hpl]
      unfold placesAt
      have := Hm.out
      omega
    rw [← hpl] at hd hl ⊢
    obtain ⟨n, hn⟩ : ∃ n, n = pl.length := ⟨_, rfl⟩
    rw [← hn] at hl ⊢
    have hr := Hr.out.below hbq Hr.out.lt
    clear Hr
    have Hr := Lib.hid hr
    clear hr
    have hB := HB.out.trans (hbq.mono HB.out.size)
    clear HB
    have HB := Lib.hid hB
    clear hB
    clear hbq Hsame hg Hpla
    have Hd := Lib.hid hd
    clear hd
    have Hl := Lib.hid hl
    clear hl
    have Hplok := Lib.hid hplok
    clear hplok
    have Hpll := Lib.hid hpll
    clear hpll
    have Hn := Lib.hid hn
    clear hn
    have Hpl := Lib.hid hpl
    clear hpl
    go_wp2_with fail
    with_reducible refine (rnone_any _).mono ?_
    rintro e w3 ⟨rfl, hbq⟩
    have hl3 := own_low Hl.out hbq
    clear Hl
    have hr := Hr.out.below hbq Hr.out.lt
    clear Hr
    have Hr := Lib.hid hr
    clear hr
    have hB := HB.out.trans (hbq.mono HB.out.size)
    clear HB
    have HB := Lib.hid hB
    clear hB
    clear hbq
    go_upto_region 7 with fail
    have hl4 := hl3.alloc (.cells #[.int .u16 0, .int .i64 (-1), .bool false, .slice none 0 0, .bool false, .int .u32 0, .int .u32 0] 28)
    clear hl3
    have hw3 := HB.out.size
    have ho := Blk.new w3 28 #[.int .u16 0, .int .i64 (-1), .bool false, .slice none 0 0, .bool false, .int .u32 0, .int .u32 0]
    have hr := Blk.alloc Hr.out (.cells #[.int .u16 0, .int .i64 (-1), .bool false, .slice none 0 0, .bool false, .int .u32 0, .int .u32 0] 28)
    clear Hr
    have hB := HB.out.alloc HB.out.size (.cells #[.int .u16 0, .int .i64 (-1), .bool false, .slice none 0 0, .bool false, .int .u32 0, .int .u32 0] 28)
    clear HB
    obtain ⟨go, hge⟩ : ∃ g, g = w3.heap.size := ⟨_, rfl⟩
    rw [← hge] at ho ⊢
    have hle_o : w3.heap.size ≤ go := by omega
    clear hge
    generalize w3.alloc _ = wn2 at *
    have Hr := Lib.hid hr
    clear hr
    have Ho := Lib.hid ho
    clear ho
    have HB := Lib.hid hB
    clear hB
    obtain ⟨W4, hW4⟩ : ∃ W, W = wn2 := ⟨_, rfl⟩
    rw [← hW4] at Hr HB Ho hl4 ⊢
    clear hW4
    obtain ⟨Bl, hBl⟩ : ∃ B, B = W1.heap.size := ⟨_, rfl⟩
    rw [← hBl] at hl4
    clear hBl
    have ho4 : Blk W4 go 28 (optC noneO none 0) := Ho.out
    have hro : go ≠ gr := fun e => by
      have h1 := Ho.out
      have h2 := Hr.out
      rw [e] at h1
      unfold Blk at h1 h2
      rw [h1] at h2
      injection h2 with h2
      injection h2 with h2 _
      have := congrArg (fun a : Array Value => a[1]?) h2
      simp at this
    have hown0 : W4.ownsRow w.heap.size 92 2 (.slice none 0 0) 0 [] := World.ownsRow_nil _ _ _ _
    have hwo : w.heap.size ≤ go := Nat.le_trans hw3 hle_o
    have hn41 : (n : Int) ≤ 41 := by have := Hpll.out; have := Hn.out; omega
    clear hw3
    have Hl4 := Lib.hid hl4
    clear hl4
    have Ho4 := Lib.hid ho4
    clear ho4
    have Hown0 := Lib.hid hown0
    clear hown0
    have Hro := Lib.hid hro
    clear hro
    go_wp2_with fail
    go_loopw [7] (fun i wr => ∃ (j : Nat) (o : Op) (A : Option Addr) (c : Nat), i = .int .i64 (j : Int) ∧ j ≤ n ∧ foldT L (pl.take j) noneO = some o ∧ Blk wr go 28 (optC o A c) ∧ wr.ownsRow w.heap.size 92 2 (.slice A o.bl.length c) o.bl.length (o.bl.flatMap blkC) ∧
        wr.ownsRow Bl 3 1 (.slice Al n cl) n (pl.map fun p => .int .i64 (p.1 : Int)) ∧ Blk wr gr 28 #[.int .u16 0, .int .i64 0, .bool false, .slice none 0 0, .bool false, .int .u32 0, .int .u32 0] ∧ Below w.heap.size w wr)
      (fun i _ => n - (intOf i).toNat)
    case atStart => exact ⟨0, noneO, none, 0, rfl, Nat.zero_le _, rfl, Ho4.out, Hown0.out, Hl4.out, Hr.out, HB.out⟩
    case round =>
      obtain ⟨j, o, A, c, rfl, hj, hf, ho, hv, hl, hr, hb⟩ := hrel
      by_cases hjn : j < n
      · have i1 : (j : Int) < (n : Int) := by omega
        obtain ⟨p, hp⟩ : ∃ p, pl[j]? = some p := ⟨_, List.getElem?_eq_getElem (by have := Hn.out; omega)⟩
        have hpm : p ∈ pl := List.mem_of_getElem? hp
        obtain ⟨⟨q1, q2, q3, q4⟩, q5⟩ := Hplok.out p hpm
        obtain ⟨at_, c2⟩ := p
        dsimp only at q1 q2 q3 q4 q5
        obtain ⟨r1, r2, r3, r4, r5⟩ := stepN_pos (L := L) (i := at_) (by rw [← q4]; exact q5)
        rw [← q4] at r3 r4 r5
        obtain ⟨k, hk⟩ : ∃ k, k = byteN L at_ := ⟨_, rfl⟩
        rw [← hk, ← r4] at r2
        have hix := fun W => index_at x at_ (by rw [Hx.out]; exact q1) W
        have hix2 := fun W => index_at x (at_ + 1) (by rw [Hx.out]; exact r1) W
        rw [Hx.out, ← hk] at hix
        rw [Hx.out, ← r4, show ((at_ + 1 : Nat) : Int) = (at_ : Int) + 1 by omega] at hix2
        have k256 : k < 256 := by rw [hk]; exact byteN_lt _ _
        have c256 : c2 < 256 := by rw [r4]; exact byteN_lt _ _
        obtain ⟨S, hS⟩ : ∃ S, S = x.extract (at_ + 2) (at_ + c2) := ⟨_, rfl⟩
        have hSd : S.data.toList = bodyL L (at_, c2) := by
          rw [hS, ByteArray.data_extract]
          unfold bodyL
          simp only [Array.toList_extract, List.extract_eq_take_drop, Hx.out]
          rw [show at_ + c2 - (at_ + 2) = c2 - 2 by omega]
        have hBlen : (bodyL L (at_, c2)).length = c2 - 2 := by
          unfold bodyL
          rw [List.length_take, List.length_drop]
          omega
        have i2 : (at_ : Int) + 1 ≤ (N : Int) := by have := HN.out; omega
        have i3 : (at_ : Int) + 2 ≤ (at_ : Int) + (c2 : Int) := by omega
        have i4 : (at_ : Int) + (c2 : Int) ≤ (N : Int) := by have := HN.out; omega
        have i5 : (0 : Int) ≤ (at_ : Int) + 2 := by omega
        have hn2000 : o.bl.length ≤ 2000 := by
          have h1 := foldT_bl L _ _ _ hf
          have h2 : L.length * (pl.take j).length ≤ 40 * 41 := Nat.mul_le_mul Hm.out (Nat.le_trans (List.length_take_le _ _) (by have := Hpll.out; have := Hn.out; omega))
          simp only [noneO, List.length_nil] at h1
          omega
        obtain ⟨row, hrw⟩ : ∃ row, (Value.slice A o.bl.length c).ownBlock = row := ⟨_, rfl⟩
        obtain ⟨gl, capl, hAl, _, hlt⟩ := hl.form (by omega)
        have hAl' : Al = some ⟨gl, 0, none⟩ := by injection hAl
        subst hAl'
        have t1 := own_blk_ne hv ho (by decide)
        rw [hrw] at t1
        have t2 := own_blk_ne hv hr (by decide)
        rw [hrw] at t2
        have t3 : row ≠ some gl := by
          intro e
          rw [← hrw] at e
          obtain ⟨_, cs, hcs⟩ := own_cells hv e
          obtain ⟨_, cs2, hcs2⟩ := own_cells hl (show (Value.slice (some ⟨gl, 0, none⟩) n cl).ownBlock = some gl by simp [Value.ownBlock])
          rw [hcs] at hcs2
          injection hcs2 with e2
          injection e2 with _ e2
          exact absurd e2 (by decide)
        have cl0 : wr.cell? ⟨gl, j, none⟩ = some (.int .i64 (at_ : Int)) := by
          have := hl.cells (g := gl) rfl j (.int .i64 (at_ : Int)) (by rw [List.getElem?_map, hp]; rfl)
          have had : (⟨gl, 0, none⟩ : Addr).add j = ⟨gl, j, none⟩ := by unfold Addr.add; split <;> simp_all
          rwa [had] at this
        have hS0 : Out (fun i => row = some i) wr wr.drew := Out.of_below (Below.drew (Below.refl _ _))
        have ne : Nonempty (Cls (fun W => Out (fun i => row = some i) wr W)) := ⟨⟨_, hS0⟩⟩
        have qb : ∀ y : Cls (fun W => Out (fun i => row = some i) wr W), Blk y.w go 28 (optC o A c) := fun y => (y.h.block go ho.lt t1).trans ho
        have qc : ∀ y : Cls (fun W => Out (fun i => row = some i) wr W), y.w.cell? ⟨gl, j, none⟩ = some (.int .i64 (at_ : Int)) := fun y => (World.cell?_of_block (y.h.block gl hlt t3)).trans cl0
        have hSb : ∀ w w', Out (fun i => row = some i) wr w → Below w.heap.size w w' → Out (fun i => row = some i) wr w' := fun w w' h hb => Out.trans h (Out.of_below (O := fun _ => False) hb) (fun _ _ e => e.elim)
        have hSn : ∀ (w w' : World) (b : Nat), Out (fun i => row = some i) wr w → wr.heap.size ≤ b → b < w.heap.size → w.grownBy w' (some b) → Out (fun i => row = some i) wr w' := fun w w' b h h1 h2 hg => ⟨hg.os.trans h.os, hg.tape.trans h.tape, hg.output.trans h.output, Nat.le_trans h.size hg.size, fun i hi hn => (hg.block i (Nat.lt_of_lt_of_le hi h.size) (fun e => by injection e with e; omega)).trans (h.block i hi hn)⟩
        have hrl : ∀ q, row = some q → q < wr.heap.size := fun q hq => (hv.lt q (hrw.trans hq)).2
        have cf : ∀ (vals : Array Value) (w : World), (callFunc 82 vals).run Try.prog w = .ok (.enter 82 vals) w := fun _ _ => by kernel_rfl
        have hU0 : ∀ q ∈ ([(28, fun W => W.ownsRow w.heap.size 92 2 (.slice A o.bl.length c) o.bl.length (o.bl.flatMap blkC))] : List (Nat × (World → Prop))), q.2 wr.drew := by
          intro q hq
          obtain rfl := List.mem_singleton.1 hq
          exact own_low hv (Below.drew (Below.refl _ _))
        have hUs : ∀ q ∈ ([(28, fun W => W.ownsRow w.heap.size 92 2 (.slice A o.bl.length c) o.bl.length (o.bl.flatMap blkC))] : List (Nat × (World → Prop))), ∀ i w w', i ≠ q.1 → RVar 28 33 row wr.heap.size 28 7 i w w' → q.2 w → q.2 w' := by
          intro q hq i w w' hi hr hw
          obtain rfl := List.mem_singleton.1 hq
          exact own_var hi (by decide) hr hw
        have hQ : ∀ (r : TkR) (i : Nat) (w1 w2 : World), i ≠ 28 → RVar 28 33 row wr.heap.size 28 7 i w1 w2 → tkQ w.heap.size o k (bodyL L (at_, c2)) r w1 → tkQ w.heap.size o k (bodyL L (at_, c2)) r w2 := fun r i w1 w2 hi hr h => ⟨own_var hi (by decide) hr h.1, h.2⟩
        have hcall : ∀ W, Out (fun i => row = some i) wr W → untilU [(28, fun W => W.ownsRow w.heap.size 92 2 (.slice A o.bl.length c) o.bl.length (o.bl.flatMap blkC))] 28 W → Calls Try.prog 82 #[.agg (optC o A c), .int .i64 (k : Int), .string S] W fun e w'' => ∃ r, e = .returned (tupR tkA tkO r) ∧ tkQ w.heap.size o k (bodyL L (at_, c2)) r w'' ∧ Out (fun i => row = some i) wr w'' ∧ RVar 28 33 row wr.heap.size 28 7 28 W w'' := by
          intro W hW hut
          have hrowW := hut _ List.mem_cons_self rfl
          refine (take_any w.heap.size W o A c k S _ hSd (by rw [hBlen, show c2 - 2 + 2 = c2 by omega]; exact r2) (by rw [hBlen]; omega) hrowW (Nat.le_trans hb.size hW.size) hn2000).mono ?_
          rintro e w'' ⟨o2, A2, c3, okk, rfl, h1, h2, _, h4⟩
          have h2' : Out (fun i => row = some i) W w'' := h2.mono (fun i _ e => by rw [← hrw]; exact e)
          refine ⟨(o2, A2, c3, okk), rfl, ⟨h1, h4⟩, Out.trans hW h2' (fun _ _ e => e), .inr (.inl ⟨rfl, h2'.os, h2'.tape, h2'.output, h2'.size, fun i hi hne => h2'.block i hi (fun e => hne e.symm)⟩)⟩
        have hput : ∀ (r : TkR) (cs : Array Value), cs.size = 7 → putFrom cs 0 (tkA r).toList = tkA r := fun r cs h => put7 h
        have h1c : ∀ (r : TkR), ∀ v ∈ (tkA r).toList, v.oneCell' = true := by
          intro r v hv
          simp only [tkA, optC, List.mem_cons, List.not_mem_nil, or_false] at hv
          rcases hv with rfl | rfl | rfl | rfl | rfl | rfl | rfl <;> rfl
        have Hf := Lib.hid hf
        clear hf
        have Ho := Lib.hid ho
        clear ho
        have Hv := Lib.hid hv
        clear hv
        have Hl := Lib.hid hl
        clear hl
        have Hr := Lib.hid hr
        clear hr
        have Hb := Lib.hid hb
        clear hb
        have Hp := Lib.hid hp
        clear hp
        have Hpm := Lib.hid hpm
        clear hpm
        have Q1 := Lib.hid q1
        clear q1
        have Q2 := Lib.hid q2
        clear q2
        have Q3 := Lib.hid q3
        clear q3
        have Q4 := Lib.hid q4
        clear q4
        have Q5 := Lib.hid q5
        clear q5
        have R1 := Lib.hid r1
        clear r1
        have R2 := Lib.hid r2
        clear r2
        have R3 := Lib.hid r3
        clear r3
        have R4 := Lib.hid r4
        clear r4
        have R5 := Lib.hid r5
        clear r5
        have Hk := Lib.hid hk
        clear hk
        have HSd := Lib.hid hSd
        clear hSd
        have HBlen := Lib.hid hBlen
        clear hBlen
        have Hn2000 := Lib.hid hn2000
        clear hn2000
        have Hrw := Lib.hid hrw
        clear hrw
        have Hlt := Lib.hid hlt
        clear hlt
        have T1 := Lib.hid t1
        clear t1
        have T2 := Lib.hid t2
        clear t2
        have T3 := Lib.hid t3
        clear t3
        have HS0 := Lib.hid hS0
        clear hS0
        have HSb := Lib.hid hSb
        clear hSb
        have HSn := Lib.hid hSn
        clear hSn
        have Hrl := Lib.hid hrl
        clear hrl
        have Cf := Lib.hid cf
        clear cf
        have HU0 := Lib.hid hU0
        clear hU0
        have HUs := Lib.hid hUs
        clear hUs
        have HQ := Lib.hid hQ
        clear hQ
        have Hcall := Lib.hid hcall
        clear hcall
        have Hput := Lib.hid hput
        clear hput
        have H1c := Lib.hid h1c
        clear h1c
        have Hjn := Lib.hid hjn
        clear hjn
        have HAl := Lib.hid hAl
        clear hAl
        have Qb := Lib.hid qb
        clear qb
        go_upto_region 10 with fail
        refine wp_region_flowu 35 (fun W => Out (fun i => row = some i) wr W) (RVar 28 33 row wr.heap.size 28 7) [(28, fun W => W.ownsRow w.heap.size 92 2 (.slice A o.bl.length c) o.bl.length (o.bl.flatMap blkC))] (by kernel_rfl) (by kernel_rfl) (by kernel_rfl) RVar.refl HUs.out HU0.out HS0.out ?_
        simp only [List.take_succ_cons, List.take_zero, List.drop_succ_cons, List.drop_zero]
        refine flowu_load go _ Qb.out optsU optsI rfl RVar.refl rfl rfl rfl wr ?_
        intro K hK; go_big_quiet_op; go_big_quiet_on
        repeat (refine flowu_quiet RVar.refl rfl rfl rfl rfl ?_; intro K hK; go_big_quiet_op; go_big_quiet_on)
        refine flowt_call tkA tkO (tkQ w.heap.size o k (bodyL L (at_, c2))) rfl HQ.out Cf.out #[.agg (optC o A c), .int .i64 (k : Int), .string S] ?_ rfl Hcall.out rfl rfl wr ?_
        focus (rw [hS]; simp only [List.map_toArray, List.map_cons, List.map_nil]; rfl)
        intro K hK; go_big_quiet_op; go_big_quiet_on
        refine flowt_move tkA tkO _ (fun _ => rfl) 0 rfl rfl rfl (by simp) RVar.refl rfl rfl rfl rfl wr ?_
        intro K hK; go_big_quiet_op; go_big_quiet_on
        refine flowt_first tkA tkO 0 rfl rfl rfl (by simp) RVar.refl rfl rfl rfl rfl wr ?_
        intro K hK; go_big_quiet_op; go_big_quiet_on
        refine flowt_second tkA tkO 1 rfl rfl rfl (by simp) RVar.refl rfl rfl rfl rfl wr ?_
        intro K hK; go_big_quiet_op; go_big_quiet_on
        refine flowt_alloc _ allocOpts rfl Hrl.out HSb.out (fun w h => h.size) rfl rfl wr ?_
        intro K hK; go_big_quiet_op; go_big_quiet_on
        refine flowt_store tkA tkO rfl 0 2 rfl rfl rfl (by simp) rfl rfl rfl (by simp) rfl Hrl.out sizeOpts (fun _ => rfl) H1c.out Hput.out HSn.out rfl rfl ?_
        refine flowt_assign tkA tkO (fun _ => rfl) 2 rfl rfl rfl (by simp) RVar.refl rfl rfl rfl rfl wr ?_
        intro K hK; go_big_quiet_op; go_big_quiet_on
        refine flowu_nil ?_
        intro W5 f hW5 hF5
        obtain ⟨⟨o2, A2, c3, okk⟩, gn, ⟨hv5, htk⟩, v1, v2, v3, v4, v5, v6, hgn, hk5⟩ := flowt_end tkA tkO _ (hF5 _ (.tail _ (.tail _ (.tail _ (.tail _ (.tail _ (.tail _ (.head _)))))))) (hF5 _ (.tail _ (.tail _ (.tail _ (.tail _ (.tail _ (.head _))))))) (hF5 _ (.tail _ (.tail _ (.tail _ (.tail _ (.head _)))))) (hF5 _ (.tail _ (.tail _ (.tail _ (.head _))))) (hF5 _ (.tail _ (.head _))) (hF5 _ (.head _))
        clear hF5
        simp only [fillW, Act.put, List.setIfInBounds_toArray, List.set_cons_succ, List.set_cons_zero]
        rw [v1, v2, v3, v4, v5, v6]
        clear v1 v2 v3 v4 v5 v6
        dsimp only [tkO, tkA, tupR] at *
        have ho5 : Blk W5 go 28 (optC o A c) := (hW5.block go Ho.out.lt T1.out).trans Ho.out
        have hr5 := (hW5.block gr Hr.out.lt T2.out).trans Hr.out
        have hr5 : Blk W5 gr 28 #[.int .u16 0, .int .i64 0, .bool false, .slice none 0 0, .bool false, .int .u32 0, .int .u32 0] := hr5
        have hg5 : wr.grownBy W5 row := ⟨hW5.os, hW5.tape, hW5.output, hW5.size, fun i hi hn => hW5.block i hi (fun e => hn e.symm)⟩
        have hl5 := Hl.out.kept hg5 (.inr (fun e => T3.out (by rw [← e]; simp [Value.ownBlock])))
        have hb5 : Below w.heap.size w W5 := Hb.out.grown hg5 Hb.out.size (fun q hq => by
          have := (Hv.out.lt q (Hrw.out.trans hq)).1
          omega)
        have htake : pl.take (j + 1) = pl.take j ++ [(at_, c2)] := by rw [List.take_add_one, Hp.out]; rfl
        have hf5 : foldT L (pl.take (j + 1)) noneO = if okk = true then some o2 else none := by
          rw [htake, foldT_snoc, Hf.out, Option.bind_some, takeP_I]
          show takeI o (byteN L at_) _ = _
          rw [← Hk.out]
          exact htk
        have hnr : gn ≠ gr := fun e => by have := Hr.out.lt; omega
        have hno : gn ≠ go := fun e => by have := Ho.out.lt; omega
        clear hW5 hg5 htk htake ne qc hix hix2 hgn
        cases okk with
        | false =>
          rw [if_neg (by decide)] at hf5
          have hdd : decR L = (zeroO, 70) := by
            have h1 : foldT L pl noneO = none := by
              rw [← List.take_append_drop (j + 1) pl, foldT_app, hf5]
              rfl
            rw [Hd.out]
            unfold foldT at h1
            rw [h1]
          clear hf5
          have Ho5 := Lib.hid ho5
          clear ho5
          have Hr5 := Lib.hid hr5
          clear hr5
          have Hl5 := Lib.hid hl5
          clear hl5
          have Hb5 := Lib.hid hb5
          clear hb5
          have Hv5 := Lib.hid hv5
          clear hv5
          have Hk5 := Lib.hid hk5
          clear hk5
          have Hnr := Lib.hid hnr
          clear hnr
          have Hno := Lib.hid hno
          clear hno
          have Hdd := Lib.hid hdd
          clear hdd
          have y0 := Hr5.out.cell 0
          have y1 := Hr5.out.cell 1
          have y2 := Hr5.out.cell 2
          have y3 := Hr5.out.cell 3
          have y4 := Hr5.out.cell 4
          have y5 := Hr5.out.cell 5
          have y6 := Hr5.out.cell 6
          simp at y0 y1 y2 y3 y4 y5 y6
          have fr := Hr5.out.frozen
          go_wp2_with fail
          generalize hWf : World.setCell _ _ _ = Wf
          have hrF : Blk Wf gr 28 #[.int .u16 0, .int .i64 0, .bool false, .slice none 0 0, .bool false, .int .u32 0, .int .u32 0] := by
            rw [← hWf]
            have := ((((((Hr5.out.set_ 0 (.int .u16 0)).set_ 1 (.int .i64 0)).set_ 2 (.bool false)).set_ 3 (.slice none 0 0)).set_ 4 (.bool false)).set_ 5 (.int .u32 0)).set_ 6 (.int .u32 0)
            simpa using this
          have hBF : Below w.heap.size w Wf := by
            rw [← hWf]
            repeat (refine Below.setCell ?_ hle_r _)
            exact Hb5.out
          clear hWf y0 y1 y2 y3 y4 y5 y6 fr
          have y0 := hrF.cell 0
          have y1 := hrF.cell 1
          have y2 := hrF.cell 2
          have y3 := hrF.cell 3
          have y4 := hrF.cell 4
          have y5 := hrF.cell 5
          have y6 := hrF.cell 6
          simp at y0 y1 y2 y3 y4 y5 y6
          exact bodyPost_ret (v := .tuple #[.agg #[.int .u16 0, .int .i64 0, .bool false, .slice none 0 0, .bool false, .int .u32 0, .int .u32 0], .int .i64 70]) (by simp [results, Try.results44, go_sem, y0, y1, y2, y3, y4, y5, y6]) rfl ⟨zeroO, none, 0, 70, rfl, ⟨.inl rfl, fun _ e => by cases e⟩, hBF, Hdd.out.symm⟩
        | true =>
          rw [if_pos rfl] at hf5
          have Ho5 := Lib.hid ho5
          clear ho5
          have Hr5 := Lib.hid hr5
          clear hr5
          have Hl5 := Lib.hid hl5
          clear hl5
          have Hb5 := Lib.hid hb5
          clear hb5
          have Hv5 := Lib.hid hv5
          clear hv5
          have Hf5 := Lib.hid hf5
          clear hf5
          have Hnr := Lib.hid hnr
          clear hnr
          have Hno := Lib.hid hno
          clear hno
          unfold optC at hk5
          have y0 := hk5.cell 0
          have y1 := hk5.cell 1
          have y2 := hk5.cell 2
          have y3 := hk5.cell 3
          have y4 := hk5.cell 4
          have y5 := hk5.cell 5
          have y6 := hk5.cell 6
          simp at y0 y1 y2 y3 y4 y5 y6
          have fr := Ho5.out.frozen
          have ho5' := Ho5.out
          unfold optC at ho5'
          have z0 := ho5'.cell 0
          have z1 := ho5'.cell 1
          have z2 := ho5'.cell 2
          have z3 := ho5'.cell 3
          have z4 := ho5'.cell 4
          have z5 := ho5'.cell 5
          have z6 := ho5'.cell 6
          simp at z0 z1 z2 z3 z4 z5 z6
          clear ho5'
          go_upto_region 9 with fail
          generalize hWf : World.setCell _ _ _ = W6
          have ho6 : Blk W6 go 28 (optC o2 A2 c3) := by
            rw [← hWf]
            have := ((((((Ho5.out.set_ 0 (.int .u16 (o2.mss : Int))).set_ 1 (.int .i64 o2.scale)).set_ 2 (.bool o2.sack)).set_ 3 (.slice A2 o2.bl.length c3)).set_ 4 (.bool o2.time)).set_ 5 (.int .u32 (o2.val : Int))).set_ 6 (.int .u32 (o2.echo : Int))
            simpa [optC] using this
          have hg6 : W5.grownBy W6 (some go) := by
            rw [← hWf]
            repeat (refine only_set ?_ _ _)
            exact World.grownBy.refl _ _
          have hr6 := Hr5.out.grown hg6 (fun e => Hro.out (Option.some.inj e).symm)
          have hl6 := Hl5.out.kept hg6 (.inr (own_blk_ne Hl5.out Ho5.out (by decide)))
          have hv6 := Hv5.out.kept hg6 (.inr (own_blk_ne Hv5.out Ho5.out (by decide)))
          have hb6 : Below w.heap.size w W6 := Hb5.out.grown hg6 Hb5.out.size (fun q hq => by injection hq with hq; omega)
          clear hWf hg6 y0 y1 y2 y3 y4 y5 y6 z0 z1 z2 z3 z4 z5 z6 fr hk5
          have Ho6 := Lib.hid ho6
          clear ho6
          have Hr6 := Lib.hid hr6
          clear hr6
          have Hl6 := Lib.hid hl6
          clear hl6
          have Hv6 := Lib.hid hv6
          clear hv6
          have Hb6 := Lib.hid hb6
          clear hb6
          go_wp2_with fail
          go_roundw
          case rel => exact ⟨j + 1, o2, A2, c3, by go_num, by have := Hjn.out; omega, Hf5.out, Ho6.out, Hv6.out, Hl6.out, Hr6.out, Hb6.out⟩
          case measure => simp [intOf]; have := Hjn.out; omega
      · have i1 : ¬ (j : Int) < (n : Int) := by omega
        have hdd : decR L = (o, 0) := by
          rw [List.take_of_length_le (by have := Hn.out; omega)] at hf
          rw [Hd.out]
          unfold foldT at hf
          rw [hf]
        clear hf hl
        have ho' := ho
        unfold optC at ho'
        have z0 := ho'.cell 0
        have z1 := ho'.cell 1
        have z2 := ho'.cell 2
        have z3 := ho'.cell 3
        have z4 := ho'.cell 4
        have z5 := ho'.cell 5
        have z6 := ho'.cell 6
        simp at z0 z1 z2 z3 z4 z5 z6
        have y0 := hr.cell 0
        have y1 := hr.cell 1
        have y2 := hr.cell 2
        have y3 := hr.cell 3
        have y4 := hr.cell 4
        have y5 := hr.cell 5
        have y6 := hr.cell 6
        simp at y0 y1 y2 y3 y4 y5 y6
        have fr := hr.frozen
        clear ho'
        have Ho := Lib.hid ho
        clear ho
        have Hr := Lib.hid hr
        clear hr
        have Hv := Lib.hid hv
        clear hv
        have Hb := Lib.hid hb
        clear hb
        have Hdd := Lib.hid hdd
        clear hdd
        go_wp2_with fail
        generalize hWf : World.setCell _ _ _ = Wf
        have hrF : Blk Wf gr 28 #[.int .u16 (o.mss : Int), .int .i64 o.scale, .bool o.sack, .slice A o.bl.length c, .bool o.time, .int .u32 (o.val : Int), .int .u32 (o.echo : Int)] := by
          rw [← hWf]
          have := ((((((Hr.out.set_ 0 (.int .u16 (o.mss : Int))).set_ 1 (.int .i64 o.scale)).set_ 2 (.bool o.sack)).set_ 3 (.slice A o.bl.length c)).set_ 4 (.bool o.time)).set_ 5 (.int .u32 (o.val : Int))).set_ 6 (.int .u32 (o.echo : Int))
          simpa using this
        have hg6 : wr.grownBy Wf (some gr) := by
          rw [← hWf]
          repeat (refine only_set ?_ _ _)
          exact World.grownBy.refl _ _
        have hvF := Hv.out.kept hg6 (.inr (own_blk_ne Hv.out Hr.out (by decide)))
        have hBF : Below w.heap.size w Wf := Hb.out.grown hg6 Hb.out.size (fun q hq => by injection hq with hq; omega)
        clear hWf hg6 y0 y1 y2 y3 y4 y5 y6 z0 z1 z2 z3 z4 z5 z6 fr
        obtain ⟨A2, c2, hAc, hbl2⟩ := own_blrC hvF
        injection hAc with e1 _ e3
        subst e1 e3
        have y0 := hrF.cell 0
        have y1 := hrF.cell 1
        have y2 := hrF.cell 2
        have y3 := hrF.cell 3
        have y4 := hrF.cell 4
        have y5 := hrF.cell 5
        have y6 := hrF.cell 6
        simp at y0 y1 y2 y3 y4 y5 y6
        exact bodyPost_ret (v := .tuple #[.agg (optC o A c), .int .i64 0]) (by simp [results, Try.results44, go_sem, optC, y0, y1, y2, y3, y4, y5, y6]) rfl ⟨o, A, c, 0, rfl, ⟨hbl2, own_newA hvF⟩, hBF, Hdd.out.symm⟩
set_option maxHeartbeats 2000000 in
theorem rdec_long (x : ByteArray) (L : List UInt8) (hx : x.data.toList = L) (hm : 40 < L.length) (w : World) :
    Calls Try.prog 44 #[.string x] w (DecPost w L) := by
  have hsz : x.size = L.length := by rw [← hx]; simp
  have j1 : (40 : Int) < (L.length : Int) := by omega
  have hr : decR L = (zeroO, 4) := by unfold decR; rw [if_pos hm]
  have hb0 : Below w.heap.size w w := Below.refl _ _
  have HB := Lib.hid hb0
  clear hb0
  have Hr := Lib.hid hr
  clear hr
  go_enter Try.func44, Try.ntmps44
  go_upto_region 1 with fail
  have ho := Blk.new w 28 #[.int .u16 0, .int .i64 0, .bool false, .slice none 0 0, .bool false, .int .u32 0, .int .u32 0]
  have hB := HB.out.alloc HB.out.size (.cells #[.int .u16 0, .int .i64 0, .bool false, .slice none 0 0, .bool false, .int .u32 0, .int .u32 0] 28)
  clear HB
  obtain ⟨go, hge⟩ : ∃ g, g = w.heap.size := ⟨_, rfl⟩
  rw [← hge] at ho ⊢
  have hle_o : w.heap.size ≤ go := by omega
  clear hge
  generalize w.alloc _ = wn3 at *
  have Ho := Lib.hid ho
  clear ho
  have HB := Lib.hid hB
  clear hB
  have y0 := Ho.out.cell 0
  have y1 := Ho.out.cell 1
  have y2 := Ho.out.cell 2
  have y3 := Ho.out.cell 3
  have y4 := Ho.out.cell 4
  have y5 := Ho.out.cell 5
  have y6 := Ho.out.cell 6
  simp at y0 y1 y2 y3 y4 y5 y6
  have fr := Ho.out.frozen
  go_wp2_with fail
  generalize hWf : World.setCell _ _ _ = Wf
  have hrF : Blk Wf go 28 #[.int .u16 0, .int .i64 0, .bool false, .slice none 0 0, .bool false, .int .u32 0, .int .u32 0] := by
    rw [← hWf]
    have := ((((((Ho.out.set_ 0 (.int .u16 0)).set_ 1 (.int .i64 0)).set_ 2 (.bool false)).set_ 3 (.slice none 0 0)).set_ 4 (.bool false)).set_ 5 (.int .u32 0)).set_ 6 (.int .u32 0)
    simpa using this
  have hBF : Below w.heap.size w Wf := by
    rw [← hWf]
    repeat (refine Below.setCell ?_ hle_o _)
    exact HB.out
  clear hWf y0 y1 y2 y3 y4 y5 y6 fr
  have y0 := hrF.cell 0
  have y1 := hrF.cell 1
  have y2 := hrF.cell 2
  have y3 := hrF.cell 3
  have y4 := hrF.cell 4
  have y5 := hrF.cell 5
  have y6 := hrF.cell 6
  simp at y0 y1 y2 y3 y4 y5 y6
  exact bodyPost_ret (v := .tuple #[.agg #[.int .u16 0, .int .i64 0, .bool false, .slice none 0 0, .bool false, .int .u32 0, .int .u32 0], .int .i64 4]) (by simp [results, Try.results44, go_sem, y0, y1, y2, y3, y4, y5, y6]) rfl ⟨zeroO, none, 0, 4, rfl, ⟨.inl rfl, fun _ e => by cases e⟩, hBF, Hr.out.symm⟩
/-- the reference's Decode reads what the program's does -/
theorem rdec_any (x : ByteArray) (w : World) : Calls Try.prog 44 #[.string x] w (DecPost w x.data.toList) := by
  by_cases h : x.data.toList.length ≤ 40
  · exact rdec_in x _ rfl h w
  · exact rdec_long x _ rfl (by omega) w
end Go.Proofs.Ytengegcnocdkoaa
end
section
set_option maxRecDepth 20000
namespace Go.Proofs.Ytengegcnocdkoaa
open Go.RowKit Go.BigFrame
def turnR (bl va ec : Nat) (L : List UInt8) : List UInt8 × Int := if (decR L).2 = 0 then (turnT bl va ec L, 0) else ([], (decR L).2)
def TurnPost (bl va ec : Nat) (w : World) (L : List UInt8) (e : Ending) (w' : World) : Prop := e = .returned (.tuple #[.string ⟨(turnR bl va ec L).1.toArray⟩, .int .i64 (turnR bl va ec L).2]) ∧ Below w.heap.size w w'
theorem decR_ok {L : List UInt8} (h : (decR L).2 = 0) : L.length ≤ 40 ∧ ∃ o, decL L = some o ∧ decR L = (o, 0) := by
  unfold decR at h ⊢
  split at h
  · cases h
  · rename_i hl
    rw [if_neg hl]
    cases hd : decL L with
    | none => rw [hd] at h; cases h
    | some o => exact ⟨by omega, o, rfl, rfl⟩
theorem decR_good {L : List UInt8} (h : (decR L).2 = 0) : goodR L (placesAt L 0) [] = true := by
  rw [dec_same] at h
  unfold rdecR at h
  split at h
  · cases h
  split at h
  · assumption
  · cases h
set_option maxRecDepth 100000 in
set_option maxHeartbeats 8000000 in
theorem rturn_any (x : ByteArray) (L : List UInt8) (hx : x.data.toList = L) (hm : L.length ≤ 1024) (bl va ec : Nat) (hbl : bl < 4294967296) (hva : va < 4294967296) (hec : ec < 4294967296) (w : World) :
    Calls Try.prog 51 #[.string x, .int .u32 (bl : Int), .int .u32 (va : Int), .int .u32 (ec : Int)] w (TurnPost bl va ec w L) := by
  have hsz : x.size = L.length := by rw [← hx]; simp
  have hdec := rdec_any x
  rw [hx] at hdec
  obtain ⟨N, hN⟩ : ∃ N, N = L.length := ⟨_, rfl⟩
  rw [← hN] at hsz
  have hb0 : Below w.heap.size w w := Below.refl _ _
  have HB := Lib.hid hb0
  clear hb0
  have Hx := Lib.hid hx
  clear hx
  have HN := Lib.hid hN
  clear hN
  have Hdec := Lib.hid hdec
  clear hdec
  have Hm := Lib.hid hm
  clear hm
  go_enter Try.func51, Try.ntmps51
  go_wp2_with fail
  with_reducible refine (Hdec.out _).mono ?_
  rintro e w1 ⟨r, A, c, code, rfl, ⟨hbr, _⟩, hbq, hre⟩
  have hB := HB.out.trans (hbq.mono HB.out.size)
  clear HB
  have HB := Lib.hid hB
  clear hB
  clear hbq hbr
  unfold optC
  by_cases hc : code = 0
  · have hc1 : (code != 0) = false := by simp [hc]
    have hd2 : (decR L).2 = 0 := by rw [← hre]; exact hc
    obtain ⟨h40, o, hdl, hdo⟩ := decR_ok hd2
    have hgood := decR_good hd2
    have hTR : turnR bl va ec L = (turnT bl va ec L, 0) := by unfold turnR; rw [if_pos hd2]
    have hfine := places_fine hdl
    have hpla := places_any x L Hx.out (by omega)
    have hpll : (placesAt L 0).length ≤ 41 := by
      have := places_len L (L.length - 0 + 1) 0
      unfold placesAt
      omega
    have Hc := Lib.hid hc
    clear hc
    have Hre := Lib.hid hre
    clear hre
    have Hd2 := Lib.hid hd2
    clear hd2
    have H40 := Lib.hid h40
    clear h40
    have Hdl := Lib.hid hdl
    clear hdl
    have Hdo := Lib.hid hdo
    clear hdo
    have Hgood := Lib.hid hgood
    clear hgood
    have HTR := Lib.hid hTR
    clear hTR
    have Hfine := Lib.hid hfine
    clear hfine
    have Hpla := Lib.hid hpla
    clear hpla
    have Hpll := Lib.hid hpll
    clear hpll
    go_upto_region 4 with fail
    have hq := Blk.new w1 28 #[.int .u16 (r.mss : Int), .int .i64 r.scale, .bool r.sack, .slice A r.bl.length c, .bool r.time, .int .u32 (r.val : Int), .int .u32 (r.echo : Int)]
    have hB := HB.out.alloc HB.out.size (.cells #[.int .u16 (r.mss : Int), .int .i64 r.scale, .bool r.sack, .slice A r.bl.length c, .bool r.time, .int .u32 (r.val : Int), .int .u32 (r.echo : Int)] 28)
    clear HB
    obtain ⟨gq, hge⟩ : ∃ g, g = w1.heap.size := ⟨_, rfl⟩
    rw [← hge] at hq ⊢
    have hle_q : w1.heap.size ≤ gq := by omega
    clear hge
    generalize w1.alloc _ = wn1 at *
    have Hq := Lib.hid hq
    clear hq
    have HB := Lib.hid hB
    clear hB
    obtain ⟨W1, hW1⟩ : ∃ W, W = wn1 := ⟨_, rfl⟩
    rw [← hW1] at Hq HB ⊢
    clear hW1
    go_wp2_with fail
    with_reducible refine (Hpla.out _).mono ?_
    rintro e w2 hpost
    unfold PlacesPost at hpost
    rw [Hgood.out, if_pos rfl] at hpost
    obtain ⟨Al, cl, rfl, hbq, hl⟩ := hpost
    have hq := Hq.out.below hbq Hq.out.lt
    clear Hq
    have Hq := Lib.hid hq
    clear hq
    have hB := HB.out.trans (hbq.mono HB.out.size)
    clear HB
    have HB := Lib.hid hB
    clear hB
    clear hbq Hq
    obtain ⟨pl, hpl⟩ : ∃ pl, pl = placesAt L 0 := ⟨_, rfl⟩
    rw [← hpl] at hl ⊢
    obtain ⟨n, hn⟩ : ∃ n, n = pl.length := ⟨_, rfl⟩
    rw [← hn] at hl ⊢
    have hn41 : (n : Int) ≤ 41 := by have := Hpll.out; rw [← hpl, ← hn] at this; omega
    have hN40 : (N : Int) ≤ 40 := by have := H40.out; have := HN.out; omega
    obtain ⟨Bl, hBl⟩ : ∃ B, B = W1.heap.size := ⟨_, rfl⟩
    rw [← hBl] at hl
    clear hBl
    have Hl := Lib.hid hl
    clear hl
    have Hpl := Lib.hid hpl
    clear hpl
    have Hn := Lib.hid hn
    clear hn
    go_wp2_with fail
    go_loopw [0, 14] (fun s i wr => ∃ (j : Nat) (T : ByteArray), s = .string T ∧ i = .int .i64 (j : Int) ∧ j ≤ n ∧ T.data.toList = (pl.take j).foldl (stepT bl va ec) L ∧ wr.ownsRow Bl 3 1 (.slice Al n cl) n (pl.map fun p => .int .i64 (p.1 : Int)) ∧ Below w.heap.size w wr)
      (fun _ i _ => n - (intOf i).toNat)
    case atStart => exact ⟨0, x, rfl, rfl, Nat.zero_le _, Hx.out, Hl.out, HB.out⟩
    case round =>
      obtain ⟨j, T, rfl, rfl, hj, hT, hl, hb⟩ := hrel
      by_cases hjn : j < n
      · have i1 : (j : Int) < (n : Int) := by omega
        obtain ⟨p, hp⟩ : ∃ p, pl[j]? = some p := ⟨_, List.getElem?_eq_getElem (by have := Hn.out; omega)⟩
        have hpm : p ∈ placesAt L 0 := by rw [← Hpl.out]; exact List.mem_of_getElem? hp
        have hcut : placesAt L 0 = pl.take j ++ p :: pl.drop (j + 1) := by
          rw [← Hpl.out]
          have hlt : j < pl.length := by have := Hn.out; omega
          rw [List.getElem?_eq_getElem hlt] at hp
          injection hp with hp
          rw [← hp, List.getElem_cons_drop, List.take_append_drop]
        obtain ⟨hTl, hTb⟩ := preT_byte L bl va ec Hfine.out hcut
        obtain ⟨q1, q2, q3, q4⟩ := places_ok L _ 0 p hpm
        have q5 := Hfine.out p hpm
        obtain ⟨at_, c2⟩ := p
        dsimp only at q1 q2 q3 q4 q5 hTb
        obtain ⟨r1, r2, r3, r4, r5⟩ := stepN_pos (L := L) (i := at_) (by rw [← q4]; exact q5)
        rw [← q4] at r3 r4 r5
        obtain ⟨k, hk⟩ : ∃ k, k = byteN L at_ := ⟨_, rfl⟩
        rw [← hk, ← r4] at r2
        obtain ⟨M, hM⟩ : ∃ M, M = (pl.take j).foldl (stepT bl va ec) L := ⟨_, rfl⟩
        rw [← hM] at hT hTl hTb
        have b0 : byteN M at_ = k := by have := hTb 0; rw [Nat.add_zero] at this; rw [this, hk]
        have b1 : byteN M (at_ + 1) = c2 := by rw [hTb 1, ← r4]
        have k256 : k < 256 := by rw [hk]; exact byteN_lt _ _
        have c256 : c2 < 256 := by rw [r4]; exact byteN_lt _ _
        have hnext : (pl.take (j + 1)).foldl (stepT bl va ec) L = stepT bl va ec M (at_, c2) := by
          rw [List.take_add_one, hp, List.foldl_append, ← hM]
          rfl
        have hTs : T.size = N := by
          have : T.data.toList.length = L.length := by rw [hT]; exact hTl
          rw [HN.out, ← this]
          simp
        obtain ⟨gl, capl, hAl, _, hlt⟩ := hl.form (by omega)
        have hAl' : Al = some ⟨gl, 0, none⟩ := by injection hAl
        subst hAl'
        have cl0 : wr.cell? ⟨gl, j, none⟩ = some (.int .i64 (at_ : Int)) := by
          have := hl.cells (g := gl) rfl j (.int .i64 (at_ : Int)) (by rw [List.getElem?_map, hp]; rfl)
          have had : (⟨gl, 0, none⟩ : Addr).add j = ⟨gl, j, none⟩ := by unfold Addr.add; split <;> simp_all
          rwa [had] at this
        have i2 : (at_ : Int) + 1 < (N : Int) := by have := HN.out; omega
        have i2' : (at_ : Int) < (N : Int) := by have := HN.out; omega
        have i4 : (at_ : Int) + (c2 : Int) ≤ (N : Int) := by have := HN.out; omega
        have hix := fun W => index_at T at_ (by rw [hT, hTl]; exact q1) W
        have hix2 := fun W => index_at T (at_ + 1) (by rw [hT, hTl]; exact r1) W
        rw [hT, b0] at hix
        rw [hT, b1, show ((at_ + 1 : Nat) : Int) = (at_ : Int) + 1 by omega] at hix2
        have HT := Lib.hid hT
        clear hT
        have HM := Lib.hid hM
        clear hM
        have Hb := Lib.hid hb
        clear hb
        have Hp := Lib.hid hp
        clear hp
        have Hpm := Lib.hid hpm
        clear hpm
        have Hcut := Lib.hid hcut
        clear hcut
        have HTl := Lib.hid hTl
        clear hTl
        have HTb := Lib.hid hTb
        clear hTb
        have Q1 := Lib.hid q1
        clear q1
        have Q2 := Lib.hid q2
        clear q2
        have Q3 := Lib.hid q3
        clear q3
        have Q4 := Lib.hid q4
        clear q4
        have Q5 := Lib.hid q5
        clear q5
        have R1 := Lib.hid r1
        clear r1
        have R2 := Lib.hid r2
        clear r2
        have R3 := Lib.hid r3
        clear r3
        have R4 := Lib.hid r4
        clear r4
        have R5 := Lib.hid r5
        clear r5
        have Hk := Lib.hid hk
        clear hk
        have B0 := Lib.hid b0
        clear b0
        have B1 := Lib.hid b1
        clear b1
        have Hnext := Lib.hid hnext
        clear hnext
        have HAl := Lib.hid hAl
        clear hAl
        have Hlt := Lib.hid hlt
        clear hlt
        have Hjn := Lib.hid hjn
        clear hjn
        by_cases h8 : k = 8
        · have t1 : ((k : Int) == 8) = true := by rw [h8]; rfl
          have t2 : ((k : Int) == 5) = false := by rw [h8]; rfl
          have hc10 : c2 = 10 := by have := R2.out; rw [h8] at this; simpa [longB] using this
          have hst : stepT bl va ec M (at_, c2) = addL (addL M (at_ + 2) va) (at_ + 6) ec := by
            unfold stepT
            simp only [B0.out]
            rw [if_pos h8]
          have l1 : at_ + 10 ≤ M.length := by have := R3.out; have := HTl.out; omega
          have hM1 : M.length ≤ 1000 := by have := H40.out; have := HTl.out; omega
          have l2 : (addL M (at_ + 2) va).length = M.length := addL_len (by omega)
          have l3 : (addL (addL M (at_ + 2) va) (at_ + 6) ec).length = M.length := by rw [addL_len (by omega), l2]
          obtain ⟨T1, hT1⟩ : ∃ T1 : ByteArray, T1 = ⟨(addL M (at_ + 2) va).toArray⟩ := ⟨_, rfl⟩
          obtain ⟨T2, hT2⟩ : ∃ T1 : ByteArray, T1 = ⟨(addL (addL M (at_ + 2) va) (at_ + 6) ec).toArray⟩ := ⟨_, rfl⟩
          have d1 : T1.data.toList = addL M (at_ + 2) va := by rw [hT1]
          have d2 : T2.data.toList = addL (addL M (at_ + 2) va) (at_ + 6) ec := by rw [hT2]
          have a1 : ∀ W, Calls Try.prog 87 #[.string T, .int .i64 ((at_ : Int) + 2), .int .u32 (va : Int)] W fun e w' => e = .returned (.string T1) ∧ Below W.heap.size W w' := fun W => by
            have := add_any T M HT.out (at_ + 2) va (by omega) hM1 hva W
            rwa [← hT1, show ((at_ + 2 : Nat) : Int) = (at_ : Int) + 2 by omega] at this
          have a2 : ∀ W, Calls Try.prog 87 #[.string T1, .int .i64 ((at_ : Int) + 6), .int .u32 (ec : Int)] W fun e w' => e = .returned (.string T2) ∧ Below W.heap.size W w' := fun W => by
            have := add_any T1 _ d1 (at_ + 6) ec (by omega) (by omega) hec W
            rwa [← hT2, show ((at_ + 6 : Nat) : Int) = (at_ : Int) + 6 by omega] at this
          have hx1 := fun W => index_at T2 at_ (by rw [d2, l3]; omega) W
          have hx2 := fun W => index_at T2 (at_ + 1) (by rw [d2, l3]; omega) W
          rw [d2, addL_low (by omega) (by omega), addL_low (by omega) (by omega), B0.out] at hx1
          rw [d2, addL_low (by omega) (by omega), addL_low (by omega) (by omega), B1.out, show ((at_ + 1 : Nat) : Int) = (at_ : Int) + 1 by omega] at hx2
          have hT2s : T2.size = N := by
            have : T2.data.toList.length = L.length := by rw [d2, l3]; exact HTl.out
            rw [HN.out, ← this]
            simp
          clear hix2
          have H8 := Lib.hid h8
          clear h8
          have Hc10 := Lib.hid hc10
          clear hc10
          have Hst := Lib.hid hst
          clear hst
          have L1 := Lib.hid l1
          clear l1
          have HM1 := Lib.hid hM1
          clear hM1
          have L2 := Lib.hid l2
          clear l2
          have L3 := Lib.hid l3
          clear l3
          have HT1 := Lib.hid hT1
          clear hT1
          have HT2 := Lib.hid hT2
          clear hT2
          have D1 := Lib.hid d1
          clear d1
          have D2 := Lib.hid d2
          clear d2
          have A1 := Lib.hid a1
          clear a1
          have A2 := Lib.hid a2
          clear a2
          have Hl := Lib.hid hl
          clear hl
          go_wp2_with fail
          with_reducible refine (A1.out _).mono ?_
          rintro e w3 ⟨rfl, hb3⟩
          go_wp2_with fail
          with_reducible refine (A2.out _).mono ?_
          rintro e w4 ⟨rfl, hb4⟩
          have hl2 := own_low (own_low Hl.out hb3) hb4
          have hb2 := (Hb.out.trans (hb3.mono Hb.out.size)).trans (hb4.mono (Nat.le_trans Hb.out.size hb3.size))
          clear hb3 hb4 cl0
          have Hl2 := Lib.hid hl2
          clear hl2
          have Hb2 := Lib.hid hb2
          clear hb2
          go_wp2_with fail
          go_loopw [0, 17] (fun s kk wr' => s = .string T2 ∧ kk = .int .i64 ((at_ : Int) + 2) ∧ wr' = w4) (fun _ _ _ => 0)
          case atStart => exact ⟨rfl, rfl, rfl⟩
          case round =>
            obtain ⟨rfl, rfl, rfl⟩ := hrel
            go_wp2_with fail
            go_roundw
            case rel => exact ⟨j + 1, T2, rfl, by go_num, by have := Hjn.out; omega, (by rw [D2.out, Hnext.out, Hst.out]), Hl2.out, Hb2.out⟩
            case measure => simp [intOf]; have := Hjn.out; omega
        by_cases h5 : k = 5
        · have t1 : ((k : Int) == 8) = false := by rw [h5]; rfl
          have t2 : ((k : Int) == 5) = true := by rw [h5]; rfl
          have hc4 : (c2 - 2) % 4 = 0 := by
            have := R2.out
            rw [h5] at this
            simp [longB] at this
            omega
          have hst : stepT bl va ec M (at_, c2) = addsL bl ((c2 - 2) / 4) (at_ + 2) M := by
            unfold stepT
            simp only [B0.out]
            rw [if_neg h8, if_pos h5]
          have c2' : 2 ≤ c2 := R5.out
          have hend : (at_ + c2 - (at_ + 2)) / 4 = (c2 - 2) / 4 := by rw [show at_ + c2 - (at_ + 2) = c2 - 2 by omega]
          have hM1 : M.length ≤ 1000 := by have := H40.out; have := HTl.out; omega
          have b05 : byteN M at_ = 5 := B0.out.trans h5
          clear h8 h5
          have Hc4 := Lib.hid hc4
          clear hc4
          have Hst := Lib.hid hst
          clear hst
          have Hend := Lib.hid hend
          clear hend
          have HM1 := Lib.hid hM1
          clear hM1
          have B05 := Lib.hid b05
          clear b05
          have Hl := Lib.hid hl
          clear hl
          go_wp2_with fail
          go_loopw [0, 17] (fun s kk wr' => ∃ (u : Nat) (T' : ByteArray) (M' : List UInt8), s = .string T' ∧ kk = .int .i64 (u : Int) ∧ at_ + 2 ≤ u ∧ u ≤ at_ + c2 ∧ (at_ + c2 - u) % 4 = 0 ∧ T'.data.toList = M' ∧ addsL bl ((at_ + c2 - u) / 4) u M' = addsL bl ((c2 - 2) / 4) (at_ + 2) M ∧ M'.length = L.length ∧ byteN M' at_ = 5 ∧
              wr'.ownsRow Bl 3 1 (.slice (some ⟨gl, 0, none⟩) n cl) n (pl.map fun p => .int .i64 (p.1 : Int)) ∧ Below w.heap.size w wr')
            (fun _ kk _ => at_ + c2 - (intOf kk).toNat)
          case atStart => exact ⟨at_ + 2, T, M, rfl, by go_num, Nat.le_refl _, by omega, by have := Hc4.out; omega, HT.out, by rw [Hend.out], HTl.out, B05.out, Hl.out, Hb.out⟩
          case round =>
            obtain ⟨u, T', M', rfl, rfl, u1, u2, u4, hT', hadd, hM'l, hb5, hl', hb'⟩ := hrel
            have hT's : T'.size = N := by
              have : T'.data.toList.length = L.length := by rw [hT']; exact hM'l
              rw [HN.out, ← this]
              simp
            have hx1 := fun W => index_at T' at_ (by rw [hT', hM'l]; exact Q1.out) W
            rw [hT', hb5] at hx1
            by_cases hu : u < at_ + c2
            · have i5 : (u : Int) < (at_ : Int) + (c2 : Int) := by omega
              have hadd' : addsL bl ((at_ + c2 - (u + 4)) / 4) (u + 4) (addL M' u bl) = addsL bl ((c2 - 2) / 4) (at_ + 2) M := by
                rw [← hadd, show (at_ + c2 - u) / 4 = (at_ + c2 - (u + 4)) / 4 + 1 by omega]
                rfl
              have u5 : u + 4 ≤ M'.length := by have := R3.out; omega
              have a1 : ∀ W, Calls Try.prog 87 #[.string T', .int .i64 (u : Int), .int .u32 (bl : Int)] W fun e w' => e = .returned (.string ⟨(addL M' u bl).toArray⟩) ∧ Below W.heap.size W w' := fun W => add_any T' M' hT' u bl u5 (by have := HM1.out; have := HTl.out; omega) hbl W
              have hlow : byteN (addL M' u bl) at_ = 5 := by rw [addL_low u5 (by omega), hb5]
              have hlen : (addL M' u bl).length = L.length := by rw [addL_len u5, hM'l]
              have iu : (u : Int) + 4 ≤ 100 := by omega
              have u6 : (at_ + c2 - (u + 4)) % 4 = 0 := by omega
              have u7 : at_ + 2 ≤ u + 4 := by omega
              have u8 : u + 4 ≤ at_ + c2 := by omega
              have Hadd := Lib.hid hadd
              clear hadd
              have Hadd' := Lib.hid hadd'
              clear hadd'
              have Hlow := Lib.hid hlow
              clear hlow
              have Hlen := Lib.hid hlen
              clear hlen
              have A1 := Lib.hid a1
              clear a1
              have Hl' := Lib.hid hl'
              clear hl'
              have Hb' := Lib.hid hb'
              clear hb'
              have U5 := Lib.hid u5
              clear u5
              have U4 := Lib.hid u4
              clear u4
              have U1 := Lib.hid u1
              clear u1
              have U2 := Lib.hid u2
              clear u2
              have U6 := Lib.hid u6
              clear u6
              have U7 := Lib.hid u7
              clear u7
              have U8 := Lib.hid u8
              clear u8
              have HT' := Lib.hid hT'
              clear hT'
              have HM'l := Lib.hid hM'l
              clear hM'l
              have Hb5 := Lib.hid hb5
              clear hb5
              go_wp2_with fail
              with_reducible refine (A1.out _).mono ?_
              rintro e w3 ⟨rfl, hb3⟩
              have hl2 := own_low Hl'.out hb3
              have hb2 := Hb'.out.trans (hb3.mono Hb'.out.size)
              clear hb3 cl0
              have Hl2 := Lib.hid hl2
              clear hl2
              have Hb2 := Lib.hid hb2
              clear hb2
              go_wp2_with fail
              go_roundw
              case rel => exact ⟨u + 4, _, addL M' u bl, rfl, by go_num, U7.out, U8.out, U6.out, rfl, Hadd'.out, Hlen.out, Hlow.out, Hl2.out, Hb2.out⟩
              case measure => simp [intOf]; omega
            · have i5 : ¬ (u : Int) < (at_ : Int) + (c2 : Int) := by omega
              have hue : u = at_ + c2 := by omega
              have hfin : M' = stepT bl va ec M (at_, c2) := by
                rw [Hst.out, ← hadd, hue, Nat.sub_self]
                rfl
              clear hue hu
              have Hadd := Lib.hid hadd
              clear hadd
              have Hfin := Lib.hid hfin
              clear hfin
              have Hl' := Lib.hid hl'
              clear hl'
              have Hb' := Lib.hid hb'
              clear hb'
              have HT' := Lib.hid hT'
              clear hT'
              have HM'l := Lib.hid hM'l
              clear hM'l
              have Hb5 := Lib.hid hb5
              clear hb5
              go_wp2_with fail
              go_roundw
              case rel => exact ⟨j + 1, T', rfl, by go_num, by have := Hjn.out; omega, by rw [HT'.out, Hfin.out, Hnext.out], Hl'.out, Hb'.out⟩
              case measure => simp [intOf]; have := Hjn.out; omega
        have t1 : ((k : Int) == 8) = false := by simp; omega
        have t2 : ((k : Int) == 5) = false := by simp; omega
        have hst : stepT bl va ec M (at_, c2) = M := by
          unfold stepT
          simp only [B0.out]
          rw [if_neg h8, if_neg h5]
        clear h8 h5
        have Hl2 := Lib.hid hl
        have Hb2 := Hb
        have Hst := Lib.hid hst
        clear hst
        have Hl := Lib.hid hl
        clear hl
        go_wp2_with fail
        go_loopw [0, 17] (fun s kk wr' => s = .string T ∧ kk = .int .i64 ((at_ : Int) + 2) ∧ wr' = wr) (fun _ _ _ => 0)
        case atStart => exact ⟨rfl, rfl, rfl⟩
        case round =>
          obtain ⟨rfl, rfl, rfl⟩ := hrel
          go_wp2_with fail
          go_roundw
          case rel => exact ⟨j + 1, T, rfl, by go_num, by have := Hjn.out; omega, (by rw [HT.out, Hnext.out, Hst.out]), Hl2.out, Hb2.out⟩
          case measure => simp [intOf]; have := Hjn.out; omega
      · have i1 : ¬ (j : Int) < (n : Int) := by omega
        have hTe : T = ⟨(turnR bl va ec L).1.toArray⟩ := by
          rw [HTR.out]
          rw [List.take_of_length_le (by have := Hn.out; omega), Hpl.out, stepsT L bl va ec Hfine.out] at hT
          apply ByteArray.ext
          rw [← hT]
        have HTe := Lib.hid hTe
        clear hTe
        have HT := Lib.hid hT
        clear hT
        have Hl := Lib.hid hl
        clear hl
        have Hb := Lib.hid hb
        clear hb
        go_wp2_with fail
        go_ret2
        have h := HTe.out
        rw [HTR.out] at h
        unfold TurnPost
        rw [HTR.out, h]
        exact ⟨rfl, Hb.out⟩
  · have hc1 : (code != 0) = true := by simp [hc]
    have hTR : turnR bl va ec L = ([], code) := by
      have : (decR L).2 = code := by rw [← hre]
      unfold turnR
      rw [this, if_neg hc]
    have Hc := Lib.hid hc
    clear hc
    have Hre := Lib.hid hre
    clear hre
    have HTR := Lib.hid hTR
    clear hTR
    go_upto_region 2 with fail
    have hq := Blk.new w1 28 #[.int .u16 (r.mss : Int), .int .i64 r.scale, .bool r.sack, .slice A r.bl.length c, .bool r.time, .int .u32 (r.val : Int), .int .u32 (r.echo : Int)]
    have hB := HB.out.alloc HB.out.size (.cells #[.int .u16 (r.mss : Int), .int .i64 r.scale, .bool r.sack, .slice A r.bl.length c, .bool r.time, .int .u32 (r.val : Int), .int .u32 (r.echo : Int)] 28)
    clear HB
    obtain ⟨gq, hge⟩ : ∃ g, g = w1.heap.size := ⟨_, rfl⟩
    rw [← hge] at hq ⊢
    have hle_q : w1.heap.size ≤ gq := by omega
    clear hge
    generalize w1.alloc _ = wn2 at *
    have Hq := Lib.hid hq
    clear hq
    have HB := Lib.hid hB
    clear hB
    go_wp2_with fail
    go_ret2
    unfold TurnPost
    rw [HTR.out]
    exact ⟨rfl, HB.out⟩
end Go.Proofs.Ytengegcnocdkoaa
end
section
set_option maxRecDepth 20000
namespace Go.Proofs.Ytengegcnocdkoaa
open Go.RowKit Go.BigFrame
theorem mul64_2 (w : World) : Calls Try.prog 102 #[.int .u64 1, .int .u64 2] w fun e w' => e = .returned (.tuple #[.int .u64 0, .int .u64 2]) ∧ w = w' := by
  go_enter Try.func102, Try.ntmps102
  go_wp2
  go_ret2
  exact ⟨rfl, rfl⟩
theorem mulu_2 (w : World) : Calls Try.prog 99 #[.int .u64 1, .int .u64 2] w fun e w' => e = .returned (.tuple #[.int .u64 0, .int .u64 2]) ∧ w = w' := by
  have h := mul64_2
  have H := Lib.hid h
  clear h
  go_enter Try.func99, Try.ntmps99
  go_wp2_with fail
  with_reducible refine (H.out _).mono ?_
  rintro e w' ⟨rfl, rfl⟩
  go_wp2
  go_ret2
  exact ⟨rfl, rfl⟩
theorem mul64_4 (w : World) : Calls Try.prog 102 #[.int .u64 1, .int .u64 4] w fun e w' => e = .returned (.tuple #[.int .u64 0, .int .u64 4]) ∧ w = w' := by
  go_enter Try.func102, Try.ntmps102
  go_wp2
  go_ret2
  exact ⟨rfl, rfl⟩
theorem mulu_4 (w : World) : Calls Try.prog 99 #[.int .u64 1, .int .u64 4] w fun e w' => e = .returned (.tuple #[.int .u64 0, .int .u64 4]) ∧ w = w' := by
  have h := mul64_4
  have H := Lib.hid h
  clear h
  go_enter Try.func99, Try.ntmps99
  go_wp2_with fail
  with_reducible refine (H.out _).mono ?_
  rintro e w' ⟨rfl, rfl⟩
  go_wp2
  go_ret2
  exact ⟨rfl, rfl⟩
theorem mul64_6 (w : World) : Calls Try.prog 102 #[.int .u64 1, .int .u64 6] w fun e w' => e = .returned (.tuple #[.int .u64 0, .int .u64 6]) ∧ w = w' := by
  go_enter Try.func102, Try.ntmps102
  go_wp2
  go_ret2
  exact ⟨rfl, rfl⟩
theorem mulu_6 (w : World) : Calls Try.prog 99 #[.int .u64 1, .int .u64 6] w fun e w' => e = .returned (.tuple #[.int .u64 0, .int .u64 6]) ∧ w = w' := by
  have h := mul64_6
  have H := Lib.hid h
  clear h
  go_enter Try.func99, Try.ntmps99
  go_wp2_with fail
  with_reducible refine (H.out _).mono ?_
  rintro e w' ⟨rfl, rfl⟩
  go_wp2
  go_ret2
  exact ⟨rfl, rfl⟩
theorem mul64_8 (w : World) : Calls Try.prog 102 #[.int .u64 1, .int .u64 8] w fun e w' => e = .returned (.tuple #[.int .u64 0, .int .u64 8]) ∧ w = w' := by
  go_enter Try.func102, Try.ntmps102
  go_wp2
  go_ret2
  exact ⟨rfl, rfl⟩
theorem mulu_8 (w : World) : Calls Try.prog 99 #[.int .u64 1, .int .u64 8] w fun e w' => e = .returned (.tuple #[.int .u64 0, .int .u64 8]) ∧ w = w' := by
  have h := mul64_8
  have H := Lib.hid h
  clear h
  go_enter Try.func99, Try.ntmps99
  go_wp2_with fail
  with_reducible refine (H.out _).mono ?_
  rintro e w' ⟨rfl, rfl⟩
  go_wp2
  go_ret2
  exact ⟨rfl, rfl⟩
theorem infoU32r : (Try.prog.info? 22).map (·.size) = some 1 := by kernel_rfl
theorem makeU32 (m : Nat) (hm : m = 2 ∨ m = 4 ∨ m = 6 ∨ m = 8) (W : World) : (Instr.makeSlice 125 (.int .i64 (m : Int)) (.int .i64 (m : Int))).run Try.prog W = .ok (.slice (some ⟨W.heap.size, 0, none⟩) m m) (W.alloc (.cells ((List.replicate m (Value.int .u32 0)).toArray) 22)) := by
  rcases hm with rfl | rfl | rfl | rfl <;> kernel_rfl
set_option maxHeartbeats 2000000 in
theorem rep_any (w : World) (g c : Nat) (b : Int) (hB : Blk w g 22 #[.int .u32 b]) (m : Nat) (hm : m = 2 ∨ m = 4 ∨ m = 6 ∨ m = 8) :
    Calls Try.prog 85 #[.slice (some ⟨g, 0, none⟩) 1 c, .int .i64 (m : Int)] w fun e w' => ∃ r, e = .returned (.slice (some ⟨r, 0, none⟩) m m) ∧ Blk w' r 22 ((List.replicate m (Value.int .u32 b)).toArray) ∧ w.heap.size ≤ r ∧ Below w.heap.size w w' := by
  have hmul : ∀ w, Calls Try.prog 99 #[.int .u64 1, .int .u64 (m : Int)] w fun e w' => e = .returned (.tuple #[.int .u64 0, .int .u64 (m : Int)]) ∧ w = w' := by
    intro w
    rcases hm with rfl | rfl | rfl | rfl
    · exact mulu_2 w
    · exact mulu_4 w
    · exact mulu_6 w
    · exact mulu_8 w
  have hmk := makeU32 m hm
  have m0 : (0 : Int) ≤ (m : Int) := by omega
  have m8 : (m : Int) ≤ 8 := by omega
  have m2 : (2 : Int) ≤ (m : Int) := by omega
  have hb0 : Below w.heap.size w (w.alloc (.cells ((List.replicate m (Value.int .u32 0)).toArray) 22)) := (Below.refl _ _).alloc (Nat.le_refl _) _
  have hN := Blk.new w 22 ((List.replicate m (Value.int .u32 0)).toArray)
  have hB1 := hB.alloc (.cells ((List.replicate m (Value.int .u32 0)).toArray) 22)
  obtain ⟨r, hr⟩ : ∃ r, r = w.heap.size := ⟨_, rfl⟩
  have hrl : w.heap.size ≤ r := by omega
  have hgr : g ≠ r := by have := hB.lt; omega
  rw [← hr] at hN
  obtain ⟨Z, hZ⟩ : ∃ Z : List Value, Z = List.replicate m (Value.int .u32 0) := ⟨_, rfl⟩
  have hZl : Z.length = m := by rw [hZ, List.length_replicate]
  have hmk' : ∀ W : World, (Instr.makeSlice 125 (.int .i64 (m : Int)) (.int .i64 (m : Int))).run Try.prog W = .ok (.slice (some ⟨W.heap.size, 0, none⟩) m m) (W.alloc (.cells Z.toArray 22)) := by rw [hZ]; exact hmk
  clear hmk
  rw [← hZ] at hN hb0 hB1
  have hBc := hB1.cell 0
  simp at hBc
  obtain ⟨X1, hX1⟩ : ∃ X : List Value, X = [.int .u32 b] := ⟨_, rfl⟩
  have l1 : X1.length = 1 := by rw [hX1]; rfl
  have o1 : ∀ v ∈ X1, v.oneCell' = true := by rw [hX1]; intro v hv; simp at hv; subst hv; rfl
  have src1 : ∀ j v, X1[j]? = some v → (w.alloc (.cells Z.toArray 22)).cell? ((⟨g, 0, none⟩ : Addr).add j) = some v := by
    intro j v hv
    rw [hX1] at hv
    cases j with
    | zero => simp at hv; subst hv; exact hBc
    | succ j => simp at hv
  have hfin : ∀ n k : Nat, 1 ≤ n → n + k ≤ m → splice (List.replicate n (Value.int .u32 b) ++ List.replicate (m - n) (Value.int .u32 0)) n (List.replicate k (Value.int .u32 b)) = List.replicate (n + k) (Value.int .u32 b) ++ List.replicate (m - (n + k)) (Value.int .u32 0) := by
    intro n k _ h
    unfold splice
    rw [List.take_left' (by simp), List.length_replicate, ← List.append_assoc, List.replicate_append_replicate]
    congr 1
    rw [List.drop_append, List.drop_of_length_le (by simp), List.nil_append, List.length_replicate, Nat.add_sub_cancel_left, List.drop_replicate]
    congr 1
    omega
  have hst0 : splice Z 0 X1 = List.replicate 1 (Value.int .u32 b) ++ List.replicate (m - 1) (Value.int .u32 0) := by
    rw [hZ, hX1]
    unfold splice
    rw [List.take_zero, List.nil_append, List.drop_replicate]
    rfl
  have Hmul := Lib.hid hmul
  clear hmul
  have Hb0 := Lib.hid hb0
  clear hb0
  have HN := Lib.hid hN
  clear hN
  have HB1 := Lib.hid hB1
  clear hB1
  have Hm := Lib.hid hm
  clear hm
  have HB := Lib.hid hB
  clear hB
  have HZ := Lib.hid hZ
  clear hZ
  have HX1 := Lib.hid hX1
  clear hX1
  have L1 := Lib.hid l1
  clear l1
  have Hfin := Lib.hid hfin
  clear hfin
  have Hst0 := Lib.hid hst0
  clear hst0
  have Hr := Lib.hid hr
  clear hr
  have HZl := Lib.hid hZl
  clear hZl
  clear hBc
  go_enter Try.func85, Try.ntmps85
  go_wp2_with fail
  with_reducible refine (Hmul.out _).mono ?_
  rintro e w' ⟨rfl, rfl⟩
  go_upto_region 7 with fail
  rw [← Hr.out]
  generalize hW1 : w.alloc _ = W1 at *
  clear hW1
  have hcp := run_copy_row (P := Try.prog) W1 125 125 3 22 r 0 m m ⟨g, 0, none⟩ 1 c Z.toArray 22 X1 Try.underlying125 infoU32r HN.out (by rw [L1.out]; show 1 = min 1 m; omega) src1 (by rw [L1.out]; simp; have := HZl.out; omega) o1
  have hrow := setRow_heap W1 r _ ((Z.take 0 ++ X1 ++ Z.drop (0 + X1.length)).toArray) 22 (0, 0) HN.out
  have hbl := below_setRow Hb0.out hrl ((Z.take 0 ++ X1 ++ Z.drop (0 + X1.length)).toArray)
  simp only [List.toList_toArray] at hcp
  have hg2 : Blk (W1.setRow r ((Z.take 0 ++ X1 ++ Z.drop (0 + X1.length)).toArray)) r 22 ((List.replicate 1 (Value.int .u32 b) ++ List.replicate (m - 1) (Value.int .u32 0)).toArray) := by
    have h := Hst0.out
    unfold splice at h
    rw [← h, ← List.append_assoc]
    exact hrow
  rw [L1.out] at hcp
  have hcp : (Builtin.copy_ #[125, 125] 3 #[.slice (some ⟨r, 0, none⟩) m m, .slice (some ⟨g, 0, none⟩) 1 c]).run Try.prog W1 = .ok (.int .i64 1) (W1.setRow r ((Z.take 0 ++ X1 ++ Z.drop (0 + 1)).toArray)) := hcp
  rw [L1.out] at hg2 hbl
  generalize (W1.setRow r ((Z.take 0 ++ X1 ++ Z.drop (0 + 1)).toArray)) = w2 at *
  have hB2 : Below w.heap.size w w2 := hbl
  clear hrow hbl
  clear src1 o1
  have Hg2 := Lib.hid hg2
  clear hg2
  have HB2 := Lib.hid hB2
  clear hB2
  go_wp2_with fail
  go_loopw [8] (fun i wr => ∃ n : Nat, i = .int .i64 (n : Int) ∧ 1 ≤ n ∧ n ≤ m ∧ Blk wr r 22 ((List.replicate n (Value.int .u32 b) ++ List.replicate (m - n) (Value.int .u32 0)).toArray) ∧ Below w.heap.size w wr) (fun i _ => m - (intOf i).toNat)
  case atStart => exact ⟨1, rfl, Nat.le_refl _, by omega, Hg2.out, HB2.out⟩
  case round =>
    obtain ⟨n, rfl, hn1, hnm, hk, hb⟩ := hrel
    by_cases hn : n < m
    · have j1 : (n : Int) < (m : Int) := by omega
      have j2 : (0 : Int) ≤ (n : Int) := by omega
      have j3 : (n : Int) ≤ (m : Int) := by omega
      obtain ⟨k, hkk⟩ : ∃ k, k = min n (m - n) := ⟨_, rfl⟩
      have hk1 : n + k ≤ m := by omega
      have hk2 : 1 ≤ k := by omega
      have hk3 : (n : Int) + (k : Int) ≤ 8 := by omega
      obtain ⟨X2, hX2⟩ : ∃ X : List Value, X = List.replicate k (.int .u32 b) := ⟨_, rfl⟩
      have l2 : X2.length = k := by rw [hX2, List.length_replicate]
      have o2 : ∀ v ∈ X2, v.oneCell' = true := by rw [hX2]; intro v hv; rw [(List.mem_replicate.1 hv).2]; rfl
      obtain ⟨Y, hY⟩ : ∃ Y : List Value, Y = List.replicate n (Value.int .u32 b) ++ List.replicate (m - n) (Value.int .u32 0) := ⟨_, rfl⟩
      have hYl : Y.length = m := by rw [hY, List.length_append, List.length_replicate, List.length_replicate]; omega
      rw [← hY] at hk
      have hspl : splice Y n X2 = List.replicate (n + k) (Value.int .u32 b) ++ List.replicate (m - (n + k)) (Value.int .u32 0) := by rw [hY, hX2]; exact Hfin.out n k hn1 hk1
      have hS0 : Out (fun i => i = r) wr wr.drew := Out.of_below (Below.drew (Below.refl _ _))
      have ne : Nonempty (Cls (fun W => Out (fun i => i = r) wr W)) := ⟨⟨_, hS0⟩⟩
      have hU0 : ∀ q ∈ ([(7, fun W => Blk W r 22 Y.toArray)] : List (Nat × (World → Prop))), q.2 wr.drew := by
        intro q hq
        obtain rfl := List.mem_singleton.1 hq
        exact hk.drew
      have hUs : ∀ q ∈ ([(7, fun W => Blk W r 22 Y.toArray)] : List (Nat × (World → Prop))), ∀ i w w', i ≠ q.1 → RApp 7 (some r) i w w' → q.2 w → q.2 w' := by
        intro q hq i w w' hi hr hw
        obtain rfl := List.mem_singleton.1 hq
        exact Blk.below hw (hr.below hi) (Blk.lt hw)
      have hcopy : ∀ W, Out (fun i => i = r) wr W → untilU [(7, fun W => Blk W r 22 Y.toArray)] 7 W → ∃ W', (Builtin.copy_ #[125, 125] 3 #[.slice (some ⟨r, n, none⟩) (m - n) (m - n), .slice (some ⟨r, 0, none⟩) n m]).run Try.prog W = .ok (.int .i64 (k : Int)) W' ∧
          Blk W' r 22 ((List.replicate (n + k) (Value.int .u32 b) ++ List.replicate (m - (n + k)) (Value.int .u32 0)).toArray) ∧ Out (fun i => i = r) wr W' ∧ RApp 7 (some r) 7 W W' := by
        intro W hW hut
        have hkW : Blk W r 22 Y.toArray := hut _ List.mem_cons_self rfl
        have src2 : ∀ j v, X2[j]? = some v → W.cell? ((⟨r, 0, none⟩ : Addr).add j) = some v := by
          intro j v hv
          have hj : j < k := by
            rcases Nat.lt_or_ge j k with c | c
            · exact c
            · rw [List.getElem?_eq_none (by omega)] at hv; cases hv
          rw [add_plain, Nat.zero_add, hkW.cell j, ← hv, hX2, hY]
          simp only [List.getElem?_toArray]
          rw [List.getElem?_append_left (by rw [List.length_replicate]; omega), List.getElem?_replicate, List.getElem?_replicate, if_pos (by omega), if_pos hj]
        have hcp := run_copy_row (P := Try.prog) W 125 125 3 22 r n (m - n) (m - n) ⟨r, 0, none⟩ n m Y.toArray 22 X2 Try.underlying125 infoU32r hkW (by rw [l2, hkk]) src2 (by rw [l2]; simp only [List.size_toArray]; omega) o2
        simp only [List.toList_toArray] at hcp
        rw [l2] at hcp
        have hrow := setRow_heap W r _ ((Y.take n ++ X2 ++ Y.drop (n + k)).toArray) 22 (0, 0) hkW
        have hgr2 : W.grownBy (W.setRow r ((Y.take n ++ X2 ++ Y.drop (n + k)).toArray)) (some r) := ⟨rfl, rfl, rfl, by simp [World.setRow], fun i hi hne => setRow_other W r i _ (fun e => hne (by rw [e]))⟩
        refine ⟨_, hcp, ?_, Out.trans hW (Out.grown (O := fun i => i = r) hgr2 rfl) (fun _ _ e => e), hgr2⟩
        unfold splice at hspl
        rw [l2] at hspl
        rw [← hspl, ← List.append_assoc]
        exact hrow
      have Hk := Lib.hid hk
      clear hk
      have Hb := Lib.hid hb
      clear hb
      have Hkk := Lib.hid hkk
      clear hkk
      have HX2 := Lib.hid hX2
      clear hX2
      have L2 := Lib.hid l2
      clear l2
      have HY := Lib.hid hY
      clear hY
      have HYl := Lib.hid hYl
      clear hYl
      have Hspl := Lib.hid hspl
      clear hspl
      have HS0 := Lib.hid hS0
      clear hS0
      have HU0 := Lib.hid hU0
      clear hU0
      have HUs := Lib.hid hUs
      clear hUs
      have Hcopy := Lib.hid hcopy
      clear hcopy
      clear o2
      go_upto_region 9 with fail
      refine wp_region_flowu 10 (fun W => Out (fun i => i = r) wr W) (RApp 7 (some r)) [(7, fun W => Blk W r 22 Y.toArray)] (by kernel_rfl) (by kernel_rfl) (by kernel_rfl) RApp.refl HUs.out HU0.out HS0.out ?_
      simp only [List.take_succ_cons, List.take_zero, List.drop_succ_cons, List.drop_zero]
      repeat (refine flowu_quiet RApp.refl rfl rfl rfl rfl ?_; intro K hK; go_big_quiet_op; go_big_quiet_on)
      refine flowu_do (.int .i64 (k : Int)) (fun _ W => Blk W r 22 ((List.replicate (n + k) (Value.int .u32 b) ++ List.replicate (m - (n + k)) (Value.int .u32 0)).toArray)) (fun l i w w' hi hr h => Blk.below h (hr.below hi) (Blk.lt h)) (fun _ _ h => by cases h) rfl (fun W hW hut => by
        obtain ⟨W', h1, h2, h3, h4⟩ := Hcopy.out W hW hut
        refine ⟨W', ?_, h2, h3, h4⟩
        simp [execOp, resolve, invoke, builtin, Act.eval, h1, Result.andThen, show ¬ m = n by omega]) rfl rfl wr ?_
      intro K hK; go_big_quiet_op; go_big_quiet_on
      repeat (refine flowu_quiet RApp.refl rfl rfl rfl rfl ?_; intro K hK; go_big_quiet_op; go_big_quiet_on)
      refine flowu_nil ?_
      intro W5 f hW5 hF5
      have hk5 := hF5 _ (.head _)
      clear hF5
      have hk5 : Blk W5 r 22 ((List.replicate (n + k) (Value.int .u32 b) ++ List.replicate (m - (n + k)) (Value.int .u32 0)).toArray) := hk5
      have hb5 : Below w.heap.size w W5 := Hb.out.trans (Out.below hW5 Hb.out.size (fun i hi e => by omega))
      simp only [fillW]
      clear hW5 ne
      have Hk5 := Lib.hid hk5
      clear hk5
      have Hb5 := Lib.hid hb5
      clear hb5
      go_wp2_with fail
      go_roundw
      case rel => exact ⟨n + k, by go_num, by omega, hk1, Hk5.out, Hb5.out⟩
      case measure => simp [intOf]; omega
    · have j1 : ¬ (n : Int) < (m : Int) := by omega
      have hnm' : n = m := by omega
      have hk' : Blk wr r 22 ((List.replicate m (Value.int .u32 b)).toArray) := by
        rw [hnm', Nat.sub_self, List.replicate_zero, List.append_nil] at hk
        exact hk
      clear hk hnm'
      have Hk' := Lib.hid hk'
      clear hk'
      have Hb := Lib.hid hb
      clear hb
      go_wp2_with fail
      go_ret
      exact ⟨r, rfl, Hk'.out, hrl, Hb.out⟩
end Go.Proofs.Ytengegcnocdkoaa
end
section
set_option maxRecDepth 20000
namespace Go.Proofs.Ytengegcnocdkoaa
open Go.RowKit Go.BigFrame Go.Shelf
attribute [local go_sem] Oper.semAt_some
theorem RowB.ne_ {W : World} {g g' : Nat} {t : TypeId} {M : List UInt8} {cs : Array Value} (h : RowB W g M) (hb : Blk W g' t cs) (ht : t ≠ 5) : g' ≠ g := by
  rintro rfl
  obtain ⟨c, lo, hi, h1, _⟩ := h
  rw [show W.heap[g']? = _ from hb] at h1
  injection h1 with h1
  injection h1 with _ h1
  exact ht h1
/-- what a round holds -/
def TurnI (w : World) (gs gb gv gc gp gr cap : Nat) (x : ByteArray) (L : List UInt8) (bl va ec : Nat) (pre : List (PV L)) (W : World) : Prop :=
  Below w.heap.size w W ∧ Blk W gs 9 #[.string x] ∧ Blk W gb 22 #[.int .u32 (bl : Int)] ∧ Blk W gv 22 #[.int .u32 (va : Int)] ∧ Blk W gc 22 #[.int .u32 (ec : Int)] ∧
    Blk W gp 51 #[.slice (some ⟨gr, 0, none⟩) L.length cap] ∧ RowB W gr ((pre.map (·.1)).foldl (stepO L bl va ec) L)
theorem TurnI.own {w : World} {gs gb gv gc gp gr cap : Nat} {x : ByteArray} {L : List UInt8} {bl va ec B : Nat} (hw : w.heap.size ≤ B) : OwnFrom B (TurnI w gs gb gv gc gp gr cap x L bl va ec) := by
  intro pre W W' row ⟨h1, h2, h3, h4, h5, h6, h7⟩ hg hr
  have hr2 : ∀ r, row = some r → ∃ o : Obj, W.heap[r]? = some o ∧ o.isCells = false := fun r e => (hr r e).2
  refine ⟨ownFrom_below (Nat.le_refl _) hw pre W W' row h1 hg hr, blk_notrow h2 hg hr2, blk_notrow h3 hg hr2, blk_notrow h4 hg hr2, blk_notrow h5 hg hr2, blk_notrow h6 hg hr2, h7.grown hg (fun e => ?_)⟩
  obtain ⟨o, q1, q2⟩ := hr2 gr e.symm
  obtain ⟨c, lo, hi, q3, _⟩ := h7
  rw [q1] at q3
  cases q3
  cases q2
/-- .. and is kept by what turns the row alone -/
theorem TurnI.next {w W W' : World} {gs gb gv gc gp gr cap B : Nat} {x : ByteArray} {L : List UInt8} {bl va ec : Nat} {pre pre2 : List (PV L)} {M : List UInt8}
    (h : TurnI w gs gb gv gc gp gr cap x L bl va ec pre W) (ho : Out (fun i => i = gr) W W') (hr : RowB W' gr M) (hM : M = (pre2.map (·.1)).foldl (stepO L bl va ec) L) (hwr : w.heap.size ≤ gr) (hB : gr < B) :
    KeepsFrom B W W' ∧ KeepsS w.heap.size W W' ∧ TurnI w gs gb gv gc gp gr cap x L bl va ec pre2 W' := by
  obtain ⟨h1, h2, h3, h4, h5, h6, h7⟩ := h
  have hk : ∀ {g : Nat} {t : TypeId} {cs : Array Value}, Blk W g t cs → t ≠ 5 → Blk W' g t cs := fun {g t cs} hb ht => (ho.block g hb.lt (h7.ne_ hb ht)).trans hb
  have hbw : Below w.heap.size W W' := ho.below h1.size (fun i hi e => by omega)
  refine ⟨keepsFrom_out ho (fun i e => .inl (by omega)), ⟨hbw, fun i cs hi => hk hi (by decide)⟩, h1.trans hbw, hk h2 (by decide), hk h3 (by decide), hk h4 (by decide), hk h5 (by decide), hk h6 (by decide), ?_⟩
  rw [← hM]
  exact hr
set_option maxRecDepth 100000 in
set_option maxHeartbeats 8000000 in
theorem turn_yes (x : ByteArray) (L : List UInt8) (hx : x.data.toList = L) (hd : (decR L).2 = 0) (bl va ec : Nat) (hbl : bl < 4294967296) (hva : va < 4294967296) (hec : ec < 4294967296) (w : World) :
    CallsIn Fence.wide 3 Try.prog 50 #[.string x, .int .u32 (bl : Int), .int .u32 (va : Int), .int .u32 (ec : Int)] w (TurnPost bl va ec w L) := by
  have hdec := dec_any x
  rw [hx] at hdec
  obtain ⟨h40, o, hdl, hdo⟩ := decR_ok hd
  have hTR : turnR bl va ec L = (turnT bl va ec L, 0) := by unfold turnR; rw [if_pos hd]
  have hfine := places_fine hdl
  have hsz : x.size = L.length := by rw [← hx]; simp
  have hb0 : Below w.heap.size w w := Below.refl _ _
  have HB := Lib.hid hb0
  clear hb0
  have Hx := Lib.hid hx
  clear hx
  have Hd := Lib.hid hd
  clear hd
  have Hdec := Lib.hid hdec
  clear hdec
  have H40 := Lib.hid h40
  clear h40
  have Hdl := Lib.hid hdl
  clear hdl
  have Hdo := Lib.hid hdo
  clear hdo
  have HTR := Lib.hid hTR
  clear hTR
  have Hfine := Lib.hid hfine
  clear hfine
  have Hsz := Lib.hid hsz
  clear hsz
  refine callsIn_of_wp_marks Try.func50 rfl trivial ?_ rfl
  simp only [Try.ntmps50, List.size_toArray, List.length_cons, List.length_nil, Nat.reduceAdd, Nat.reduceSub, Array.replicate_succ, Array.replicate_zero, List.push_toArray, List.append_toArray, List.nil_append, List.cons_append]
  gi_upto_region 1 with fail
  have hs := Blk.alloc (Blk.alloc (Blk.alloc (Blk.new w 9 #[.string x]) (.cells #[.int .u32 (bl : Int)] 22)) (.cells #[.int .u32 (va : Int)] 22)) (.cells #[.int .u32 (ec : Int)] 22)
  have hb := Blk.alloc (Blk.alloc (Blk.new (w.alloc (.cells #[.string x] 9)) 22 #[.int .u32 (bl : Int)]) (.cells #[.int .u32 (va : Int)] 22)) (.cells #[.int .u32 (ec : Int)] 22)
  rw [show (w.alloc (.cells #[.string x] 9)).heap.size = w.heap.size + 1 by simp] at hb
  have hv := Blk.alloc (Blk.new ((w.alloc (.cells #[.string x] 9)).alloc (.cells #[.int .u32 (bl : Int)] 22)) 22 #[.int .u32 (va : Int)]) (.cells #[.int .u32 (ec : Int)] 22)
  rw [show ((w.alloc (.cells #[.string x] 9)).alloc (.cells #[.int .u32 (bl : Int)] 22)).heap.size = w.heap.size + 2 by simp] at hv
  have hc := Blk.new (((w.alloc (.cells #[.string x] 9)).alloc (.cells #[.int .u32 (bl : Int)] 22)).alloc (.cells #[.int .u32 (va : Int)] 22)) 22 #[.int .u32 (ec : Int)]
  rw [show (((w.alloc (.cells #[.string x] 9)).alloc (.cells #[.int .u32 (bl : Int)] 22)).alloc (.cells #[.int .u32 (va : Int)] 22)).heap.size = w.heap.size + 3 by simp] at hc
  have hB := Below.alloc (Below.alloc (Below.alloc (Below.alloc (HB.out) (Nat.le_trans HB.out.size (by simp <;> omega)) (.cells #[.string x] 9)) (Nat.le_trans HB.out.size (by simp <;> omega)) (.cells #[.int .u32 (bl : Int)] 22)) (Nat.le_trans HB.out.size (by simp <;> omega)) (.cells #[.int .u32 (va : Int)] 22)) (Nat.le_trans HB.out.size (by simp <;> omega)) (.cells #[.int .u32 (ec : Int)] 22)
  clear HB
  obtain ⟨gc, hgec⟩ : ∃ g, g = w.heap.size + 3 := ⟨_, rfl⟩
  rw [← hgec] at hc ⊢
  obtain ⟨gv, hgev⟩ : ∃ g, g = w.heap.size + 2 := ⟨_, rfl⟩
  rw [← hgev] at hv ⊢
  obtain ⟨gb, hgeb⟩ : ∃ g, g = w.heap.size + 1 := ⟨_, rfl⟩
  rw [← hgeb] at hb ⊢
  obtain ⟨gs, hges⟩ : ∃ g, g = w.heap.size := ⟨_, rfl⟩
  rw [← hges] at hs ⊢
  have hne_s_b : gs ≠ gb := by omega
  have hne_s_v : gs ≠ gv := by omega
  have hne_s_c : gs ≠ gc := by omega
  have hne_b_v : gb ≠ gv := by omega
  have hne_b_c : gb ≠ gc := by omega
  have hne_v_c : gv ≠ gc := by omega
  have hle_s : w.heap.size ≤ gs := by omega
  have hle_b : w.heap.size ≤ gb := by omega
  have hle_v : w.heap.size ≤ gv := by omega
  have hle_c : w.heap.size ≤ gc := by omega
  clear hges hgeb hgev hgec
  generalize (((w.alloc _).alloc _).alloc _).alloc _ = wn1 at *
  have Hs := Lib.hid hs
  clear hs
  have Hb := Lib.hid hb
  clear hb
  have Hv := Lib.hid hv
  clear hv
  have Hc := Lib.hid hc
  clear hc
  have HB := Lib.hid hB
  clear hB
  obtain ⟨W1, hW1⟩ : ∃ W, W = wn1 := ⟨_, rfl⟩
  rw [← hW1] at Hs Hb Hv Hc HB ⊢
  clear hW1
  have cs1 := Hs.out.cell 0
  try simp at cs1
  gi_wp2_with fail
  refine ⟨trivial, ?_⟩
  refine (callsIn_wide.2 (Hdec.out _)).mono ?_
  rintro e w2 ⟨r, A, c, code, rfl, ⟨hbr, _⟩, hbq, hre⟩
  have hs := Hs.out.below hbq Hs.out.lt
  clear Hs
  have Hs := Lib.hid hs
  clear hs
  have hb := Hb.out.below hbq Hb.out.lt
  clear Hb
  have Hb := Lib.hid hb
  clear hb
  have hv := Hv.out.below hbq Hv.out.lt
  clear Hv
  have Hv := Lib.hid hv
  clear hv
  have hc := Hc.out.below hbq Hc.out.lt
  clear Hc
  have Hc := Lib.hid hc
  clear hc
  have hB := HB.out.trans (hbq.mono HB.out.size)
  clear HB
  have HB := Lib.hid hB
  clear hB
  clear hbq hbr cs1
  unfold optC
  have hc0 : code = 0 := by have := Hd.out; rw [← hre] at this; exact this
  subst hc0
  clear hre
  gi_upto_region 4 with fail
  have hq := Blk.new w2 28 #[.int .u16 (r.mss : Int), .int .i64 r.scale, .bool r.sack, .slice A r.bl.length c, .bool r.time, .int .u32 (r.val : Int), .int .u32 (r.echo : Int)]
  have hs := Blk.alloc Hs.out (.cells #[.int .u16 (r.mss : Int), .int .i64 r.scale, .bool r.sack, .slice A r.bl.length c, .bool r.time, .int .u32 (r.val : Int), .int .u32 (r.echo : Int)] 28)
  clear Hs
  have hb := Blk.alloc Hb.out (.cells #[.int .u16 (r.mss : Int), .int .i64 r.scale, .bool r.sack, .slice A r.bl.length c, .bool r.time, .int .u32 (r.val : Int), .int .u32 (r.echo : Int)] 28)
  clear Hb
  have hv := Blk.alloc Hv.out (.cells #[.int .u16 (r.mss : Int), .int .i64 r.scale, .bool r.sack, .slice A r.bl.length c, .bool r.time, .int .u32 (r.val : Int), .int .u32 (r.echo : Int)] 28)
  clear Hv
  have hc := Blk.alloc Hc.out (.cells #[.int .u16 (r.mss : Int), .int .i64 r.scale, .bool r.sack, .slice A r.bl.length c, .bool r.time, .int .u32 (r.val : Int), .int .u32 (r.echo : Int)] 28)
  clear Hc
  have hB := HB.out.alloc HB.out.size (.cells #[.int .u16 (r.mss : Int), .int .i64 r.scale, .bool r.sack, .slice A r.bl.length c, .bool r.time, .int .u32 (r.val : Int), .int .u32 (r.echo : Int)] 28)
  clear HB
  obtain ⟨gq, hge⟩ : ∃ g, g = w2.heap.size := ⟨_, rfl⟩
  rw [← hge] at hq ⊢
  have hle_q : w2.heap.size ≤ gq := by omega
  clear hge
  generalize w2.alloc _ = wn2 at *
  have Hs := Lib.hid hs
  clear hs
  have Hb := Lib.hid hb
  clear hb
  have Hv := Lib.hid hv
  clear hv
  have Hc := Lib.hid hc
  clear hc
  have Hq := Lib.hid hq
  clear hq
  have HB := Lib.hid hB
  clear hB
  obtain ⟨W2, hW2⟩ : ∃ W, W = wn2 := ⟨_, rfl⟩
  rw [← hW2] at Hs Hb Hv Hc HB ⊢
  clear hW2 Hq
  have cs2 := Hs.out.cell 0
  try simp at cs2
  obtain ⟨W3, cap, hcv, hbq, hz3, hrow3, hcap⟩ := run_bytes_rowB W2 x L Hx.out
  obtain ⟨gr, hgr⟩ : ∃ g, g = W2.heap.size := ⟨_, rfl⟩
  rw [← hgr] at hcv hrow3 hz3
  have hwr : w.heap.size ≤ gr := by rw [hgr]; exact HB.out.size
  gi_upto_region 5 with fail
  rw [← hgr]
  generalize (Value.agg #[.int .u16 (r.mss : Int), .int .i64 r.scale, .bool r.sack, .slice A r.bl.length c, .bool r.time, .int .u32 (r.val : Int), .int .u32 (r.echo : Int)]) = ag
  have hs := Hs.out.below hbq Hs.out.lt
  clear Hs
  have Hs := Lib.hid hs
  clear hs
  have hb := Hb.out.below hbq Hb.out.lt
  clear Hb
  have Hb := Lib.hid hb
  clear hb
  have hv := Hv.out.below hbq Hv.out.lt
  clear Hv
  have Hv := Lib.hid hv
  clear hv
  have hc := Hc.out.below hbq Hc.out.lt
  clear Hc
  have Hc := Lib.hid hc
  clear hc
  have hB := HB.out.trans (hbq.mono HB.out.size)
  clear HB
  have HB := Lib.hid hB
  clear hB
  obtain ⟨gp, hgp⟩ : ∃ g, g = gr + 1 := ⟨_, rfl⟩
  rw [← hgp] at hz3 ⊢
  have hp4 := Blk.new W3 51 #[.slice (some ⟨gr, 0, none⟩) L.length cap]
  rw [hz3] at hp4
  have hal : Below W3.heap.size W3 (W3.alloc (.cells #[.slice (some ⟨gr, 0, none⟩) L.length cap] 51)) := (Below.refl _ _).alloc (Nat.le_refl _) _
  have hrow4 := hrow3.below hal hrow3.lt
  have hs := Hs.out.below hal Hs.out.lt
  clear Hs
  have Hs := Lib.hid hs
  clear hs
  have hb := Hb.out.below hal Hb.out.lt
  clear Hb
  have Hb := Lib.hid hb
  clear hb
  have hv := Hv.out.below hal Hv.out.lt
  clear Hv
  have Hv := Lib.hid hv
  clear hv
  have hc := Hc.out.below hal Hc.out.lt
  clear Hc
  have Hc := Lib.hid hc
  clear hc
  have hB := HB.out.trans (hal.mono HB.out.size)
  clear HB
  have HB := Lib.hid hB
  clear hB
  have hz4 : (W3.alloc (.cells #[.slice (some ⟨gr, 0, none⟩) L.length cap] 51)).heap.size = gp + 1 := by simp [hz3]
  clear hcv hbq hrow3 hal hz3 cs2
  generalize W3.alloc _ = W4 at *
  have cs4 := Hs.out.cell 0
  try simp at cs4
  have Hp4 := Lib.hid hp4
  clear hp4
  have Hrow4 := Lib.hid hrow4
  clear hrow4
  have Hz4 := Lib.hid hz4
  clear hz4
  have Hgr := Lib.hid hgr
  clear hgr
  have Hgp := Lib.hid hgp
  clear hgp
  have Hcap := Lib.hid hcap
  clear hcap
  gi_wp2_with (refine ⟨trivial, ?_⟩; gi_at_call 75; refine (each_in _ _).mono ?_; rintro e w' ⟨rfl, rfl⟩)
  have hB5 := HB.out.alloc HB.out.size (.cells #[.string x] 9)
  have hz5 := Blk.new W4 9 #[.string x]
  have hs5 := Blk.alloc Hs.out (.cells #[.string x] 9)
  have hb5 := Blk.alloc Hb.out (.cells #[.string x] 9)
  have hv5 := Blk.alloc Hv.out (.cells #[.string x] 9)
  have hc5 := Blk.alloc Hc.out (.cells #[.string x] 9)
  have hp5 := Blk.alloc Hp4.out (.cells #[.string x] 9)
  have hrow5 := Hrow4.out.grown (World.grownBy_alloc W4 (.cells #[.string x] 9) none) (by simp)
  have hgz : W4.heap.size = gp + 1 := Hz4.out
  obtain ⟨gz, hgze⟩ : ∃ g, g = W4.heap.size := ⟨_, rfl⟩
  rw [← hgze] at hz5 hgz ⊢
  have hsz5 : (W4.alloc (.cells #[.string x] 9)).heap.size = gz + 1 := by rw [hgze]; simp
  clear cs4 hgze Hz4
  generalize W4.alloc _ = W5 at *
  have hgrB : gr < W5.heap.size := by have := Hgp.out; omega
  clear Hs Hb Hv Hc Hp4 Hrow4 HB
  have hI0 : TurnI w gs gb gv gc gp gr cap x L bl va ec [] W5 := ⟨hB5, hs5, hb5, hv5, hc5, hp5, hrow5⟩
  have HI0 := Lib.hid hI0
  have hBs5 := hB5.size
  clear hI0 hs5 hb5 hv5 hc5 hp5 hrow5 hB5
  have Hgz := Lib.hid hgz
  clear hgz
  have Hsz5 := Lib.hid hsz5
  clear hsz5
  have HgrB := Lib.hid hgrB
  clear hgrB
  refine wpIn_rangeFunc_ownG rfl (by omega) (gf := 94) (lb := #[.pointer (some ⟨gz, 0, none⟩)]) rfl trivial (enters_of Try.func94 (by kernel_rfl) rfl)
    (each_stops w.heap.size gz x L Hx.out (by have := H40.out; omega) _ hBs5 hz5) KeepsS.trans (KeepsS.putObj hBs5) (Below.refl _ _) (fun _ => rfl)
    (TurnI w gs gb gv gc gp gr cap x L bl va ec)
    (fun _ _ _ => False)
    (TurnI.own hBs5) (fun _ _ _ _ _ hs _ _ => hs)
    HI0.out
    (fun x1 => { tmps := #[.string x, .int .u32 (bl : Int), .int .u32 (va : Int), .int .u32 (ec : Int), .pointer (some ⟨gs, 0, none⟩), .pointer (some ⟨gb, 0, none⟩), .pointer (some ⟨gv, 0, none⟩), .pointer (some ⟨gc, 0, none⟩), .string ⟨#[]⟩, .int .i64 0, .pointer (some ⟨gq, 0, none⟩), .int .i64 0, .pointer (some ⟨gp, 0, none⟩), .int .i64 (x1.1.1 : Int), .int .i64 (x1.1.2 : Int), undef, undef, undef, undef, .tuple #[ag, .int .i64 0], .string x, .tuple #[ag, .int .i64 0], ag, .int .i64 0, .int .i64 0, .bool false, undef, .string x, .slice (some ⟨gr, 0, none⟩) L.length cap, .string x, .func (.func 94) #[] #[.pointer (some ⟨gz, 0, none⟩)], .int .i64 (x1.1.1 : Int), .int .i64 (x1.1.2 : Int), undef, undef, undef, undef, undef, undef, undef, undef, undef, undef, undef, undef, undef, undef, undef, undef, undef, undef, undef, undef, undef, undef, undef, undef, undef, undef, undef, undef, undef, undef, undef, undef, undef, undef, undef, undef, undef, undef, undef, undef, undef, undef, undef, undef, undef], defers := [] }) ?assign ?body ?done ?stop
  case assign =>
    intro l x1 W K hK
    gi_wp2
    exact hK
  case body =>
    rintro l pre ⟨⟨i0, m⟩, ⟨hi, hk0, hk1, hst⟩, hin⟩ W hI hlt
    have hI' := hI
    obtain ⟨hB, hs, hb, hv, hc, hp, hrow⟩ := hI'
    dsimp only at hi hk0 hk1 hst ⊢
    have hm0 : m ≠ 0 := Hfine.out (i0, m) hin
    obtain ⟨r1, r2, r3, r4, r5⟩ := stepN_pos (L := L) (i := i0) (by rw [← hst]; exact hm0)
    rw [← hst] at r3 r4 r5
    obtain ⟨k, hk⟩ : ∃ k, k = byteN L i0 := ⟨_, rfl⟩
    rw [← hk, ← r4] at r2
    obtain ⟨M, hM⟩ : ∃ M, M = (pre.map (·.1)).foldl (stepO L bl va ec) L := ⟨_, rfl⟩
    rw [← hM] at hrow
    obtain ⟨pre2, hpre⟩ : ∃ p, p = pre ++ [(⟨(i0, m), ⟨hi, hk0, hk1, hst⟩, hin⟩ : PV L)] := ⟨_, rfl⟩
    have hnext : stepO L bl va ec M (i0, m) = (pre2.map (·.1)).foldl (stepO L bl va ec) L := by
      rw [hpre, List.map_append, List.foldl_append, ← hM]
      rfl
    rw [← hpre]
    clear hpre hin
    have hMl : M.length = L.length := by
      rw [hM]
      refine foldO_len bl va ec _ _ (fun p hp => ?_) rfl
      obtain ⟨y, hy, rfl⟩ := List.mem_map.1 hp
      exact ⟨y.2.1, Hfine.out y.1 y.2.2⟩
    have k256 : k < 256 := by rw [hk]; exact byteN_lt _ _
    have m256 : m < 256 := by rw [r4]; exact byteN_lt _ _
    have hix := fun W => index_at x i0 (by rw [Hx.out]; exact hi) W
    rw [Hx.out, ← hk] at hix
    have cs0 := hs.cell 0
    have cb0 := hb.cell 0
    have cv0 := hv.cell 0
    have cc0 := hc.cell 0
    have cp0 := hp.cell 0
    try simp at cs0
    try simp at cb0
    try simp at cv0
    try simp at cc0
    try simp at cp0
    have HI := Lib.hid hI
    clear hI
    have HB := Lib.hid hB
    clear hB
    have Hs := Lib.hid hs
    clear hs
    have Hb := Lib.hid hb
    clear hb
    have Hv := Lib.hid hv
    clear hv
    have Hc := Lib.hid hc
    clear hc
    have Hp := Lib.hid hp
    clear hp
    have Hrow := Lib.hid hrow
    clear hrow
    have HM := Lib.hid hM
    clear hM
    have Hnext := Lib.hid hnext
    clear hnext
    have HMl := Lib.hid hMl
    clear hMl
    have R1 := Lib.hid r1
    clear r1
    have R2 := Lib.hid r2
    clear r2
    have R3 := Lib.hid r3
    clear r3
    have R4 := Lib.hid r4
    clear r4
    have R5 := Lib.hid r5
    clear r5
    have Hk := Lib.hid hk
    clear hk
    have Hk0 := Lib.hid hk0
    clear hk0
    have Hk1 := Lib.hid hk1
    clear hk1
    have Hst := Lib.hid hst
    clear hst
    have Hi := Lib.hid hi
    clear hi
    have Hm0 := Lib.hid hm0
    clear hm0
    have Hlt := Lib.hid hlt
    clear hlt
    by_cases h8 : k = 8
    · have t8 : ((k : Int) == 8) = true := by rw [h8]; rfl
      have t5 : ((k : Int) == 5) = false := by rw [h8]; rfl
      have hm10 : m = 10 := by have := R2.out; rw [h8] at this; simpa [longB] using this
      have hst2' : stepO L bl va ec M (i0, m) = putsL L (fun j => if j = 0 then va else ec) 2 0 (i0 + 2) M := stepO_time (by rw [← Hk.out]; exact h8)
      clear h8
      gi_upto_region 14 with fail
      have hy := Blk.new W 22 #[.int .u32 (va : Int), .int .u32 (ec : Int)]
      have hal : Below W.heap.size W (W.alloc (.cells #[.int .u32 (va : Int), .int .u32 (ec : Int)] 22)) := (Below.refl _ _).alloc (Nat.le_refl _) _
      have hrow1 := Hrow.out.below hal Hrow.out.lt
      have hO1 : Out (fun i => i = gr) W (W.alloc (.cells #[.int .u32 (va : Int), .int .u32 (ec : Int)] 22)) := Out.of_below hal
      clear hal
      obtain ⟨gy, hgy⟩ : ∃ g, g = W.heap.size := ⟨_, rfl⟩
      rw [← hgy] at hy ⊢
      clear hgy
      generalize W.alloc _ = W1 at *
      obtain ⟨q, hq⟩ : ∃ q, q = 2 := ⟨_, rfl⟩
      rw [show Value.slice (some ⟨gy, 0, none⟩) 2 2 = Value.slice (some ⟨gy, 0, none⟩) q q by rw [hq]]
      obtain ⟨fby, hf⟩ : ∃ f : Nat → Nat, f = fun j => if j = 0 then va else ec := ⟨_, rfl⟩
      obtain ⟨cs, hcse⟩ : ∃ cs : Array Value, cs = #[.int .u32 (va : Int), .int .u32 (ec : Int)] := ⟨_, rfl⟩
      rw [← hcse] at hy
      have hst2 : stepO L bl va ec M (i0, m) = putsL L fby q 0 (i0 + 2) M := by rw [hf, hq]; exact hst2'
      clear hst2'
      have hcs : ∀ j, j < q → cs[j]? = some (.int .u32 ((fby j : Nat) : Int)) := by
        intro j hj
        rw [hcse, hf]
        have : j = 0 ∨ j = 1 := by omega
        rcases this with rfl | rfl <;> rfl
      have hfb : ∀ j, fby j < 4294967296 := by intro j; rw [hf]; simp only []; split <;> assumption
      have hq8 : q ≤ 8 := by omega
      have hqm : 2 + 4 * q ≤ m := by omega
      clear hq hf hcse hm10
      have hal2 := hO1
      have Hy := Lib.hid hy
      clear hy
      have HO1 := Lib.hid hO1
      clear hO1
      have Hrow1 := Lib.hid hrow1
      clear hrow1
      have Hcs := Lib.hid hcs
      clear hcs
      have Hfb := Lib.hid hfb
      clear hfb
      have Hst2 := Lib.hid hst2
      clear hst2
      have Hq8 := Lib.hid hq8
      clear hq8
      have Hqm := Lib.hid hqm
      clear hqm
      gi_wp2_with fail
      gi_loopw [51] (fun i wr => ∃ (j : Nat) (M' : List UInt8), i = .int .i64 (j : Int) ∧ j ≤ q ∧ M'.length = L.length ∧ putsL L fby (q - j) j (i0 + 2 + 4 * j) M' = stepO L bl va ec M (i0, m) ∧ RowB wr gr M' ∧ Out (fun i => i = gr) W wr ∧ Blk wr gy 22 cs) (fun i _ => q - (intOf i).toNat)
      case atStart => exact ⟨0, M, rfl, Nat.zero_le _, HMl.out, Hst2.out.symm, Hrow1.out, HO1.out, Hy.out⟩
      case round =>
        obtain ⟨j, M', rfl, hj, hM'l, hput, hrow', hO', hy'⟩ := hrel
        clear hal2
        by_cases hjq : j < q
        · have i1 : (j : Int) < (q : Int) := by omega
          have i8 : (j : Int) < 8 := by have := Hq8.out; omega
          obtain ⟨d, hd⟩ : ∃ d, d = fby j := ⟨_, rfl⟩
          have hyc : wr.cell? ⟨gy, j, none⟩ = some (.int .u32 (d : Int)) := by rw [hy'.cell j, Hcs.out j hjq, hd]
          obtain ⟨kk, hkk⟩ : ∃ kk, kk = i0 + 2 + 4 * j := ⟨_, rfl⟩
          have hkk4 : kk + 4 ≤ L.length := by have := Hqm.out; have := R3.out; omega
          have i3 : (i0 : Int) ≤ 40 := by have := H40.out; have := Hi.out; omega
          have kB : ∀ {g : Nat} {t : TypeId} {c : Array Value}, Blk W g t c → t ≠ 5 → Blk wr g t c := fun {g t c} h ht => (hO'.block g h.lt (Hrow.out.ne_ h ht)).trans h
          have hs' := kB Hs.out (by decide)
          have hp' := kB Hp.out (by decide)
          have hgn := hrow'.ne_ hy' (by decide)
          have hsn := hrow'.ne_ hs' (by decide)
          have hpn := hrow'.ne_ hp' (by decide)
          clear kB
          have hdlt : d < 4294967296 := by rw [hd]; exact Hfb.out j
          have j1 : (kk : Int) ≤ (L.length : Int) := by omega
          have j2 : (kk : Int) + 4 ≤ (L.length : Int) := by omega
          have j3 : (0 : Int) ≤ (kk : Int) + 4 := by omega
          have j4 : (kk : Int) ≤ (kk : Int) + 4 := by omega
          have j5 : (kk : Int) + 4 ≤ 100 := by have := H40.out; omega
          have j6 : (kk : Int) ≤ (cap : Int) := by have := Hcap.out; omega
          have hsz' : x.size = L.length := Hsz.out
          obtain ⟨z0, hz0⟩ : ∃ z, z = atL L kk := ⟨_, rfl⟩
          have hz0lt : z0 < 4294967296 := by rw [hz0]; exact numL_lt _
          obtain ⟨z, hz⟩ : ∃ z, z = (z0 + d) % 4294967296 := ⟨_, rfl⟩
          have hzlt : z < 4294967296 := by omega
          have hzi : ((z0 : Int) + (d : Int)) % 4294967296 = (z : Int) := by omega
          have e2 : (x.extract kk (kk + 4)).data.toList = (L.drop kk).take 4 := by rw [ext_list x L Hx.out, show kk + 4 - kk = 4 by omega]
          have hS0 : Out (fun i => i = gr) wr wr.drew := Out.of_below (Below.drew (Below.refl _ _))
          have ne : Nonempty (Cls (fun W => Out (fun i => i = gr) wr W)) := ⟨⟨_, hS0⟩⟩
          have hSb : ∀ w w', Out (fun i => i = gr) wr w → Below w.heap.size w w' → Out (fun i => i = gr) wr w' := fun w w' h hb => Out.trans h (Out.of_below (O := fun _ => False) hb) (fun _ _ e => e.elim)
          have qp : ∀ y : Cls (fun W => Out (fun i => i = gr) wr W), y.w.cell? ⟨gp, 0, none⟩ = some (.slice (some ⟨gr, 0, none⟩) L.length cap) := fun y => by
            have h : Blk y.w gp 51 #[.slice (some ⟨gr, 0, none⟩) L.length cap] := (y.h.block gp hp'.lt hpn).trans hp'
            have := h.cell 0
            simpa using this
          have qs : ∀ y : Cls (fun W => Out (fun i => i = gr) wr W), y.w.cell? ⟨gs, 0, none⟩ = some (.string x) := fun y => by
            have h : Blk y.w gs 9 #[.string x] := (y.h.block gs hs'.lt hsn).trans hs'
            have := h.cell 0
            simpa using this
          have n1 : ∀ y : Cls (fun W => Out (fun i => i = gr) wr W), Calls Try.prog 77 #[.string (x.extract kk (kk + 4))] y.w fun e w'' => e = .returned (.int .u32 (z0 : Int)) ∧ Out (fun i => i = gr) wr w'' ∧ RApp 13 (some gr) 8 y.w w'' := fun y => (number_any _ y.w (by simp [maxLen]; omega)).mono fun e w' ⟨he, hb⟩ => ⟨by rw [he, e2, hz0]; rfl, hSb _ _ y.h hb, RApp.of_below hb⟩
          have cf1 : ∀ (vals : Array Value) (w : World), (callFunc 77 vals).run Try.prog w = .ok (.enter 77 vals) w := fun _ _ => by kernel_rfl
          have cf2 : ∀ (vals : Array Value) (w : World), (callFunc 86 vals).run Try.prog w = .ok (.enter 86 vals) w := fun _ _ => by kernel_rfl
          have rb1 : ∀ w : World, (Instr.buildSlice 125 1 #[(0, .int .u32 (((z0 : Int) + (d : Int)) % 4294967296))]).run Try.prog w = .ok (.slice (some ⟨w.heap.size, 0, none⟩) 1 1) (w.alloc (.cells #[.int .u32 (((z0 : Int) + (d : Int)) % 4294967296)] 22)) := fun _ => by kernel_rfl
          have hhigh : ∀ (y : Cls (fun W => Out (fun i => i = gr) wr W)) (u : Value), rowAt wr.heap.size 22 #[.int .u32 (((z0 : Int) + (d : Int)) % 4294967296)] 1 [u] y.w → Calls Try.prog 86 #[.int .i64 4, u] y.w fun e w'' => e = .returned (.string ⟨(be4 z).toArray⟩) ∧ Out (fun i => i = gr) wr w'' ∧ RApp 13 (some gr) 12 y.w w'' := by
            rintro y u ⟨g', e, _, hkk2⟩
            injection e with e
            subst e
            rw [hzi] at hkk2
            refine (ohigh32 y.w g' [z] _ (by intro v hv; simp at hv; subst hv; exact hzlt) rfl hkk2 (by simp) (by simp)).mono ?_
            rintro e w'' ⟨rfl, hb⟩
            exact ⟨by simp, hSb _ _ y.h hb, RApp.of_below hb⟩
          have hcopy : ∀ W', Out (fun i => i = gr) wr W' → untilU [(13, fun W => RowB W gr M')] 13 W' → ∃ W'', (Builtin.copy_ #[51, 9] 3 #[.slice (some ⟨gr, kk, none⟩) (L.length - kk) (cap - kk), .string ⟨(be4 z).toArray⟩]).run Try.prog W' = .ok (.int .i64 4) W'' ∧ RowB W'' gr (putL M' kk z) ∧ Out (fun i => i = gr) wr W'' ∧ RApp 13 (some gr) 13 W' W'' := by
            intro W' hW' hut
            have hrw : RowB W' gr M' := hut _ List.mem_cons_self rfl
            obtain ⟨W'', c1, c2, c3⟩ := run_copy_rowB W' gr kk (L.length - kk) (cap - kk) ⟨(be4 z).toArray⟩ M' (be4 z) rfl hrw (by rw [be4_len]; omega) (by rw [be4_len, hM'l]; exact hkk4)
            exact ⟨W'', c1, c2, Out.trans hW' (Out.grown (O := fun i => i = gr) c3 rfl) (fun _ _ e => e), c3⟩
          have hU0 : ∀ q ∈ ([(13, fun W => RowB W gr M')] : List (Nat × (World → Prop))), q.2 wr.drew := by
            intro q hq
            obtain rfl := List.mem_singleton.1 hq
            exact hrow'
          have hUs : ∀ q ∈ ([(13, fun W => RowB W gr M')] : List (Nat × (World → Prop))), ∀ i w w', i ≠ q.1 → RApp 13 (some gr) i w w' → q.2 w → q.2 w' := by
            intro q hq i w w' hi hr hw
            obtain rfl := List.mem_singleton.1 hq
            exact RowB.below hw (hr.below hi) (RowB.lt hw)
          have hrl : ∀ q, some gr = some q → q < wr.heap.size := fun q hq => by injection hq with hq; rw [← hq]; exact hrow'.lt
          have hck : ¬ cap = kk := by have := Hcap.out; omega
          have hput' : putsL L fby (q - (j + 1)) (j + 1) (i0 + 2 + 4 * (j + 1)) (putL M' kk z) = stepO L bl va ec M (i0, m) := by
            rw [← hput, show q - j = q - (j + 1) + 1 by omega, putsL, ← hkk, ← hd, ← hz0, ← hz, show i0 + 2 + 4 * (j + 1) = kk + 4 by omega]
          have hlen' : (putL M' kk z).length = L.length := by rw [putL_len (by rw [hM'l]; exact hkk4), hM'l]
          have Hput := Lib.hid hput
          clear hput
          have Hrow' := Lib.hid hrow'
          clear hrow'
          have HO' := Lib.hid hO'
          clear hO'
          have Hy' := Lib.hid hy'
          clear hy'
          have Hd := Lib.hid hd
          clear hd
          have Hkk := Lib.hid hkk
          clear hkk
          have Hs' := Lib.hid hs'
          clear hs'
          have Hp' := Lib.hid hp'
          clear hp'
          have Hgn := Lib.hid hgn
          clear hgn
          have Hsn := Lib.hid hsn
          clear hsn
          have Hpn := Lib.hid hpn
          clear hpn
          have HM'l := Lib.hid hM'l
          clear hM'l
          have Hz0 := Lib.hid hz0
          clear hz0
          have Hz := Lib.hid hz
          clear hz
          have Hzi := Lib.hid hzi
          clear hzi
          have E2 := Lib.hid e2
          clear e2
          have HS0 := Lib.hid hS0
          clear hS0
          have HSb := Lib.hid hSb
          clear hSb
          have N1 := Lib.hid n1
          clear n1
          have Cf1 := Lib.hid cf1
          clear cf1
          have Cf2 := Lib.hid cf2
          clear cf2
          have Rb1 := Lib.hid rb1
          clear rb1
          have Hhigh := Lib.hid hhigh
          clear hhigh
          have Hcopy := Lib.hid hcopy
          clear hcopy
          have HU0 := Lib.hid hU0
          clear hU0
          have HUs := Lib.hid hUs
          clear hUs
          have Hrl := Lib.hid hrl
          clear hrl
          have Hput' := Lib.hid hput'
          clear hput'
          have Hlen' := Lib.hid hlen'
          clear hlen'
          have Hkk4 := Lib.hid hkk4
          clear hkk4
          have Hzlt := Lib.hid hzlt
          clear hzlt
          gi_upto_region 18 with fail
          rw [show ((i0 : Int) + 2 + 4 * (j : Int)) = ((kk : Nat) : Int) by rw [Hkk.out]; omega]
          clear hyc
          refine wpIn_region_flowu 14 (fun W => Out (fun i => i = gr) wr W) (RApp 13 (some gr)) [(13, fun W => RowB W gr M')] (by kernel_rfl) (by rintro ⟨_, _, h⟩; exact h) (by kernel_rfl) (by kernel_rfl) (by kernel_rfl) RApp.refl HUs.out HU0.out HS0.out ?_
          simp only [List.take_succ_cons, List.take_zero, List.drop_succ_cons, List.drop_zero]
          repeat (first
            | (refine flowu_quiet RApp.refl rfl rfl rfl rfl ?_; intro K hK; go_big_quiet_op; go_big_quiet_on)
            | (refine flowu_call Cf1.out _ ?_ rfl rfl rfl _ N1.out wr ?_; (focus (simp only [List.map_toArray, List.map_cons, List.map_nil]; rfl)); intro K hK; go_big_quiet_op; go_big_quiet_on))
          refine flowx_build wr.heap.size (E := 22) #[(0, .int .u32 (((z0 : Int) + (d : Int)) % 4294967296))] ?_ #[.int .u32 (((z0 : Int) + (d : Int)) % 4294967296)] Rb1.out HSb.out (fun w h => h.size) Hrl.out rfl rfl rfl wr ?_
          focus (simp only [List.map_toArray, List.map_cons, List.map_nil]; rfl)
          intro K hK; go_big_quiet_op; go_big_quiet_on
          refine flowu_callY Cf2.out (.string ⟨(be4 z).toArray⟩) (fun u => #[.int .i64 4, u]) 0 rfl rfl (fun f => by rfl) Hhigh.out rfl rfl wr ?_
          intro K hK; go_big_quiet_op; go_big_quiet_on
          refine flowu_do (.int .i64 4) (fun _ W => RowB W gr (putL M' kk z)) (fun l i w w' hi hr h => RowB.below h (hr.below hi) (RowB.lt h)) (fun _ _ h => by cases h) rfl (fun W hW hut => by
            obtain ⟨W', h1, h2, h3, h4⟩ := Hcopy.out W hW hut
            refine ⟨W', ?_, h2, h3, h4⟩
            simp [execOp, resolve, invoke, builtin, Act.eval, h1, Result.andThen, hck]) rfl rfl wr ?_
          intro K hK; go_big_quiet_op; go_big_quiet_on
          refine flowu_nil ?_
          intro W5 f hW5 hF5
          have hk5 : RowB W5 gr (putL M' kk z) := hF5 _ (.head _)
          clear hF5
          simp only [fillW]
          have hO5 : Out (fun i => i = gr) W W5 := Out.trans HO'.out hW5 (fun _ _ e => e)
          have hy5 := (hW5.block gy Hy'.out.lt Hgn.out).trans Hy'.out
          have hy5 : Blk W5 gy 22 cs := hy5
          generalize f 72 = v72
          clear hW5 ne qp qs
          have Hk5 := Lib.hid hk5
          clear hk5
          have HO5 := Lib.hid hO5
          clear hO5
          have Hy5 := Lib.hid hy5
          clear hy5
          simp only [Act.put, List.setIfInBounds_toArray, List.set_cons_succ, List.set_cons_zero]
          simp only [wpList, Exit.inBlock, Exit.then]
          go_at_K
          gi_wp2
          go_roundw
          case rel => exact ⟨j + 1, putL M' kk z, by go_num, by omega, Hlen'.out, Hput'.out, Hk5.out, HO5.out, Hy5.out⟩
          case measure => simp [intOf]; omega
        · have hje : j = q := by omega
          have hM' : M' = stepO L bl va ec M (i0, m) := by
            rw [← hput, hje, Nat.sub_self]
            rfl
          have i1 : ¬ (j : Int) < (q : Int) := by omega
          clear hput hje
          have Hrow' := Lib.hid hrow'
          clear hrow'
          have HO' := Lib.hid hO'
          clear hO'
          have Hy' := Lib.hid hy'
          clear hy'
          have HM' := Lib.hid hM'
          clear hM'
          have HM'l := Lib.hid hM'l
          clear hM'l
          gi_wp2
          exact TurnI.next HI.out HO'.out Hrow'.out (HM'.out.trans Hnext.out) hwr HgrB.out
    by_cases h5 : k = 5
    · have t8 : ((k : Int) == 8) = false := by simp; omega
      have t5 : ((k : Int) == 5) = true := by rw [h5]; rfl
      have hm4 : m = 10 ∨ m = 18 ∨ m = 26 ∨ m = 34 := by have := R2.out; rw [h5] at this; simp [longB] at this; omega
      have hst2' : stepO L bl va ec M (i0, m) = putsL L (fun _ => bl) ((m - 2) / 4) 0 (i0 + 2) M := stepO_blocks (by rw [← Hk.out]; exact h5)
      obtain ⟨q, hq⟩ : ∃ q, q = (m - 2) / 4 := ⟨_, rfl⟩
      obtain ⟨fby, hf⟩ : ∃ f : Nat → Nat, f = fun _ => bl := ⟨_, rfl⟩
      have hst2 : stepO L bl va ec M (i0, m) = putsL L fby q 0 (i0 + 2) M := by rw [hf, hq]; exact hst2'
      have hq8 : q ≤ 8 := by omega
      have hqm : 2 + 4 * q ≤ m := by omega
      have hqi : ((m : Int) - 2) / 4 = (q : Int) := by omega
      have hqq : q = 2 ∨ q = 4 ∨ q = 6 ∨ q = 8 := by omega
      have hm2 : (2 : Int) ≤ (m : Int) := by omega
      have hrep := rep_any (W.alloc (.cells #[.int .u32 (bl : Int)] 22)) W.heap.size 1 (bl : Int) (Blk.new _ _ _) q hqq
      rw [← hqi] at hrep
      have hal : Below W.heap.size W (W.alloc (.cells #[.int .u32 (bl : Int)] 22)) := (Below.refl _ _).alloc (Nat.le_refl _) _
      clear hst2' h5 hqi
      have Hrep := Lib.hid hrep
      clear hrep
      have Hal := Lib.hid hal
      clear hal
      have Hst2 := Lib.hid hst2
      clear hst2
      have Hq := Lib.hid hq
      clear hq
      have Hf := Lib.hid hf
      clear hf
      have Hm4 := Lib.hid hm4
      clear hm4
      have Hqq := Lib.hid hqq
      clear hqq
      gi_wp2_with fail
      refine ⟨trivial, ?_⟩
      refine (CallsIn.inRound l (callsIn_wide.2 Hrep.out)).mono ?_
      rintro e W1 ⟨gy, rfl, hy, _, hbq⟩
      have hbw : Below W.heap.size W W1 := Hal.out.trans (hbq.mono Hal.out.size)
      have hrow1 := Hrow.out.below hbw Hrow.out.lt
      have hO1 : Out (fun i => i = gr) W W1 := Out.of_below hbw
      obtain ⟨cs, hcse⟩ : ∃ cs : Array Value, cs = (List.replicate q (Value.int .u32 (bl : Int))).toArray := ⟨_, rfl⟩
      rw [← hcse] at hy
      have hcs : ∀ j, j < q → cs[j]? = some (.int .u32 ((fby j : Nat) : Int)) := by
        intro j hj
        rw [hcse, Hf.out]
        simp [hj]
      have hfb : ∀ j, fby j < 4294967296 := by intro j; rw [Hf.out]; exact hbl
      have hst2 := Hst2.out
      clear Hst2 hbq hbw hcse
      gi_upto_region 14 with fail
      have hal2 := hO1
      have Hy := Lib.hid hy
      clear hy
      have HO1 := Lib.hid hO1
      clear hO1
      have Hrow1 := Lib.hid hrow1
      clear hrow1
      have Hcs := Lib.hid hcs
      clear hcs
      have Hfb := Lib.hid hfb
      clear hfb
      have Hst2 := Lib.hid hst2
      clear hst2
      have Hq8 := Lib.hid hq8
      clear hq8
      have Hqm := Lib.hid hqm
      clear hqm
      gi_wp2_with fail
      gi_loopw [51] (fun i wr => ∃ (j : Nat) (M' : List UInt8), i = .int .i64 (j : Int) ∧ j ≤ q ∧ M'.length = L.length ∧ putsL L fby (q - j) j (i0 + 2 + 4 * j) M' = stepO L bl va ec M (i0, m) ∧ RowB wr gr M' ∧ Out (fun i => i = gr) W wr ∧ Blk wr gy 22 cs) (fun i _ => q - (intOf i).toNat)
      case atStart => exact ⟨0, M, rfl, Nat.zero_le _, HMl.out, Hst2.out.symm, Hrow1.out, HO1.out, Hy.out⟩
      case round =>
        obtain ⟨j, M', rfl, hj, hM'l, hput, hrow', hO', hy'⟩ := hrel
        clear hal2
        by_cases hjq : j < q
        · have i1 : (j : Int) < (q : Int) := by omega
          have i8 : (j : Int) < 8 := by have := Hq8.out; omega
          obtain ⟨d, hd⟩ : ∃ d, d = fby j := ⟨_, rfl⟩
          have hyc : wr.cell? ⟨gy, j, none⟩ = some (.int .u32 (d : Int)) := by rw [hy'.cell j, Hcs.out j hjq, hd]
          obtain ⟨kk, hkk⟩ : ∃ kk, kk = i0 + 2 + 4 * j := ⟨_, rfl⟩
          have hkk4 : kk + 4 ≤ L.length := by have := Hqm.out; have := R3.out; omega
          have i3 : (i0 : Int) ≤ 40 := by have := H40.out; have := Hi.out; omega
          have kB : ∀ {g : Nat} {t : TypeId} {c : Array Value}, Blk W g t c → t ≠ 5 → Blk wr g t c := fun {g t c} h ht => (hO'.block g h.lt (Hrow.out.ne_ h ht)).trans h
          have hs' := kB Hs.out (by decide)
          have hp' := kB Hp.out (by decide)
          have hgn := hrow'.ne_ hy' (by decide)
          have hsn := hrow'.ne_ hs' (by decide)
          have hpn := hrow'.ne_ hp' (by decide)
          clear kB
          have hdlt : d < 4294967296 := by rw [hd]; exact Hfb.out j
          have j1 : (kk : Int) ≤ (L.length : Int) := by omega
          have j2 : (kk : Int) + 4 ≤ (L.length : Int) := by omega
          have j3 : (0 : Int) ≤ (kk : Int) + 4 := by omega
          have j4 : (kk : Int) ≤ (kk : Int) + 4 := by omega
          have j5 : (kk : Int) + 4 ≤ 100 := by have := H40.out; omega
          have j6 : (kk : Int) ≤ (cap : Int) := by have := Hcap.out; omega
          have hsz' : x.size = L.length := Hsz.out
          obtain ⟨z0, hz0⟩ : ∃ z, z = atL L kk := ⟨_, rfl⟩
          have hz0lt : z0 < 4294967296 := by rw [hz0]; exact numL_lt _
          obtain ⟨z, hz⟩ : ∃ z, z = (z0 + d) % 4294967296 := ⟨_, rfl⟩
          have hzlt : z < 4294967296 := by omega
          have hzi : ((z0 : Int) + (d : Int)) % 4294967296 = (z : Int) := by omega
          have e2 : (x.extract kk (kk + 4)).data.toList = (L.drop kk).take 4 := by rw [ext_list x L Hx.out, show kk + 4 - kk = 4 by omega]
          have hS0 : Out (fun i => i = gr) wr wr.drew := Out.of_below (Below.drew (Below.refl _ _))
          have ne : Nonempty (Cls (fun W => Out (fun i => i = gr) wr W)) := ⟨⟨_, hS0⟩⟩
          have hSb : ∀ w w', Out (fun i => i = gr) wr w → Below w.heap.size w w' → Out (fun i => i = gr) wr w' := fun w w' h hb => Out.trans h (Out.of_below (O := fun _ => False) hb) (fun _ _ e => e.elim)
          have qp : ∀ y : Cls (fun W => Out (fun i => i = gr) wr W), y.w.cell? ⟨gp, 0, none⟩ = some (.slice (some ⟨gr, 0, none⟩) L.length cap) := fun y => by
            have h : Blk y.w gp 51 #[.slice (some ⟨gr, 0, none⟩) L.length cap] := (y.h.block gp hp'.lt hpn).trans hp'
            have := h.cell 0
            simpa using this
          have qs : ∀ y : Cls (fun W => Out (fun i => i = gr) wr W), y.w.cell? ⟨gs, 0, none⟩ = some (.string x) := fun y => by
            have h : Blk y.w gs 9 #[.string x] := (y.h.block gs hs'.lt hsn).trans hs'
            have := h.cell 0
            simpa using this
          have n1 : ∀ y : Cls (fun W => Out (fun i => i = gr) wr W), Calls Try.prog 77 #[.string (x.extract kk (kk + 4))] y.w fun e w'' => e = .returned (.int .u32 (z0 : Int)) ∧ Out (fun i => i = gr) wr w'' ∧ RApp 13 (some gr) 8 y.w w'' := fun y => (number_any _ y.w (by simp [maxLen]; omega)).mono fun e w' ⟨he, hb⟩ => ⟨by rw [he, e2, hz0]; rfl, hSb _ _ y.h hb, RApp.of_below hb⟩
          have cf1 : ∀ (vals : Array Value) (w : World), (callFunc 77 vals).run Try.prog w = .ok (.enter 77 vals) w := fun _ _ => by kernel_rfl
          have cf2 : ∀ (vals : Array Value) (w : World), (callFunc 86 vals).run Try.prog w = .ok (.enter 86 vals) w := fun _ _ => by kernel_rfl
          have rb1 : ∀ w : World, (Instr.buildSlice 125 1 #[(0, .int .u32 (((z0 : Int) + (d : Int)) % 4294967296))]).run Try.prog w = .ok (.slice (some ⟨w.heap.size, 0, none⟩) 1 1) (w.alloc (.cells #[.int .u32 (((z0 : Int) + (d : Int)) % 4294967296)] 22)) := fun _ => by kernel_rfl
          have hhigh : ∀ (y : Cls (fun W => Out (fun i => i = gr) wr W)) (u : Value), rowAt wr.heap.size 22 #[.int .u32 (((z0 : Int) + (d : Int)) % 4294967296)] 1 [u] y.w → Calls Try.prog 86 #[.int .i64 4, u] y.w fun e w'' => e = .returned (.string ⟨(be4 z).toArray⟩) ∧ Out (fun i => i = gr) wr w'' ∧ RApp 13 (some gr) 12 y.w w'' := by
            rintro y u ⟨g', e, _, hkk2⟩
            injection e with e
            subst e
            rw [hzi] at hkk2
            refine (ohigh32 y.w g' [z] _ (by intro v hv; simp at hv; subst hv; exact hzlt) rfl hkk2 (by simp) (by simp)).mono ?_
            rintro e w'' ⟨rfl, hb⟩
            exact ⟨by simp, hSb _ _ y.h hb, RApp.of_below hb⟩
          have hcopy : ∀ W', Out (fun i => i = gr) wr W' → untilU [(13, fun W => RowB W gr M')] 13 W' → ∃ W'', (Builtin.copy_ #[51, 9] 3 #[.slice (some ⟨gr, kk, none⟩) (L.length - kk) (cap - kk), .string ⟨(be4 z).toArray⟩]).run Try.prog W' = .ok (.int .i64 4) W'' ∧ RowB W'' gr (putL M' kk z) ∧ Out (fun i => i = gr) wr W'' ∧ RApp 13 (some gr) 13 W' W'' := by
            intro W' hW' hut
            have hrw : RowB W' gr M' := hut _ List.mem_cons_self rfl
            obtain ⟨W'', c1, c2, c3⟩ := run_copy_rowB W' gr kk (L.length - kk) (cap - kk) ⟨(be4 z).toArray⟩ M' (be4 z) rfl hrw (by rw [be4_len]; omega) (by rw [be4_len, hM'l]; exact hkk4)
            exact ⟨W'', c1, c2, Out.trans hW' (Out.grown (O := fun i => i = gr) c3 rfl) (fun _ _ e => e), c3⟩
          have hU0 : ∀ q ∈ ([(13, fun W => RowB W gr M')] : List (Nat × (World → Prop))), q.2 wr.drew := by
            intro q hq
            obtain rfl := List.mem_singleton.1 hq
            exact hrow'
          have hUs : ∀ q ∈ ([(13, fun W => RowB W gr M')] : List (Nat × (World → Prop))), ∀ i w w', i ≠ q.1 → RApp 13 (some gr) i w w' → q.2 w → q.2 w' := by
            intro q hq i w w' hi hr hw
            obtain rfl := List.mem_singleton.1 hq
            exact RowB.below hw (hr.below hi) (RowB.lt hw)
          have hrl : ∀ q, some gr = some q → q < wr.heap.size := fun q hq => by injection hq with hq; rw [← hq]; exact hrow'.lt
          have hck : ¬ cap = kk := by have := Hcap.out; omega
          have hput' : putsL L fby (q - (j + 1)) (j + 1) (i0 + 2 + 4 * (j + 1)) (putL M' kk z) = stepO L bl va ec M (i0, m) := by
            rw [← hput, show q - j = q - (j + 1) + 1 by omega, putsL, ← hkk, ← hd, ← hz0, ← hz, show i0 + 2 + 4 * (j + 1) = kk + 4 by omega]
          have hlen' : (putL M' kk z).length = L.length := by rw [putL_len (by rw [hM'l]; exact hkk4), hM'l]
          have Hput := Lib.hid hput
          clear hput
          have Hrow' := Lib.hid hrow'
          clear hrow'
          have HO' := Lib.hid hO'
          clear hO'
          have Hy' := Lib.hid hy'
          clear hy'
          have Hd := Lib.hid hd
          clear hd
          have Hkk := Lib.hid hkk
          clear hkk
          have Hs' := Lib.hid hs'
          clear hs'
          have Hp' := Lib.hid hp'
          clear hp'
          have Hgn := Lib.hid hgn
          clear hgn
          have Hsn := Lib.hid hsn
          clear hsn
          have Hpn := Lib.hid hpn
          clear hpn
          have HM'l := Lib.hid hM'l
          clear hM'l
          have Hz0 := Lib.hid hz0
          clear hz0
          have Hz := Lib.hid hz
          clear hz
          have Hzi := Lib.hid hzi
          clear hzi
          have E2 := Lib.hid e2
          clear e2
          have HS0 := Lib.hid hS0
          clear hS0
          have HSb := Lib.hid hSb
          clear hSb
          have N1 := Lib.hid n1
          clear n1
          have Cf1 := Lib.hid cf1
          clear cf1
          have Cf2 := Lib.hid cf2
          clear cf2
          have Rb1 := Lib.hid rb1
          clear rb1
          have Hhigh := Lib.hid hhigh
          clear hhigh
          have Hcopy := Lib.hid hcopy
          clear hcopy
          have HU0 := Lib.hid hU0
          clear hU0
          have HUs := Lib.hid hUs
          clear hUs
          have Hrl := Lib.hid hrl
          clear hrl
          have Hput' := Lib.hid hput'
          clear hput'
          have Hlen' := Lib.hid hlen'
          clear hlen'
          have Hkk4 := Lib.hid hkk4
          clear hkk4
          have Hzlt := Lib.hid hzlt
          clear hzlt
          gi_upto_region 18 with fail
          rw [show ((i0 : Int) + 2 + 4 * (j : Int)) = ((kk : Nat) : Int) by rw [Hkk.out]; omega]
          clear hyc
          refine wpIn_region_flowu 14 (fun W => Out (fun i => i = gr) wr W) (RApp 13 (some gr)) [(13, fun W => RowB W gr M')] (by kernel_rfl) (by rintro ⟨_, _, h⟩; exact h) (by kernel_rfl) (by kernel_rfl) (by kernel_rfl) RApp.refl HUs.out HU0.out HS0.out ?_
          simp only [List.take_succ_cons, List.take_zero, List.drop_succ_cons, List.drop_zero]
          repeat (first
            | (refine flowu_quiet RApp.refl rfl rfl rfl rfl ?_; intro K hK; go_big_quiet_op; go_big_quiet_on)
            | (refine flowu_call Cf1.out _ ?_ rfl rfl rfl _ N1.out wr ?_; (focus (simp only [List.map_toArray, List.map_cons, List.map_nil]; rfl)); intro K hK; go_big_quiet_op; go_big_quiet_on))
          refine flowx_build wr.heap.size (E := 22) #[(0, .int .u32 (((z0 : Int) + (d : Int)) % 4294967296))] ?_ #[.int .u32 (((z0 : Int) + (d : Int)) % 4294967296)] Rb1.out HSb.out (fun w h => h.size) Hrl.out rfl rfl rfl wr ?_
          focus (simp only [List.map_toArray, List.map_cons, List.map_nil]; rfl)
          intro K hK; go_big_quiet_op; go_big_quiet_on
          refine flowu_callY Cf2.out (.string ⟨(be4 z).toArray⟩) (fun u => #[.int .i64 4, u]) 0 rfl rfl (fun f => by rfl) Hhigh.out rfl rfl wr ?_
          intro K hK; go_big_quiet_op; go_big_quiet_on
          refine flowu_do (.int .i64 4) (fun _ W => RowB W gr (putL M' kk z)) (fun l i w w' hi hr h => RowB.below h (hr.below hi) (RowB.lt h)) (fun _ _ h => by cases h) rfl (fun W hW hut => by
            obtain ⟨W', h1, h2, h3, h4⟩ := Hcopy.out W hW hut
            refine ⟨W', ?_, h2, h3, h4⟩
            simp [execOp, resolve, invoke, builtin, Act.eval, h1, Result.andThen, hck]) rfl rfl wr ?_
          intro K hK; go_big_quiet_op; go_big_quiet_on
          refine flowu_nil ?_
          intro W5 f hW5 hF5
          have hk5 : RowB W5 gr (putL M' kk z) := hF5 _ (.head _)
          clear hF5
          simp only [fillW]
          have hO5 : Out (fun i => i = gr) W W5 := Out.trans HO'.out hW5 (fun _ _ e => e)
          have hy5 := (hW5.block gy Hy'.out.lt Hgn.out).trans Hy'.out
          have hy5 : Blk W5 gy 22 cs := hy5
          generalize f 72 = v72
          clear hW5 ne qp qs
          have Hk5 := Lib.hid hk5
          clear hk5
          have HO5 := Lib.hid hO5
          clear hO5
          have Hy5 := Lib.hid hy5
          clear hy5
          simp only [Act.put, List.setIfInBounds_toArray, List.set_cons_succ, List.set_cons_zero]
          simp only [wpList, Exit.inBlock, Exit.then]
          go_at_K
          gi_wp2
          go_roundw
          case rel => exact ⟨j + 1, putL M' kk z, by go_num, by omega, Hlen'.out, Hput'.out, Hk5.out, HO5.out, Hy5.out⟩
          case measure => simp [intOf]; omega
        · have hje : j = q := by omega
          have hM' : M' = stepO L bl va ec M (i0, m) := by
            rw [← hput, hje, Nat.sub_self]
            rfl
          have i1 : ¬ (j : Int) < (q : Int) := by omega
          clear hput hje
          have Hrow' := Lib.hid hrow'
          clear hrow'
          have HO' := Lib.hid hO'
          clear hO'
          have Hy' := Lib.hid hy'
          clear hy'
          have HM' := Lib.hid hM'
          clear hM'
          have HM'l := Lib.hid hM'l
          clear hM'l
          gi_wp2
          exact TurnI.next HI.out HO'.out Hrow'.out (HM'.out.trans Hnext.out) hwr HgrB.out
    have t8 : ((k : Int) == 8) = false := by simp; omega
    have t5 : ((k : Int) == 5) = false := by simp; omega
    have hst2 : stepO L bl va ec M (i0, m) = M := stepO_other (by rw [← Hk.out]; exact h8) (by rw [← Hk.out]; exact h5)
    clear h8 h5
    have Hst2 := Lib.hid hst2
    clear hst2
    gi_wp2_with fail
    gi_loopw [51] (fun i wr => i = .int .i64 0 ∧ wr = W) (fun i _ => 0)
    case atStart => exact ⟨rfl, rfl⟩
    case round =>
      obtain ⟨rfl, rfl⟩ := hrel
      gi_wp2_with fail
      gi_wp2
      exact TurnI.next HI.out (Out.refl _ _) Hrow.out (Hst2.out.symm.trans Hnext.out) hwr HgrB.out
  case done =>
    rintro D xs W hD hS ⟨hB, hs, hb, hv, hc, hp, hrow⟩ hK
    rw [hS, stepsO L bl va ec Hfine.out] at hrow
    have hlen := turnL_len bl va ec L
    obtain ⟨M, hM⟩ : ∃ M, M = turnT bl va ec L := ⟨_, rfl⟩
    rw [← hM] at hrow hlen
    have hbk := run_bytes_back W ⟨gr, 0, none⟩ L.length cap M hlen.symm (by
      intro j hj
      rw [add_plain, Nat.zero_add, hrow.cell (List.getElem?_eq_getElem hj)]
      rfl)
    have cp0 := hp.cell 0
    try simp at cp0
    have HB := Lib.hid hB
    clear hB
    have Hs := Lib.hid hs
    clear hs
    have Hb := Lib.hid hb
    clear hb
    have Hv := Lib.hid hv
    clear hv
    have Hc := Lib.hid hc
    clear hc
    have Hp := Lib.hid hp
    clear hp
    have Hrow := Lib.hid hrow
    clear hrow
    have Hlen := Lib.hid hlen
    clear hlen
    have HM := Lib.hid hM
    clear hM
    have HS := Lib.hid hS
    clear hS
    gi_wp2_with fail
    gi_wp2
    refine ⟨by simp, .inl ⟨_, _, rfl, run_takeDeferred hK, ?_⟩⟩
    refine ⟨.tuple #[.string ⟨M.toArray⟩, .int .i64 0], by simp [results, Try.results50, go_sem], ?_⟩
    unfold TurnPost
    rw [HTR.out, ← HM.out]
    exact ⟨rfl, HB.out.trans (belowK_b (w := w) (Nat.le_refl _) W D _ _ (Nat.le_trans hBs5 hD) hK rfl rfl)⟩
  case stop =>
    rintro D c pre W _ _ h _
    exact h.elim
set_option maxHeartbeats 4000000 in
theorem turn_no (x : ByteArray) (L : List UInt8) (hx : x.data.toList = L) (hd : (decR L).2 ≠ 0) (bl va ec : Nat) (w : World) :
    Calls Try.prog 50 #[.string x, .int .u32 (bl : Int), .int .u32 (va : Int), .int .u32 (ec : Int)] w (TurnPost bl va ec w L) := by
  have hdec := dec_any x
  rw [hx] at hdec
  have hb0 : Below w.heap.size w w := Below.refl _ _
  have HB := Lib.hid hb0
  clear hb0
  have Hx := Lib.hid hx
  clear hx
  have Hd := Lib.hid hd
  clear hd
  have Hdec := Lib.hid hdec
  clear hdec
  go_enter Try.func50, Try.ntmps50
  go_upto_region 1 with fail
  have hs := Blk.alloc (Blk.alloc (Blk.alloc (Blk.new w 9 #[.string x]) (.cells #[.int .u32 (bl : Int)] 22)) (.cells #[.int .u32 (va : Int)] 22)) (.cells #[.int .u32 (ec : Int)] 22)
  have hb := Blk.alloc (Blk.alloc (Blk.new (w.alloc (.cells #[.string x] 9)) 22 #[.int .u32 (bl : Int)]) (.cells #[.int .u32 (va : Int)] 22)) (.cells #[.int .u32 (ec : Int)] 22)
  rw [show (w.alloc (.cells #[.string x] 9)).heap.size = w.heap.size + 1 by simp] at hb
  have hv := Blk.alloc (Blk.new ((w.alloc (.cells #[.string x] 9)).alloc (.cells #[.int .u32 (bl : Int)] 22)) 22 #[.int .u32 (va : Int)]) (.cells #[.int .u32 (ec : Int)] 22)
  rw [show ((w.alloc (.cells #[.string x] 9)).alloc (.cells #[.int .u32 (bl : Int)] 22)).heap.size = w.heap.size + 2 by simp] at hv
  have hc := Blk.new (((w.alloc (.cells #[.string x] 9)).alloc (.cells #[.int .u32 (bl : Int)] 22)).alloc (.cells #[.int .u32 (va : Int)] 22)) 22 #[.int .u32 (ec : Int)]
  rw [show (((w.alloc (.cells #[.string x] 9)).alloc (.cells #[.int .u32 (bl : Int)] 22)).alloc (.cells #[.int .u32 (va : Int)] 22)).heap.size = w.heap.size + 3 by simp] at hc
  have hB := Below.alloc (Below.alloc (Below.alloc (Below.alloc (HB.out) (Nat.le_trans HB.out.size (by simp <;> omega)) (.cells #[.string x] 9)) (Nat.le_trans HB.out.size (by simp <;> omega)) (.cells #[.int .u32 (bl : Int)] 22)) (Nat.le_trans HB.out.size (by simp <;> omega)) (.cells #[.int .u32 (va : Int)] 22)) (Nat.le_trans HB.out.size (by simp <;> omega)) (.cells #[.int .u32 (ec : Int)] 22)
  clear HB
  obtain ⟨gc, hgec⟩ : ∃ g, g = w.heap.size + 3 := ⟨_, rfl⟩
  rw [← hgec] at hc ⊢
  obtain ⟨gv, hgev⟩ : ∃ g, g = w.heap.size + 2 := ⟨_, rfl⟩
  rw [← hgev] at hv ⊢
  obtain ⟨gb, hgeb⟩ : ∃ g, g = w.heap.size + 1 := ⟨_, rfl⟩
  rw [← hgeb] at hb ⊢
  obtain ⟨gs, hges⟩ : ∃ g, g = w.heap.size := ⟨_, rfl⟩
  rw [← hges] at hs ⊢
  have hne_s_b : gs ≠ gb := by omega
  have hne_s_v : gs ≠ gv := by omega
  have hne_s_c : gs ≠ gc := by omega
  have hne_b_v : gb ≠ gv := by omega
  have hne_b_c : gb ≠ gc := by omega
  have hne_v_c : gv ≠ gc := by omega
  have hle_s : w.heap.size ≤ gs := by omega
  have hle_b : w.heap.size ≤ gb := by omega
  have hle_v : w.heap.size ≤ gv := by omega
  have hle_c : w.heap.size ≤ gc := by omega
  clear hges hgeb hgev hgec
  generalize (((w.alloc _).alloc _).alloc _).alloc _ = wn3 at *
  have Hs := Lib.hid hs
  clear hs
  have Hb := Lib.hid hb
  clear hb
  have Hv := Lib.hid hv
  clear hv
  have Hc := Lib.hid hc
  clear hc
  have HB := Lib.hid hB
  clear hB
  obtain ⟨W1, hW1⟩ : ∃ W, W = wn3 := ⟨_, rfl⟩
  rw [← hW1] at Hs Hb Hv Hc HB ⊢
  clear hW1
  have cs1 := Hs.out.cell 0
  try simp at cs1
  go_wp2_with fail
  with_reducible refine (Hdec.out _).mono ?_
  rintro e w2 ⟨r, A, c, code, rfl, ⟨hbr, _⟩, hbq, hre⟩
  have hs := Hs.out.below hbq Hs.out.lt
  clear Hs
  have Hs := Lib.hid hs
  clear hs
  have hb := Hb.out.below hbq Hb.out.lt
  clear Hb
  have Hb := Lib.hid hb
  clear hb
  have hv := Hv.out.below hbq Hv.out.lt
  clear Hv
  have Hv := Lib.hid hv
  clear hv
  have hc := Hc.out.below hbq Hc.out.lt
  clear Hc
  have Hc := Lib.hid hc
  clear hc
  have hB := HB.out.trans (hbq.mono HB.out.size)
  clear HB
  have HB := Lib.hid hB
  clear hB
  clear hbq hbr cs1
  unfold optC
  have hc0 : ¬ code = 0 := by have := Hd.out; rw [← hre] at this; exact this
  have hc1 : (code != 0) = true := by simp [hc0]
  have hTR : turnR bl va ec L = ([], code) := by
    have : (decR L).2 = code := by rw [← hre]
    unfold turnR
    rw [this, if_neg hc0]
  have HTR := Lib.hid hTR
  clear hTR
  clear hc0 hre
  go_upto_region 2 with fail
  have hq := Blk.new w2 28 #[.int .u16 (r.mss : Int), .int .i64 r.scale, .bool r.sack, .slice A r.bl.length c, .bool r.time, .int .u32 (r.val : Int), .int .u32 (r.echo : Int)]
  have hs := Blk.alloc Hs.out (.cells #[.int .u16 (r.mss : Int), .int .i64 r.scale, .bool r.sack, .slice A r.bl.length c, .bool r.time, .int .u32 (r.val : Int), .int .u32 (r.echo : Int)] 28)
  clear Hs
  have hb := Blk.alloc Hb.out (.cells #[.int .u16 (r.mss : Int), .int .i64 r.scale, .bool r.sack, .slice A r.bl.length c, .bool r.time, .int .u32 (r.val : Int), .int .u32 (r.echo : Int)] 28)
  clear Hb
  have hv := Blk.alloc Hv.out (.cells #[.int .u16 (r.mss : Int), .int .i64 r.scale, .bool r.sack, .slice A r.bl.length c, .bool r.time, .int .u32 (r.val : Int), .int .u32 (r.echo : Int)] 28)
  clear Hv
  have hc := Blk.alloc Hc.out (.cells #[.int .u16 (r.mss : Int), .int .i64 r.scale, .bool r.sack, .slice A r.bl.length c, .bool r.time, .int .u32 (r.val : Int), .int .u32 (r.echo : Int)] 28)
  clear Hc
  have hB := HB.out.alloc HB.out.size (.cells #[.int .u16 (r.mss : Int), .int .i64 r.scale, .bool r.sack, .slice A r.bl.length c, .bool r.time, .int .u32 (r.val : Int), .int .u32 (r.echo : Int)] 28)
  clear HB
  obtain ⟨gq, hge⟩ : ∃ g, g = w2.heap.size := ⟨_, rfl⟩
  rw [← hge] at hq ⊢
  have hle_q : w2.heap.size ≤ gq := by omega
  clear hge
  generalize w2.alloc _ = wn4 at *
  have Hs := Lib.hid hs
  clear hs
  have Hb := Lib.hid hb
  clear hb
  have Hv := Lib.hid hv
  clear hv
  have Hc := Lib.hid hc
  clear hc
  have Hq := Lib.hid hq
  clear hq
  have HB := Lib.hid hB
  clear hB
  go_wp2_with fail
  go_ret2
  unfold TurnPost
  rw [HTR.out]
  exact ⟨rfl, HB.out⟩
theorem oturn_any (x : ByteArray) (L : List UInt8) (hx : x.data.toList = L) (bl va ec : Nat) (hbl : bl < 4294967296) (hva : va < 4294967296) (hec : ec < 4294967296) (w : World) :
    Calls Try.prog 50 #[.string x, .int .u32 (bl : Int), .int .u32 (va : Int), .int .u32 (ec : Int)] w (TurnPost bl va ec w L) := by
  by_cases h : (decR L).2 = 0
  · exact callsIn_wide.1 (turn_yes x L hx h bl va ec hbl hva hec w)
  · exact turn_no x L hx h bl va ec w
end Go.Proofs.Ytengegcnocdkoaa
end
