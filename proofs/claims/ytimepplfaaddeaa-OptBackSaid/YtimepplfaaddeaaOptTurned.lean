/- Layer 7 (opt): the law's turned: options, turned. -/
import Derived.Test.YtimepplfaaddeaaOptAlive
set_option linter.unusedVariables false
set_option linter.unusedSimpArgs false
namespace Go.Proofs.Ytimepplfaaddeaa
open Go.RowKit Go.BigFrame

def TurnedP (bl va ec : Nat) (w : World) (o : Op) (e : Ending) (w' : World) : Prop := ∃ A c, e = .returned (.agg (optC (turnO bl va ec o) A c)) ∧ BlR w' A (turnO bl va ec o).bl ∧ Below w.heap.size w w'
set_option maxRecDepth 100000 in
set_option maxHeartbeats 8000000 in
theorem turned_any07 (w : World) (o : Op) (A : Option Addr) (c : Nat) (bl va ec : Nat) (hr : BlR w A o.bl) (hn : o.bl.length ≤ 2000) (hw : ∀ p ∈ o.bl, (0 ≤ p.1 ∧ p.1 ≤ 4294967295) ∧ 0 ≤ p.2 ∧ p.2 ≤ 4294967295) (hv : o.val < 4294967296) (he : o.echo < 4294967296) (hbl : bl < 4294967296) (hva : va < 4294967296) (hec : ec < 4294967296) :
    Calls Try.prog 21 #[.agg (optC o A c), .int .u32 (bl : Int), .int .u32 (va : Int), .int .u32 (ec : Int)] w (TurnedP bl va ec w o) := by
  have hb0 : Below w.heap.size w w := Below.refl _ _
  have HB := Lib.hid hb0
  clear hb0
  obtain ⟨n, hne⟩ : ∃ n, n = o.bl.length := ⟨_, rfl⟩
  unfold optC
  rw [← hne]
  obtain ⟨tm, htm⟩ : ∃ t, t = o.time := ⟨_, rfl⟩
  rw [← htm]
  have n1 : (n : Int) ≤ 2000 := by omega
  have Hbr := Lib.hid hr
  clear hr
  have Hn := Lib.hid hn
  clear hn
  have Hw := Lib.hid hw
  clear hw
  have Hne := Lib.hid hne
  clear hne
  have Htm := Lib.hid htm
  clear htm
  go_enter Try.func21, Try.ntmps21
  go_upto_region 1 with fail
  have hx := Blk.alloc (Blk.new w 26 #[.int .u16 (o.mss : Int), .int .i64 o.scale, .bool o.sack, .slice A n c, .bool tm, .int .u32 (o.val : Int), .int .u32 (o.echo : Int)]) (.cells #[.int .u16 0, .int .i64 0, .bool false, .slice none 0 0, .bool false, .int .u32 0, .int .u32 0] 26)
  have hr := Blk.new (w.alloc (.cells #[.int .u16 (o.mss : Int), .int .i64 o.scale, .bool o.sack, .slice A n c, .bool tm, .int .u32 (o.val : Int), .int .u32 (o.echo : Int)] 26)) 26 #[.int .u16 0, .int .i64 0, .bool false, .slice none 0 0, .bool false, .int .u32 0, .int .u32 0]
  rw [show (w.alloc (.cells #[.int .u16 (o.mss : Int), .int .i64 o.scale, .bool o.sack, .slice A n c, .bool tm, .int .u32 (o.val : Int), .int .u32 (o.echo : Int)] 26)).heap.size = w.heap.size + 1 by simp] at hr
  have hB := Below.alloc (Below.alloc (HB.out) (Nat.le_trans HB.out.size (by simp <;> omega)) (.cells #[.int .u16 (o.mss : Int), .int .i64 o.scale, .bool o.sack, .slice A n c, .bool tm, .int .u32 (o.val : Int), .int .u32 (o.echo : Int)] 26)) (Nat.le_trans HB.out.size (by simp <;> omega)) (.cells #[.int .u16 0, .int .i64 0, .bool false, .slice none 0 0, .bool false, .int .u32 0, .int .u32 0] 26)
  clear HB
  obtain ⟨gr, hger⟩ : ∃ g, g = w.heap.size + 1 := ⟨_, rfl⟩
  rw [← hger] at hr ⊢
  obtain ⟨gx, hgex⟩ : ∃ g, g = w.heap.size := ⟨_, rfl⟩
  rw [← hgex] at hx ⊢
  have hne_x_r : gx ≠ gr := by omega
  have hle_x : w.heap.size ≤ gx := by omega
  have hle_r : w.heap.size ≤ gr := by omega
  clear hgex hger
  generalize (w.alloc _).alloc _ = wn1 at *
  have Hx := Lib.hid hx
  clear hx
  have Hr := Lib.hid hr
  clear hr
  have HB := Lib.hid hB
  clear hB
  obtain ⟨W1, hwnW1⟩ : ∃ W, W = wn1 := ⟨_, rfl⟩
  rw [← hwnW1] at Hx Hr HB ⊢
  clear hwnW1
  have hown0 : W1.ownsRow w.heap.size 56 2 (.slice none 0 0) 0 [] := World.ownsRow_nil _ _ _ _
  have Hown0 := Lib.hid hown0
  clear hown0
  go_wp2_with fail
  go_loopw [9, 10] (fun v i wr => ∃ (j : Nat) (A2 : Option Addr) (c2 : Nat), v = .slice A2 j c2 ∧ i = .int .i64 (j : Int) ∧ j ≤ n ∧ wr.ownsRow w.heap.size 56 2 (.slice A2 j c2) j (((o.bl.take j).map (tP bl)).flatMap blkC) ∧ Blk wr gx 26 #[.int .u16 (o.mss : Int), .int .i64 o.scale, .bool o.sack, .slice A n c, .bool tm, .int .u32 (o.val : Int), .int .u32 (o.echo : Int)] ∧ Blk wr gr 26 #[.int .u16 0, .int .i64 0, .bool false, .slice none 0 0, .bool false, .int .u32 0, .int .u32 0] ∧ Below w.heap.size w wr)
    (fun _ i _ => n - (intOf i).toNat)
  case atStart => exact ⟨0, none, 0, rfl, rfl, Nat.zero_le _, Hown0.out, Hx.out, Hr.out, HB.out⟩
  case round =>
    obtain ⟨j, A2, c2, rfl, rfl, hj, hv2, hx, hr, hb⟩ := hrel
    have cx3 := hx.cell 3
    try simp at cx3
    by_cases hjn : j < n
    · have j1 : (j : Int) < (n : Int) := by omega
      have j0 : (0 : Int) ≤ (j : Int) := by omega
      obtain ⟨p, hp⟩ : ∃ p, o.bl[j]? = some p := ⟨_, List.getElem?_eq_getElem (by rw [← Hne.out]; exact hjn)⟩
      obtain ⟨⟨b1, b2⟩, b3, b4⟩ := Hw.out p (List.mem_of_getElem? hp)
      rcases Hbr.out with h | ⟨rb, off, hA, hrb, hc⟩
      · rw [h] at hp; simp at hp
      subst hA
      obtain ⟨x1, x2⟩ := hc j p hp
      have hbase : w.heap.size ≤ wr.heap.size := hb.size
      have y1 : wr.cell? ⟨rb, off + j * 2, none⟩ = some (.int .u32 p.1) := (hb.cell (p := ⟨rb, off + j * 2, none⟩) hrb).trans x1
      have y2 : wr.cell? ⟨rb, off + j * 2 + 1, none⟩ = some (.int .u32 p.2) := (hb.cell (p := ⟨rb, off + j * 2 + 1, none⟩) hrb).trans x2
      obtain ⟨row, hrw⟩ : ∃ row, (Value.slice A2 j c2).ownBlock = row := ⟨_, rfl⟩
      have t1 := own_blk_ne hv2 hx (by decide)
      rw [hrw] at t1
      have t2 := own_blk_ne hv2 hr (by decide)
      rw [hrw] at t2
      have t3 : row ≠ some rb := fun e => by have := (hv2.lt rb (hrw.trans e)).1; omega
      have hrb' : rb < wr.heap.size := by omega
      have hS0 : Out (fun i => row = some i) wr wr.drew := Out.of_below (Below.drew (Below.refl _ _))
      have ne : Nonempty (Cls (fun W => Out (fun i => row = some i) wr W)) := ⟨⟨_, hS0⟩⟩
      have q3 : ∀ y : Cls (fun W => Out (fun i => row = some i) wr W), y.w.cell? ⟨gx, 3, none⟩ = some (.slice (some ⟨rb, off, none⟩) n c) := fun y => (World.cell?_of_block (y.h.block gx hx.lt t1)).trans cx3
      have q1 : ∀ y : Cls (fun W => Out (fun i => row = some i) wr W), y.w.cell? ⟨rb, off + j * 2, none⟩ = some (.int .u32 p.1) := fun y => (World.cell?_of_block (y.h.block rb hrb' t3)).trans y1
      have q2 : ∀ y : Cls (fun W => Out (fun i => row = some i) wr W), y.w.cell? ⟨rb, off + j * 2 + 1, none⟩ = some (.int .u32 p.2) := fun y => (World.cell?_of_block (y.h.block rb hrb' t3)).trans y2
      have hSb : ∀ w w', Out (fun i => row = some i) wr w → Below w.heap.size w w' → Out (fun i => row = some i) wr w' := fun w w' h hb => Out.trans h (Out.of_below (O := fun _ => False) hb) (fun _ _ e => e.elim)
      obtain ⟨p1, p2⟩ := p
      dsimp only at b1 b2 b3 b4 y1 y2 q1 q2 x1 x2
      have rb1 : ∀ w : World, (Instr.buildSlice 23 1 #[(0, .agg #[.int .u32 ((p1 + (bl : Int)) % 4294967296), .int .u32 ((p2 + (bl : Int)) % 4294967296)])]).run Try.prog w = .ok (.slice (some ⟨w.heap.size, 0, none⟩) 1 1) (w.alloc (.cells #[.int .u32 ((p1 + (bl : Int)) % 4294967296), .int .u32 ((p2 + (bl : Int)) % 4294967296)] 56)) := fun _ => by kernel_rfl
      have hrl : ∀ q, row = some q → q < wr.heap.size := fun q hq => (hv2.lt q (hrw.trans hq)).2
      have hU0 : ∀ q ∈ ([(19, fun W => W.ownsRow w.heap.size 56 2 (.slice A2 j c2) j (((o.bl.take j).map (tP bl)).flatMap blkC))] : List (Nat × (World → Prop))), q.2 wr.drew := by
        intro q hq
        obtain rfl := List.mem_singleton.1 hq
        exact own_low hv2 (Below.drew (Below.refl _ _))
      have hUs : ∀ q ∈ ([(19, fun W => W.ownsRow w.heap.size 56 2 (.slice A2 j c2) j (((o.bl.take j).map (tP bl)).flatMap blkC))] : List (Nat × (World → Prop))), ∀ i w w', i ≠ q.1 → RApp 19 row i w w' → q.2 w → q.2 w' := by
        intro q hq i w w' hi hr hw
        obtain rfl := List.mem_singleton.1 hq
        exact own_low hw (hr.below hi)
      obtain ⟨i0, hi0, h0, h1, h22⟩ := info_parts_o infoBo
      clear x1 x2 y1 y2 hc
      have Hv2 := Lib.hid hv2
      clear hv2
      have Hx := Lib.hid hx
      clear hx
      have Hr := Lib.hid hr
      clear hr
      have Hb := Lib.hid hb
      clear hb
      have Hp := Lib.hid hp
      clear hp
      have Rb1 := Lib.hid rb1
      clear rb1
      have Hrl := Lib.hid hrl
      clear hrl
      have Hbase := Lib.hid hbase
      clear hbase
      have HU0 := Lib.hid hU0
      clear hU0
      have HUs := Lib.hid hUs
      clear hUs
      have Hi0 := Lib.hid hi0
      clear hi0
      have H0 := Lib.hid h0
      clear h0
      have H1 := Lib.hid h1
      clear h1
      have H22 := Lib.hid h22
      clear h22
      have HS0 := Lib.hid hS0
      clear hS0
      have Hrw := Lib.hid hrw
      clear hrw
      have HSb := Lib.hid hSb
      clear hSb
      have T1 := Lib.hid t1
      clear t1
      have T2 := Lib.hid t2
      clear t2
      have T3 := Lib.hid t3
      clear t3
      have Hrb := Lib.hid hrb
      clear hrb
      have Hrb' := Lib.hid hrb'
      clear hrb'
      go_upto_region 5 with fail
      clear cx3
      refine wp_region_flowu 20 (fun W => Out (fun i => row = some i) wr W) (RApp 19 row) [(19, fun W => W.ownsRow w.heap.size 56 2 (.slice A2 j c2) j (((o.bl.take j).map (tP bl)).flatMap blkC))] (by kernel_rfl) (by kernel_rfl) (by kernel_rfl) RApp.refl HUs.out HU0.out HS0.out ?_
      simp only [List.take_succ_cons, List.take_zero, List.drop_succ_cons, List.drop_zero]
      repeat (refine flowu_quiet RApp.refl rfl rfl rfl rfl ?_; intro K hK; go_big_quiet_op; go_big_quiet_on)
      refine flowx_build wr.heap.size (E := 56) #[(0, .agg #[.int .u32 ((p1 + (bl : Int)) % 4294967296), .int .u32 ((p2 + (bl : Int)) % 4294967296)])] ?_ #[.int .u32 ((p1 + (bl : Int)) % 4294967296), .int .u32 ((p2 + (bl : Int)) % 4294967296)] Rb1.out HSb.out (fun w h => h.size) Hrl.out rfl rfl rfl wr ?_
      focus (simp only [List.map_toArray, List.map_cons, List.map_nil]; rfl)
      intro K hK; go_big_quiet_op; go_big_quiet_on
      refine flowx_append wr.heap.size w.heap.size i0 _ 2 8 Try.underlying23 Hi0.out H0.out H1.out H22.out rfl (by decide) (.slice A2 j c2) j (((o.bl.take j).map (tP bl)).flatMap blkC) 1 #[.int .u32 ((p1 + (bl : Int)) % 4294967296), .int .u32 ((p2 + (bl : Int)) % 4294967296)] 0 rfl rfl rfl (of_decide_eq_true rfl) (fun f => rfl) Hrw.out rfl (fun w hw hut => hut _ List.mem_cons_self rfl) rfl (by intro u hu; simp at hu; rcases hu with rfl | rfl <;> rfl) (by simp only [maxLen]; omega) (by omega) (fun w h => Nat.le_trans Hbase.out h.size) (fun w h => h.size) (fun w w' h hg => Out.trans h (Out.mono (O := fun i => row = some i) ⟨hg.os, hg.tape, hg.output, hg.size, fun i hi hn => hg.block i hi (fun e => hn e.symm)⟩ (fun _ _ e => e)) (fun _ _ e => e)) rfl rfl wr ?_
      intro K hK; go_big_quiet_op; go_big_quiet_on
      refine flowu_nil ?_
      intro W5 f hW5 hF5
      obtain ⟨v', hv', hrow5, hvb5⟩ := hF5 _ (List.mem_cons_self)
      clear hF5
      injection hv' with hv'
      simp only [fillW, Act.put, List.setIfInBounds_toArray, List.set_cons_succ, List.set_cons_zero]
      rw [hv']
      generalize f 36 = v36
      clear hv' q3 q1 q2 ne hvb5
      obtain ⟨A1, k1, hv1, _⟩ := own_slice hrow5
      subst hv1
      have hg5 : wr.grownBy W5 row := ⟨hW5.os, hW5.tape, hW5.output, hW5.size, fun i hi hn => hW5.block i hi (fun e => hn e.symm)⟩
      have hx5 := Hx.out.grown hg5 (fun e => T1.out e.symm)
      have hr5 := Hr.out.grown hg5 (fun e => T2.out e.symm)
      have hb5 : Below w.heap.size w W5 := Hb.out.grown hg5 Hb.out.size (fun q hq => (Hv2.out.lt q (Hrw.out.trans hq)).1)
      have hv5 : W5.ownsRow w.heap.size 56 2 (.slice A1 (j + 1) k1) (j + 1) (((o.bl.take (j + 1)).map (tP bl)).flatMap blkC) := by
        rw [List.take_add_one, Hp.out, List.map_append, List.flatMap_append]
        exact hrow5
      clear hrow5 hg5 hW5
      have Hx5 := Lib.hid hx5
      clear hx5
      have Hr5 := Lib.hid hr5
      clear hr5
      have Hb5 := Lib.hid hb5
      clear hb5
      have Hv5 := Lib.hid hv5
      clear hv5
      go_wp2
      go_roundw
      case rel => exact ⟨j + 1, A1, k1, rfl, by go_num, by omega, Hv5.out, Hx5.out, Hr5.out, Hb5.out⟩
      case measure => simp [intOf]; omega
    · have j1 : ¬ (j : Int) < (n : Int) := by omega
      have hjn' : j = n := by omega
      subst hjn'
      have hv3 : wr.ownsRow w.heap.size 56 2 (.slice A2 j c2) j ((o.bl.map (tP bl)).flatMap blkC) := by
        rw [Hne.out, List.take_of_length_le (Nat.le_refl _)] at hv2
        rw [Hne.out]
        exact hv2
      have d0 := hx.cell 0
      have d1 := hx.cell 1
      have d2 := hx.cell 2
      have d3 := hx.cell 3
      have d4 := hx.cell 4
      have d5 := hx.cell 5
      have d6 := hx.cell 6
      simp at d0 d1 d2 d3 d4 d5 d6
      have frx := hx.frozen
      clear cx3 hv2 hj hjn
      have Hx := Lib.hid hx
      clear hx
      have Hr := Lib.hid hr
      clear hr
      have Hb := Lib.hid hb
      clear hb
      have Hv3 := Lib.hid hv3
      clear hv3
      cases tm with
      | true =>
        have i5 : (0 : Int) ≤ (o.val : Int) + (va : Int) := by omega
        have i6 : (0 : Int) ≤ (o.echo : Int) + (ec : Int) := by omega
        go_upto_region 10 with fail
        generalize hWf : World.setCell _ _ _ = W4
        have hx4 : Blk W4 gx 26 #[.int .u16 (o.mss : Int), .int .i64 o.scale, .bool o.sack, .slice A2 j c2, .bool true, .int .u32 (((o.val : Int) + (va : Int)) % 4294967296), .int .u32 (((o.echo : Int) + (ec : Int)) % 4294967296)] := by
          rw [← hWf]
          have := ((Hx.out.set_ 3 (.slice A2 j c2)).set_ 5 (.int .u32 (((o.val : Int) + (va : Int)) % 4294967296))).set_ 6 (.int .u32 (((o.echo : Int) + (ec : Int)) % 4294967296))
          simpa using this
        have hg4 : wr.grownBy W4 (some gx) := by
          rw [← hWf]
          repeat (refine only_set ?_ _ _)
          exact World.grownBy.refl _ _
        have hr4 := Hr.out.grown hg4 (fun e => hne_x_r (Option.some.inj e).symm)
        have hv4 := Hv3.out.kept hg4 (.inr (own_blk_ne Hv3.out Hx.out (by decide)))
        have hb4 : Below w.heap.size w W4 := Hb.out.grown hg4 Hb.out.size (fun q hq => by injection hq with hq; omega)
        have hop : ∀ A c, optC (turnO bl va ec o) A c = #[.int .u16 (o.mss : Int), .int .i64 o.scale, .bool o.sack, .slice A j c, .bool o.time, .int .u32 ((turnO bl va ec o).val : Int), .int .u32 ((turnO bl va ec o).echo : Int)] := fun A c => by
          rw [Hne.out]
          simp [optC, turnO]
        clear hWf hg4 d0 d1 d2 d3 d4 d5 d6 frx
        have Hx4 := Lib.hid hx4
        clear hx4
        have Hr4 := Lib.hid hr4
        clear hr4
        have Hv4 := Lib.hid hv4
        clear hv4
        have Hb4 := Lib.hid hb4
        clear hb4
        have Hop := Lib.hid hop
        clear hop
        have z0 := Hx4.out.cell 0
        have z1 := Hx4.out.cell 1
        have z2 := Hx4.out.cell 2
        have z3 := Hx4.out.cell 3
        have z4 := Hx4.out.cell 4
        have z5 := Hx4.out.cell 5
        have z6 := Hx4.out.cell 6
        simp at z0 z1 z2 z3 z4 z5 z6
        have y0 := Hr4.out.cell 0
        have y1 := Hr4.out.cell 1
        have y2 := Hr4.out.cell 2
        have y3 := Hr4.out.cell 3
        have y4 := Hr4.out.cell 4
        have y5 := Hr4.out.cell 5
        have y6 := Hr4.out.cell 6
        simp at y0 y1 y2 y3 y4 y5 y6
        have fr := Hr4.out.frozen
        go_wp2_with fail
        generalize hWf : World.setCell _ _ _ = Wf
        have hrF : Blk Wf gr 26 #[.int .u16 (o.mss : Int), .int .i64 o.scale, .bool o.sack, .slice A2 j c2, .bool true, .int .u32 (((o.val : Int) + (va : Int)) % 4294967296), .int .u32 (((o.echo : Int) + (ec : Int)) % 4294967296)] := by
          rw [← hWf]
          have := ((((((Hr4.out.set_ 0 (.int .u16 (o.mss : Int))).set_ 1 (.int .i64 o.scale)).set_ 2 (.bool o.sack)).set_ 3 (.slice A2 j c2)).set_ 4 (.bool true)).set_ 5 (.int .u32 (((o.val : Int) + (va : Int)) % 4294967296))).set_ 6 (.int .u32 (((o.echo : Int) + (ec : Int)) % 4294967296))
          simpa using this
        have hgF : W4.grownBy Wf (some gr) := by
          rw [← hWf]
          repeat (refine only_set ?_ _ _)
          exact World.grownBy.refl _ _
        have hvF := Hv4.out.kept hgF (.inr (own_blk_ne Hv4.out Hr4.out (by decide)))
        have hBF : Below w.heap.size w Wf := Hb4.out.grown hgF Hb4.out.size (fun q hq => by injection hq with hq; omega)
        clear hWf hgF z0 z1 z2 z3 z4 z5 z6 y0 y1 y2 y3 y4 y5 y6 fr
        obtain ⟨A5, c5, hAc, hbl5⟩ := own_blrC (l := o.bl.map (tP bl)) (v := .slice A2 j c2) (by rw [List.length_map, ← Hne.out]; exact hvF)
        injection hAc with e1 _ e3
        subst e1 e3
        have y0 := hrF.cell 0
        have y1 := hrF.cell 1
        have y2 := hrF.cell 2
        have y3 := hrF.cell 3
        have y4 := hrF.cell 4
        have y5 := hrF.cell 5
        have y6 := hrF.cell 6
        simp at y0 y1 y2 y3 y4 y5 y6
        exact bodyPost_ret (v := .agg #[.int .u16 (o.mss : Int), .int .i64 o.scale, .bool o.sack, .slice A2 j c2, .bool true, .int .u32 (((o.val : Int) + (va : Int)) % 4294967296), .int .u32 (((o.echo : Int) + (ec : Int)) % 4294967296)]) (by simp [results, Try.results21, go_sem, y0, y1, y2, y3, y4, y5, y6]) rfl ⟨A2, c2, by rw [Hop.out, ← Htm.out]; simp [turnO, ← Htm.out], hbl5, hBF⟩
      | false =>
        go_upto_region 10 with fail
        generalize hWf : World.setCell _ _ _ = W4
        have hx4 : Blk W4 gx 26 #[.int .u16 (o.mss : Int), .int .i64 o.scale, .bool o.sack, .slice A2 j c2, .bool false, .int .u32 (o.val : Int), .int .u32 (o.echo : Int)] := by
          rw [← hWf]
          have := Hx.out.set_ 3 (.slice A2 j c2)
          simpa using this
        have hg4 : wr.grownBy W4 (some gx) := by
          rw [← hWf]
          repeat (refine only_set ?_ _ _)
          exact World.grownBy.refl _ _
        have hr4 := Hr.out.grown hg4 (fun e => hne_x_r (Option.some.inj e).symm)
        have hv4 := Hv3.out.kept hg4 (.inr (own_blk_ne Hv3.out Hx.out (by decide)))
        have hb4 : Below w.heap.size w W4 := Hb.out.grown hg4 Hb.out.size (fun q hq => by injection hq with hq; omega)
        have hop : ∀ A c, optC (turnO bl va ec o) A c = #[.int .u16 (o.mss : Int), .int .i64 o.scale, .bool o.sack, .slice A j c, .bool o.time, .int .u32 ((turnO bl va ec o).val : Int), .int .u32 ((turnO bl va ec o).echo : Int)] := fun A c => by
          rw [Hne.out]
          simp [optC, turnO]
        clear hWf hg4 d0 d1 d2 d3 d4 d5 d6 frx
        have Hx4 := Lib.hid hx4
        clear hx4
        have Hr4 := Lib.hid hr4
        clear hr4
        have Hv4 := Lib.hid hv4
        clear hv4
        have Hb4 := Lib.hid hb4
        clear hb4
        have Hop := Lib.hid hop
        clear hop
        have z0 := Hx4.out.cell 0
        have z1 := Hx4.out.cell 1
        have z2 := Hx4.out.cell 2
        have z3 := Hx4.out.cell 3
        have z4 := Hx4.out.cell 4
        have z5 := Hx4.out.cell 5
        have z6 := Hx4.out.cell 6
        simp at z0 z1 z2 z3 z4 z5 z6
        have y0 := Hr4.out.cell 0
        have y1 := Hr4.out.cell 1
        have y2 := Hr4.out.cell 2
        have y3 := Hr4.out.cell 3
        have y4 := Hr4.out.cell 4
        have y5 := Hr4.out.cell 5
        have y6 := Hr4.out.cell 6
        simp at y0 y1 y2 y3 y4 y5 y6
        have fr := Hr4.out.frozen
        go_wp2_with fail
        generalize hWf : World.setCell _ _ _ = Wf
        have hrF : Blk Wf gr 26 #[.int .u16 (o.mss : Int), .int .i64 o.scale, .bool o.sack, .slice A2 j c2, .bool false, .int .u32 (o.val : Int), .int .u32 (o.echo : Int)] := by
          rw [← hWf]
          have := ((((((Hr4.out.set_ 0 (.int .u16 (o.mss : Int))).set_ 1 (.int .i64 o.scale)).set_ 2 (.bool o.sack)).set_ 3 (.slice A2 j c2)).set_ 4 (.bool false)).set_ 5 (.int .u32 (o.val : Int))).set_ 6 (.int .u32 (o.echo : Int))
          simpa using this
        have hgF : W4.grownBy Wf (some gr) := by
          rw [← hWf]
          repeat (refine only_set ?_ _ _)
          exact World.grownBy.refl _ _
        have hvF := Hv4.out.kept hgF (.inr (own_blk_ne Hv4.out Hr4.out (by decide)))
        have hBF : Below w.heap.size w Wf := Hb4.out.grown hgF Hb4.out.size (fun q hq => by injection hq with hq; omega)
        clear hWf hgF z0 z1 z2 z3 z4 z5 z6 y0 y1 y2 y3 y4 y5 y6 fr
        obtain ⟨A5, c5, hAc, hbl5⟩ := own_blrC (l := o.bl.map (tP bl)) (v := .slice A2 j c2) (by rw [List.length_map, ← Hne.out]; exact hvF)
        injection hAc with e1 _ e3
        subst e1 e3
        have y0 := hrF.cell 0
        have y1 := hrF.cell 1
        have y2 := hrF.cell 2
        have y3 := hrF.cell 3
        have y4 := hrF.cell 4
        have y5 := hrF.cell 5
        have y6 := hrF.cell 6
        simp at y0 y1 y2 y3 y4 y5 y6
        exact bodyPost_ret (v := .agg #[.int .u16 (o.mss : Int), .int .i64 o.scale, .bool o.sack, .slice A2 j c2, .bool false, .int .u32 (o.val : Int), .int .u32 (o.echo : Int)]) (by simp [results, Try.results21, go_sem, y0, y1, y2, y3, y4, y5, y6]) rfl ⟨A2, c2, by rw [Hop.out, ← Htm.out]; simp [turnO, ← Htm.out], hbl5, hBF⟩
end Go.Proofs.Ytimepplfaaddeaa
