/- The statement OptApart: options that are not the same have bytes that are not; options that are not known say nothing, wherever they stand between others; what stands behind the end is not looked at; for any two options, any bytes of an unknown one, any bytes behind. -/
import Derived.Test.YtimepplfaaddeaaOptAlive
import Derived.Test.YtimepplfaaddeaaOptOpen
set_option linter.unusedVariables false
set_option linter.unusedSimpArgs false
namespace Go.Proofs.Ytimepplfaaddeaa.optApart
open Go.ChangeShapes Go.WideShapes Go.ChangeAt Go.RowKit Go.BigFrame
open Go.ChangeMaps (open_string shut_string)

theorem raw_inj {o p : Op} (ho : o.wf) (hp : p.wf) (h1 : mayB o = true) (h2 : mayB p = true) (h : rawL o = rawL p) : o = p := by
  have h3 := dec_raw o ho h1
  rw [h, dec_raw p hp h2] at h3
  exact (Option.some.inj h3).symm
theorem enc_eq {o p : Op} (ho : o.wf) (hp : p.wf) (h1 : mayB o = true) (h2 : mayB p = true) : ((encR o).1.toList == (encR p).1.toList) = sameB o p := by
  have e1 : (encR o).1.toList = rawL o := by unfold encR; rw [if_pos h1, ByteArray.toList_eq]
  have e2 : (encR p).1.toList = rawL p := by unfold encR; rw [if_pos h2, ByteArray.toList_eq]
  rw [e1, e2, Bool.eq_iff_iff, sameB_iff, beq_iff_eq]
  exact ⟨raw_inj ho hp h1 h2, fun h => by rw [h]⟩
theorem enc_size (o : Op) : (encR o).1.size ≤ 40 := by
  unfold encR
  split
  · rename_i h
    exact (mayB_parts h).2.2.2
  · exact Nat.zero_le _
set_option maxRecDepth 100000 in
set_option maxHeartbeats 8000000 in
theorem walk (o : Op) (A : Option Addr) (c : Nat) (p : Op) (B : Option Addr) (e : Nat) (x z : ByteArray) (w : World) (w0 : OptF w o A c) (w1 : OptF w p B e) (w2 : x.size ≤ maxLen) (w3 : z.size ≤ maxLen) :
    Calls Try.prog 6 #[.agg (optC o A c), .agg (optC p B e), .string x, .string z] w fun e w' => e = .returned (.bool true) ∧ Below w.heap.size w w' := by
  have hal := alive07
  have hlo := fun W => long07_any W (o.mss : Int) o.scale (o.val : Int) (o.echo : Int) o.sack o.time A o.bl.length c
  have hlp := fun W => long07_any W (p.mss : Int) p.scale (p.val : Int) (p.echo : Int) p.sack p.time B p.bl.length e
  have hb0 : Below w.heap.size w w := Below.refl _ _
  have HB := Lib.hid hb0
  clear hb0
  unfold optC
  by_cases h1 : o.bl.length > 100
  · have j1 : decide ((o.bl.length : Int) > 100) = true := by simp; omega
    rw [j1] at hlo
    clear j1
    have Hal := Lib.hid hal
    clear hal
    have Hlo := Lib.hid hlo
    clear hlo
    have Hlp := Lib.hid hlp
    clear hlp
    go_enter Try.func6, Try.ntmps6
    go_upto_region 1 with fail
    have ho := Blk.alloc (Blk.new w 26 #[.int .u16 (o.mss : Int), .int .i64 o.scale, .bool o.sack, .slice A o.bl.length c, .bool o.time, .int .u32 (o.val : Int), .int .u32 (o.echo : Int)]) (.cells #[.int .u16 (p.mss : Int), .int .i64 p.scale, .bool p.sack, .slice B p.bl.length e, .bool p.time, .int .u32 (p.val : Int), .int .u32 (p.echo : Int)] 26)
    have hp := Blk.new (w.alloc (.cells #[.int .u16 (o.mss : Int), .int .i64 o.scale, .bool o.sack, .slice A o.bl.length c, .bool o.time, .int .u32 (o.val : Int), .int .u32 (o.echo : Int)] 26)) 26 #[.int .u16 (p.mss : Int), .int .i64 p.scale, .bool p.sack, .slice B p.bl.length e, .bool p.time, .int .u32 (p.val : Int), .int .u32 (p.echo : Int)]
    rw [show (w.alloc (.cells #[.int .u16 (o.mss : Int), .int .i64 o.scale, .bool o.sack, .slice A o.bl.length c, .bool o.time, .int .u32 (o.val : Int), .int .u32 (o.echo : Int)] 26)).heap.size = w.heap.size + 1 by simp] at hp
    have hB := Below.alloc (Below.alloc (HB.out) (Nat.le_trans HB.out.size (by simp <;> omega)) (.cells #[.int .u16 (o.mss : Int), .int .i64 o.scale, .bool o.sack, .slice A o.bl.length c, .bool o.time, .int .u32 (o.val : Int), .int .u32 (o.echo : Int)] 26)) (Nat.le_trans HB.out.size (by simp <;> omega)) (.cells #[.int .u16 (p.mss : Int), .int .i64 p.scale, .bool p.sack, .slice B p.bl.length e, .bool p.time, .int .u32 (p.val : Int), .int .u32 (p.echo : Int)] 26)
    clear HB
    obtain ⟨gp, hgep⟩ : ∃ g, g = w.heap.size + 1 := ⟨_, rfl⟩
    rw [← hgep] at hp ⊢
    obtain ⟨go, hgeo⟩ : ∃ g, g = w.heap.size := ⟨_, rfl⟩
    rw [← hgeo] at ho ⊢
    have hne_o_p : go ≠ gp := by omega
    have hle_o : w.heap.size ≤ go := by omega
    have hle_p : w.heap.size ≤ gp := by omega
    clear hgeo hgep
    generalize (w.alloc _).alloc _ = wn1 at *
    have Ho := Lib.hid ho
    clear ho
    have Hp := Lib.hid hp
    clear hp
    have HB := Lib.hid hB
    clear hB
    obtain ⟨W1, hwnW1⟩ : ∃ W, W = wn1 := ⟨_, rfl⟩
    rw [← hwnW1] at Ho Hp HB ⊢
    clear hwnW1
    have d0 := Ho.out.cell 0
    have d1 := Ho.out.cell 1
    have d2 := Ho.out.cell 2
    have d3 := Ho.out.cell 3
    have d4 := Ho.out.cell 4
    have d5 := Ho.out.cell 5
    have d6 := Ho.out.cell 6
    simp at d0 d1 d2 d3 d4 d5 d6
    go_wp2_with fail
    (with_reducible refine (Hlo.out _).mono ?_)
    rintro e w2 ⟨rfl, hbq⟩
    have ho := Ho.out.below hbq Ho.out.lt
    clear Ho
    have Ho := Lib.hid ho
    clear ho
    have hp := Hp.out.below hbq Hp.out.lt
    clear Hp
    have Hp := Lib.hid hp
    clear hp
    have hB := HB.out.trans (hbq.mono HB.out.size)
    clear HB
    have HB := Lib.hid hB
    clear hB
    clear hbq
    clear d0 d1 d2 d3 d4 d5 d6
    go_wp2_with fail
    (with_reducible refine (Hal.out _).mono ?_)
    rintro e w9 ⟨rfl, hbq⟩
    have ho := Ho.out.below hbq Ho.out.lt
    clear Ho
    have Ho := Lib.hid ho
    clear ho
    have hp := Hp.out.below hbq Hp.out.lt
    clear Hp
    have Hp := Lib.hid hp
    clear hp
    have hB := HB.out.trans (hbq.mono HB.out.size)
    clear HB
    have HB := Lib.hid hB
    clear hB
    clear hbq
    go_wp2
    go_ret
    exact ⟨rfl, HB.out⟩
  have j1 : decide ((o.bl.length : Int) > 100) = false := by simp; omega
  rw [j1] at hlo
  clear j1
  by_cases h2 : p.bl.length > 100
  · have j1 : decide ((p.bl.length : Int) > 100) = true := by simp; omega
    rw [j1] at hlp
    clear j1
    have Hal := Lib.hid hal
    clear hal
    have Hlo := Lib.hid hlo
    clear hlo
    have Hlp := Lib.hid hlp
    clear hlp
    go_enter Try.func6, Try.ntmps6
    go_upto_region 1 with fail
    have ho := Blk.alloc (Blk.new w 26 #[.int .u16 (o.mss : Int), .int .i64 o.scale, .bool o.sack, .slice A o.bl.length c, .bool o.time, .int .u32 (o.val : Int), .int .u32 (o.echo : Int)]) (.cells #[.int .u16 (p.mss : Int), .int .i64 p.scale, .bool p.sack, .slice B p.bl.length e, .bool p.time, .int .u32 (p.val : Int), .int .u32 (p.echo : Int)] 26)
    have hp := Blk.new (w.alloc (.cells #[.int .u16 (o.mss : Int), .int .i64 o.scale, .bool o.sack, .slice A o.bl.length c, .bool o.time, .int .u32 (o.val : Int), .int .u32 (o.echo : Int)] 26)) 26 #[.int .u16 (p.mss : Int), .int .i64 p.scale, .bool p.sack, .slice B p.bl.length e, .bool p.time, .int .u32 (p.val : Int), .int .u32 (p.echo : Int)]
    rw [show (w.alloc (.cells #[.int .u16 (o.mss : Int), .int .i64 o.scale, .bool o.sack, .slice A o.bl.length c, .bool o.time, .int .u32 (o.val : Int), .int .u32 (o.echo : Int)] 26)).heap.size = w.heap.size + 1 by simp] at hp
    have hB := Below.alloc (Below.alloc (HB.out) (Nat.le_trans HB.out.size (by simp <;> omega)) (.cells #[.int .u16 (o.mss : Int), .int .i64 o.scale, .bool o.sack, .slice A o.bl.length c, .bool o.time, .int .u32 (o.val : Int), .int .u32 (o.echo : Int)] 26)) (Nat.le_trans HB.out.size (by simp <;> omega)) (.cells #[.int .u16 (p.mss : Int), .int .i64 p.scale, .bool p.sack, .slice B p.bl.length e, .bool p.time, .int .u32 (p.val : Int), .int .u32 (p.echo : Int)] 26)
    clear HB
    obtain ⟨gp, hgep⟩ : ∃ g, g = w.heap.size + 1 := ⟨_, rfl⟩
    rw [← hgep] at hp ⊢
    obtain ⟨go, hgeo⟩ : ∃ g, g = w.heap.size := ⟨_, rfl⟩
    rw [← hgeo] at ho ⊢
    have hne_o_p : go ≠ gp := by omega
    have hle_o : w.heap.size ≤ go := by omega
    have hle_p : w.heap.size ≤ gp := by omega
    clear hgeo hgep
    generalize (w.alloc _).alloc _ = wn4 at *
    have Ho := Lib.hid ho
    clear ho
    have Hp := Lib.hid hp
    clear hp
    have HB := Lib.hid hB
    clear hB
    obtain ⟨W1, hwnW1⟩ : ∃ W, W = wn4 := ⟨_, rfl⟩
    rw [← hwnW1] at Ho Hp HB ⊢
    clear hwnW1
    have d0 := Ho.out.cell 0
    have d1 := Ho.out.cell 1
    have d2 := Ho.out.cell 2
    have d3 := Ho.out.cell 3
    have d4 := Ho.out.cell 4
    have d5 := Ho.out.cell 5
    have d6 := Ho.out.cell 6
    simp at d0 d1 d2 d3 d4 d5 d6
    go_wp2_with fail
    (with_reducible refine (Hlo.out _).mono ?_)
    rintro e w2 ⟨rfl, hbq⟩
    have ho := Ho.out.below hbq Ho.out.lt
    clear Ho
    have Ho := Lib.hid ho
    clear ho
    have hp := Hp.out.below hbq Hp.out.lt
    clear Hp
    have Hp := Lib.hid hp
    clear hp
    have hB := HB.out.trans (hbq.mono HB.out.size)
    clear HB
    have HB := Lib.hid hB
    clear hB
    clear hbq
    clear d0 d1 d2 d3 d4 d5 d6
    have f0 := Hp.out.cell 0
    have f1 := Hp.out.cell 1
    have f2 := Hp.out.cell 2
    have f3 := Hp.out.cell 3
    have f4 := Hp.out.cell 4
    have f5 := Hp.out.cell 5
    have f6 := Hp.out.cell 6
    simp at f0 f1 f2 f3 f4 f5 f6
    go_wp2_with fail
    (with_reducible refine (Hlp.out _).mono ?_)
    rintro e w3 ⟨rfl, hbq⟩
    have ho := Ho.out.below hbq Ho.out.lt
    clear Ho
    have Ho := Lib.hid ho
    clear ho
    have hp := Hp.out.below hbq Hp.out.lt
    clear Hp
    have Hp := Lib.hid hp
    clear hp
    have hB := HB.out.trans (hbq.mono HB.out.size)
    clear HB
    have HB := Lib.hid hB
    clear hB
    clear hbq
    go_wp2_with fail
    (with_reducible refine (Hal.out _).mono ?_)
    rintro e w9 ⟨rfl, hbq⟩
    have ho := Ho.out.below hbq Ho.out.lt
    clear Ho
    have Ho := Lib.hid ho
    clear ho
    have hp := Hp.out.below hbq Hp.out.lt
    clear Hp
    have Hp := Lib.hid hp
    clear hp
    have hB := HB.out.trans (hbq.mono HB.out.size)
    clear HB
    have HB := Lib.hid hB
    clear hB
    clear hbq
    go_wp2
    go_ret
    exact ⟨rfl, HB.out⟩
  have j1 : decide ((p.bl.length : Int) > 100) = false := by simp; omega
  rw [j1] at hlp
  clear j1
  by_cases h3 : 20 < x.size
  · have j3 : (20 : Int) < (x.size : Int) := by omega
    have Hal := Lib.hid hal
    clear hal
    have Hlo := Lib.hid hlo
    clear hlo
    have Hlp := Lib.hid hlp
    clear hlp
    go_enter Try.func6, Try.ntmps6
    go_upto_region 1 with fail
    have ho := Blk.alloc (Blk.new w 26 #[.int .u16 (o.mss : Int), .int .i64 o.scale, .bool o.sack, .slice A o.bl.length c, .bool o.time, .int .u32 (o.val : Int), .int .u32 (o.echo : Int)]) (.cells #[.int .u16 (p.mss : Int), .int .i64 p.scale, .bool p.sack, .slice B p.bl.length e, .bool p.time, .int .u32 (p.val : Int), .int .u32 (p.echo : Int)] 26)
    have hp := Blk.new (w.alloc (.cells #[.int .u16 (o.mss : Int), .int .i64 o.scale, .bool o.sack, .slice A o.bl.length c, .bool o.time, .int .u32 (o.val : Int), .int .u32 (o.echo : Int)] 26)) 26 #[.int .u16 (p.mss : Int), .int .i64 p.scale, .bool p.sack, .slice B p.bl.length e, .bool p.time, .int .u32 (p.val : Int), .int .u32 (p.echo : Int)]
    rw [show (w.alloc (.cells #[.int .u16 (o.mss : Int), .int .i64 o.scale, .bool o.sack, .slice A o.bl.length c, .bool o.time, .int .u32 (o.val : Int), .int .u32 (o.echo : Int)] 26)).heap.size = w.heap.size + 1 by simp] at hp
    have hB := Below.alloc (Below.alloc (HB.out) (Nat.le_trans HB.out.size (by simp <;> omega)) (.cells #[.int .u16 (o.mss : Int), .int .i64 o.scale, .bool o.sack, .slice A o.bl.length c, .bool o.time, .int .u32 (o.val : Int), .int .u32 (o.echo : Int)] 26)) (Nat.le_trans HB.out.size (by simp <;> omega)) (.cells #[.int .u16 (p.mss : Int), .int .i64 p.scale, .bool p.sack, .slice B p.bl.length e, .bool p.time, .int .u32 (p.val : Int), .int .u32 (p.echo : Int)] 26)
    clear HB
    obtain ⟨gp, hgep⟩ : ∃ g, g = w.heap.size + 1 := ⟨_, rfl⟩
    rw [← hgep] at hp ⊢
    obtain ⟨go, hgeo⟩ : ∃ g, g = w.heap.size := ⟨_, rfl⟩
    rw [← hgeo] at ho ⊢
    have hne_o_p : go ≠ gp := by omega
    have hle_o : w.heap.size ≤ go := by omega
    have hle_p : w.heap.size ≤ gp := by omega
    clear hgeo hgep
    generalize (w.alloc _).alloc _ = wn8 at *
    have Ho := Lib.hid ho
    clear ho
    have Hp := Lib.hid hp
    clear hp
    have HB := Lib.hid hB
    clear hB
    obtain ⟨W1, hwnW1⟩ : ∃ W, W = wn8 := ⟨_, rfl⟩
    rw [← hwnW1] at Ho Hp HB ⊢
    clear hwnW1
    have d0 := Ho.out.cell 0
    have d1 := Ho.out.cell 1
    have d2 := Ho.out.cell 2
    have d3 := Ho.out.cell 3
    have d4 := Ho.out.cell 4
    have d5 := Ho.out.cell 5
    have d6 := Ho.out.cell 6
    simp at d0 d1 d2 d3 d4 d5 d6
    go_wp2_with fail
    (with_reducible refine (Hlo.out _).mono ?_)
    rintro e w2 ⟨rfl, hbq⟩
    have ho := Ho.out.below hbq Ho.out.lt
    clear Ho
    have Ho := Lib.hid ho
    clear ho
    have hp := Hp.out.below hbq Hp.out.lt
    clear Hp
    have Hp := Lib.hid hp
    clear hp
    have hB := HB.out.trans (hbq.mono HB.out.size)
    clear HB
    have HB := Lib.hid hB
    clear hB
    clear hbq
    clear d0 d1 d2 d3 d4 d5 d6
    have f0 := Hp.out.cell 0
    have f1 := Hp.out.cell 1
    have f2 := Hp.out.cell 2
    have f3 := Hp.out.cell 3
    have f4 := Hp.out.cell 4
    have f5 := Hp.out.cell 5
    have f6 := Hp.out.cell 6
    simp at f0 f1 f2 f3 f4 f5 f6
    go_wp2_with fail
    (with_reducible refine (Hlp.out _).mono ?_)
    rintro e w3 ⟨rfl, hbq⟩
    have ho := Ho.out.below hbq Ho.out.lt
    clear Ho
    have Ho := Lib.hid ho
    clear ho
    have hp := Hp.out.below hbq Hp.out.lt
    clear Hp
    have Hp := Lib.hid hp
    clear hp
    have hB := HB.out.trans (hbq.mono HB.out.size)
    clear HB
    have HB := Lib.hid hB
    clear hB
    clear hbq
    go_wp2_with fail
    (with_reducible refine (Hal.out _).mono ?_)
    rintro e w9 ⟨rfl, hbq⟩
    have ho := Ho.out.below hbq Ho.out.lt
    clear Ho
    have Ho := Lib.hid ho
    clear ho
    have hp := Hp.out.below hbq Hp.out.lt
    clear Hp
    have Hp := Lib.hid hp
    clear hp
    have hB := HB.out.trans (hbq.mono HB.out.size)
    clear HB
    have HB := Lib.hid hB
    clear hB
    clear hbq
    go_wp2
    go_ret
    exact ⟨rfl, HB.out⟩
  have j3 : ¬ (20 : Int) < (x.size : Int) := by omega
  by_cases h4 : 20 < z.size
  · have j4 : (20 : Int) < (z.size : Int) := by omega
    have Hal := Lib.hid hal
    clear hal
    have Hlo := Lib.hid hlo
    clear hlo
    have Hlp := Lib.hid hlp
    clear hlp
    go_enter Try.func6, Try.ntmps6
    go_upto_region 1 with fail
    have ho := Blk.alloc (Blk.new w 26 #[.int .u16 (o.mss : Int), .int .i64 o.scale, .bool o.sack, .slice A o.bl.length c, .bool o.time, .int .u32 (o.val : Int), .int .u32 (o.echo : Int)]) (.cells #[.int .u16 (p.mss : Int), .int .i64 p.scale, .bool p.sack, .slice B p.bl.length e, .bool p.time, .int .u32 (p.val : Int), .int .u32 (p.echo : Int)] 26)
    have hp := Blk.new (w.alloc (.cells #[.int .u16 (o.mss : Int), .int .i64 o.scale, .bool o.sack, .slice A o.bl.length c, .bool o.time, .int .u32 (o.val : Int), .int .u32 (o.echo : Int)] 26)) 26 #[.int .u16 (p.mss : Int), .int .i64 p.scale, .bool p.sack, .slice B p.bl.length e, .bool p.time, .int .u32 (p.val : Int), .int .u32 (p.echo : Int)]
    rw [show (w.alloc (.cells #[.int .u16 (o.mss : Int), .int .i64 o.scale, .bool o.sack, .slice A o.bl.length c, .bool o.time, .int .u32 (o.val : Int), .int .u32 (o.echo : Int)] 26)).heap.size = w.heap.size + 1 by simp] at hp
    have hB := Below.alloc (Below.alloc (HB.out) (Nat.le_trans HB.out.size (by simp <;> omega)) (.cells #[.int .u16 (o.mss : Int), .int .i64 o.scale, .bool o.sack, .slice A o.bl.length c, .bool o.time, .int .u32 (o.val : Int), .int .u32 (o.echo : Int)] 26)) (Nat.le_trans HB.out.size (by simp <;> omega)) (.cells #[.int .u16 (p.mss : Int), .int .i64 p.scale, .bool p.sack, .slice B p.bl.length e, .bool p.time, .int .u32 (p.val : Int), .int .u32 (p.echo : Int)] 26)
    clear HB
    obtain ⟨gp, hgep⟩ : ∃ g, g = w.heap.size + 1 := ⟨_, rfl⟩
    rw [← hgep] at hp ⊢
    obtain ⟨go, hgeo⟩ : ∃ g, g = w.heap.size := ⟨_, rfl⟩
    rw [← hgeo] at ho ⊢
    have hne_o_p : go ≠ gp := by omega
    have hle_o : w.heap.size ≤ go := by omega
    have hle_p : w.heap.size ≤ gp := by omega
    clear hgeo hgep
    generalize (w.alloc _).alloc _ = wn12 at *
    have Ho := Lib.hid ho
    clear ho
    have Hp := Lib.hid hp
    clear hp
    have HB := Lib.hid hB
    clear hB
    obtain ⟨W1, hwnW1⟩ : ∃ W, W = wn12 := ⟨_, rfl⟩
    rw [← hwnW1] at Ho Hp HB ⊢
    clear hwnW1
    have d0 := Ho.out.cell 0
    have d1 := Ho.out.cell 1
    have d2 := Ho.out.cell 2
    have d3 := Ho.out.cell 3
    have d4 := Ho.out.cell 4
    have d5 := Ho.out.cell 5
    have d6 := Ho.out.cell 6
    simp at d0 d1 d2 d3 d4 d5 d6
    go_wp2_with fail
    (with_reducible refine (Hlo.out _).mono ?_)
    rintro e w2 ⟨rfl, hbq⟩
    have ho := Ho.out.below hbq Ho.out.lt
    clear Ho
    have Ho := Lib.hid ho
    clear ho
    have hp := Hp.out.below hbq Hp.out.lt
    clear Hp
    have Hp := Lib.hid hp
    clear hp
    have hB := HB.out.trans (hbq.mono HB.out.size)
    clear HB
    have HB := Lib.hid hB
    clear hB
    clear hbq
    clear d0 d1 d2 d3 d4 d5 d6
    have f0 := Hp.out.cell 0
    have f1 := Hp.out.cell 1
    have f2 := Hp.out.cell 2
    have f3 := Hp.out.cell 3
    have f4 := Hp.out.cell 4
    have f5 := Hp.out.cell 5
    have f6 := Hp.out.cell 6
    simp at f0 f1 f2 f3 f4 f5 f6
    go_wp2_with fail
    (with_reducible refine (Hlp.out _).mono ?_)
    rintro e w3 ⟨rfl, hbq⟩
    have ho := Ho.out.below hbq Ho.out.lt
    clear Ho
    have Ho := Lib.hid ho
    clear ho
    have hp := Hp.out.below hbq Hp.out.lt
    clear Hp
    have Hp := Lib.hid hp
    clear hp
    have hB := HB.out.trans (hbq.mono HB.out.size)
    clear HB
    have HB := Lib.hid hB
    clear hB
    clear hbq
    go_wp2_with fail
    (with_reducible refine (Hal.out _).mono ?_)
    rintro e w9 ⟨rfl, hbq⟩
    have ho := Ho.out.below hbq Ho.out.lt
    clear Ho
    have Ho := Lib.hid ho
    clear ho
    have hp := Hp.out.below hbq Hp.out.lt
    clear Hp
    have Hp := Lib.hid hp
    clear hp
    have hB := HB.out.trans (hbq.mono HB.out.size)
    clear HB
    have HB := Lib.hid hB
    clear hB
    clear hbq
    go_wp2
    go_ret
    exact ⟨rfl, HB.out⟩
  have j4 : ¬ (20 : Int) < (z.size : Int) := by omega
  obtain ⟨ow, obr, ob1, ob2⟩ := w0
  obtain ⟨pw, pbr, pb1, pb2⟩ := w1
  have oe := fun W (hW : Below w.heap.size w W) => enc_any W o A c ow (obr.below hW) (by omega)
  have pe := fun W (hW : Below w.heap.size w W) => enc_any W p B e pw (pbr.below hW) (by omega)
  have os := fun W (hW : Below w.heap.size w W) => same_any W o p A B c e (obr.below hW) (pbr.below hW) (by simp only [maxLen]; omega) (by simp only [maxLen]; omega)
  have heq := fun h1 h2 => enc_eq ow pw (o := o) (p := p) h1 h2
  have hes := enc_size o
  have hc1 : (encR o).2 = if mayB o = true then 0 else 2 := by unfold encR; split <;> rfl
  have hc2 : (encR p).2 = if mayB p = true then 0 else 2 := by unfold encR; split <;> rfl
  have hraw : mayB o = true → (encR o).1.data.toList = rawL o := fun h => by unfold encR; rw [if_pos h]
  generalize encR o = E at *
  generalize encR p = F at *
  obtain ⟨s, ce⟩ := E
  obtain ⟨t, cf⟩ := F
  dsimp only at *
  obtain ⟨n, hn⟩ : ∃ n, n = x.size := ⟨_, rfl⟩
  have n20 : (n : Int) ≤ 20 := by omega
  obtain ⟨bb, hbb⟩ : ∃ b : UInt8, b = UInt8.ofNat (2 + n) := ⟨_, rfl⟩
  obtain ⟨K, hK⟩ : ∃ X : ByteArray, X = ⟨[bb].toArray⟩ := ⟨_, rfl⟩
  have hKs : K.size = 1 := by rw [hK]; rfl
  have hkc : ∀ W : World, (convert 46 9 (.slice (some ⟨W.heap.size, 0, none⟩) 1 1)).run Try.prog (W.alloc (.cells #[.int .u8 (2 + (n : Int))] 5)) = .ok (.string K) (W.alloc (.cells #[.int .u8 (2 + (n : Int))] 5)) := fun W => by
    rw [hK]
    exact conv_new W [bb] 1 #[.int .u8 (2 + (n : Int))] rfl (by rw [hbb]; simp only [List.map_cons, List.map_nil, u8v, u8b]; rw [show (((2 + n : Nat) : Int) % 256) = 2 + (n : Int) by omega])
  obtain ⟨X1, hX1⟩ : ∃ X : ByteArray, X = ⟨#[30]⟩ ++ K := ⟨_, rfl⟩
  obtain ⟨X, hX⟩ : ∃ Z : ByteArray, Z = X1 ++ x := ⟨_, rfl⟩
  obtain ⟨Y1, hY1⟩ : ∃ Z : ByteArray, Z = X ++ s := ⟨_, rfl⟩
  obtain ⟨Y2, hY2⟩ : ∃ Z : ByteArray, Z = Y1 ++ X := ⟨_, rfl⟩
  obtain ⟨Y3, hY3⟩ : ∃ Z : ByteArray, Z = Y2 ++ ⟨#[0]⟩ := ⟨_, rfl⟩
  obtain ⟨u, hu⟩ : ∃ Z : ByteArray, Z = Y3 ++ z := ⟨_, rfl⟩
  have s1 : X1.size = 2 := by rw [hX1, ByteArray.size_append, hKs]; rfl
  have s2 : X.size = 2 + n := by rw [hX, ByteArray.size_append, s1]; omega
  have s3 : Y1.size = 2 + n + s.size := by rw [hY1, ByteArray.size_append, s2]
  have s4 : Y2.size = 2 + n + s.size + (2 + n) := by rw [hY2, ByteArray.size_append, s3, s2]
  have s5 : Y3.size = 2 + n + s.size + (2 + n) + 1 := by rw [hY3, ByteArray.size_append, s4]; rfl
  have r1 : ∀ W, (Op.stringOp .add ⟨#[30]⟩ K).run Try.prog W = .ok (.string X1) W := fun W => by rw [hX1]; exact cat_run _ _ (by rw [hKs]; show 1 + 1 ≤ 100000; omega) W
  have r2 : ∀ W, (Op.stringOp .add X1 x).run Try.prog W = .ok (.string X) W := fun W => by rw [hX]; exact cat_run _ _ (by omega) W
  have r3 : ∀ W, (Op.stringOp .add X s).run Try.prog W = .ok (.string Y1) W := fun W => by rw [hY1]; exact cat_run _ _ (by omega) W
  have r4 : ∀ W, (Op.stringOp .add Y1 X).run Try.prog W = .ok (.string Y2) W := fun W => by rw [hY2]; exact cat_run _ _ (by omega) W
  have r5 : ∀ W, (Op.stringOp .add Y2 ⟨#[0]⟩).run Try.prog W = .ok (.string Y3) W := fun W => by rw [hY3]; exact cat_run _ _ (by rw [s4]; show _ + 1 ≤ _; omega) W
  have r6 : ∀ W, (Op.stringOp .add Y3 z).run Try.prog W = .ok (.string u) W := fun W => by rw [hu]; exact cat_run _ _ (by omega) W
  have hul : mayB o = true → u.data.toList = (30 : UInt8) :: bb :: (x.data.toList ++ (rawL o ++ (30 :: bb :: (x.data.toList ++ (0 :: z.data.toList))))) := fun h => by
    rw [hu, hY3, hY2, hY1, hX, hX1, hK]
    simp [ByteArray.data_append, hraw h]
  have hdec : mayB o = true → ¬ 40 < u.size → decR u.data.toList = (o, 0) := fun h h40 => by
    have h2 := dec_among o ow h (30 : UInt8) bb x.data.toList z.data.toList rfl (by rw [hbb, UInt8.toNat_ofNat']; simp; omega)
    unfold decR
    rw [if_neg (by simpa using h40), hul h, h2]
  have d1 := dec_any u
  clear hul hraw hK hKs hbb hX1 hX hY1 hY2 hY3 hu s1 s2 s3 s4 s5 hes
  clear ow pw ob1 ob2 pb1 pb2 w2 w3
  unfold optC at oe pe os
  have Hkc := Lib.hid hkc
  clear hkc
  have Oe := Lib.hid oe
  clear oe
  have Pe := Lib.hid pe
  clear pe
  have Os := Lib.hid os
  clear os
  have D1 := Lib.hid d1
  clear d1
  have H1 := Lib.hid h1
  clear h1
  have H2 := Lib.hid h2
  clear h2
  have H3 := Lib.hid h3
  clear h3
  have H4 := Lib.hid h4
  clear h4
  have Obr := Lib.hid obr
  clear obr
  have Pbr := Lib.hid pbr
  clear pbr
  have Hdec := Lib.hid hdec
  clear hdec
  have hsz : x.size = n := hn.symm
  clear hn
  cases hmo : mayB o with
  | true =>
    rw [hmo, if_pos rfl] at hc1
    rw [hmo] at heq
    cases hmp : mayB p with
    | true =>
      rw [hmp, if_pos rfl] at hc2
      rw [hmp] at heq
      have hst := heq rfl rfl
      subst hc1 hc2
      clear heq
      generalize sameB o p = V at *
      have Hmo := Lib.hid hmo
      clear hmo
      have Hmp := Lib.hid hmp
      clear hmp
      have Hal := Lib.hid hal
      clear hal
      have Hlo := Lib.hid hlo
      clear hlo
      have Hlp := Lib.hid hlp
      clear hlp
      go_enter Try.func6, Try.ntmps6
      go_upto_region 1 with fail
      have ho := Blk.alloc (Blk.new w 26 #[.int .u16 (o.mss : Int), .int .i64 o.scale, .bool o.sack, .slice A o.bl.length c, .bool o.time, .int .u32 (o.val : Int), .int .u32 (o.echo : Int)]) (.cells #[.int .u16 (p.mss : Int), .int .i64 p.scale, .bool p.sack, .slice B p.bl.length e, .bool p.time, .int .u32 (p.val : Int), .int .u32 (p.echo : Int)] 26)
      have hp := Blk.new (w.alloc (.cells #[.int .u16 (o.mss : Int), .int .i64 o.scale, .bool o.sack, .slice A o.bl.length c, .bool o.time, .int .u32 (o.val : Int), .int .u32 (o.echo : Int)] 26)) 26 #[.int .u16 (p.mss : Int), .int .i64 p.scale, .bool p.sack, .slice B p.bl.length e, .bool p.time, .int .u32 (p.val : Int), .int .u32 (p.echo : Int)]
      rw [show (w.alloc (.cells #[.int .u16 (o.mss : Int), .int .i64 o.scale, .bool o.sack, .slice A o.bl.length c, .bool o.time, .int .u32 (o.val : Int), .int .u32 (o.echo : Int)] 26)).heap.size = w.heap.size + 1 by simp] at hp
      have hB := Below.alloc (Below.alloc (HB.out) (Nat.le_trans HB.out.size (by simp <;> omega)) (.cells #[.int .u16 (o.mss : Int), .int .i64 o.scale, .bool o.sack, .slice A o.bl.length c, .bool o.time, .int .u32 (o.val : Int), .int .u32 (o.echo : Int)] 26)) (Nat.le_trans HB.out.size (by simp <;> omega)) (.cells #[.int .u16 (p.mss : Int), .int .i64 p.scale, .bool p.sack, .slice B p.bl.length e, .bool p.time, .int .u32 (p.val : Int), .int .u32 (p.echo : Int)] 26)
      clear HB
      obtain ⟨gp, hgep⟩ : ∃ g, g = w.heap.size + 1 := ⟨_, rfl⟩
      rw [← hgep] at hp ⊢
      obtain ⟨go, hgeo⟩ : ∃ g, g = w.heap.size := ⟨_, rfl⟩
      rw [← hgeo] at ho ⊢
      have hne_o_p : go ≠ gp := by omega
      have hle_o : w.heap.size ≤ go := by omega
      have hle_p : w.heap.size ≤ gp := by omega
      clear hgeo hgep
      generalize (w.alloc _).alloc _ = wn16 at *
      have Ho := Lib.hid ho
      clear ho
      have Hp := Lib.hid hp
      clear hp
      have HB := Lib.hid hB
      clear hB
      obtain ⟨W1, hwnW1⟩ : ∃ W, W = wn16 := ⟨_, rfl⟩
      rw [← hwnW1] at Ho Hp HB ⊢
      clear hwnW1
      have d0 := Ho.out.cell 0
      have d1 := Ho.out.cell 1
      have d2 := Ho.out.cell 2
      have d3 := Ho.out.cell 3
      have d4 := Ho.out.cell 4
      have d5 := Ho.out.cell 5
      have d6 := Ho.out.cell 6
      simp at d0 d1 d2 d3 d4 d5 d6
      go_wp2_with fail
      (with_reducible refine (Hlo.out _).mono ?_)
      rintro e w2 ⟨rfl, hbq⟩
      have ho := Ho.out.below hbq Ho.out.lt
      clear Ho
      have Ho := Lib.hid ho
      clear ho
      have hp := Hp.out.below hbq Hp.out.lt
      clear Hp
      have Hp := Lib.hid hp
      clear hp
      have hB := HB.out.trans (hbq.mono HB.out.size)
      clear HB
      have HB := Lib.hid hB
      clear hB
      clear hbq
      clear d0 d1 d2 d3 d4 d5 d6
      have f0 := Hp.out.cell 0
      have f1 := Hp.out.cell 1
      have f2 := Hp.out.cell 2
      have f3 := Hp.out.cell 3
      have f4 := Hp.out.cell 4
      have f5 := Hp.out.cell 5
      have f6 := Hp.out.cell 6
      simp at f0 f1 f2 f3 f4 f5 f6
      go_wp2_with fail
      (with_reducible refine (Hlp.out _).mono ?_)
      rintro e w3 ⟨rfl, hbq⟩
      have ho := Ho.out.below hbq Ho.out.lt
      clear Ho
      have Ho := Lib.hid ho
      clear ho
      have hp := Hp.out.below hbq Hp.out.lt
      clear Hp
      have Hp := Lib.hid hp
      clear hp
      have hB := HB.out.trans (hbq.mono HB.out.size)
      clear HB
      have HB := Lib.hid hB
      clear hB
      clear hbq
      clear f0 f1 f2 f3 f4 f5 f6
      have d0 := Ho.out.cell 0
      have d1 := Ho.out.cell 1
      have d2 := Ho.out.cell 2
      have d3 := Ho.out.cell 3
      have d4 := Ho.out.cell 4
      have d5 := Ho.out.cell 5
      have d6 := Ho.out.cell 6
      simp at d0 d1 d2 d3 d4 d5 d6
      go_wp2_with fail
      (with_reducible refine (Oe.out _ HB.out).mono ?_)
      rintro e w4 ⟨rfl, hbq⟩
      have ho := Ho.out.below hbq Ho.out.lt
      clear Ho
      have Ho := Lib.hid ho
      clear ho
      have hp := Hp.out.below hbq Hp.out.lt
      clear Hp
      have Hp := Lib.hid hp
      clear hp
      have hB := HB.out.trans (hbq.mono HB.out.size)
      clear HB
      have HB := Lib.hid hB
      clear hB
      clear hbq
      clear d0 d1 d2 d3 d4 d5 d6
      have f0 := Hp.out.cell 0
      have f1 := Hp.out.cell 1
      have f2 := Hp.out.cell 2
      have f3 := Hp.out.cell 3
      have f4 := Hp.out.cell 4
      have f5 := Hp.out.cell 5
      have f6 := Hp.out.cell 6
      simp at f0 f1 f2 f3 f4 f5 f6
      go_wp2_with fail
      (with_reducible refine (Pe.out _ HB.out).mono ?_)
      rintro e w5 ⟨rfl, hbq⟩
      have ho := Ho.out.below hbq Ho.out.lt
      clear Ho
      have Ho := Lib.hid ho
      clear ho
      have hp := Hp.out.below hbq Hp.out.lt
      clear Hp
      have Hp := Lib.hid hp
      clear hp
      have hB := HB.out.trans (hbq.mono HB.out.size)
      clear HB
      have HB := Lib.hid hB
      clear hB
      clear hbq
      clear f0 f1 f2 f3 f4 f5 f6
      have d0 := Ho.out.cell 0
      have d1 := Ho.out.cell 1
      have d2 := Ho.out.cell 2
      have d3 := Ho.out.cell 3
      have d4 := Ho.out.cell 4
      have d5 := Ho.out.cell 5
      have d6 := Ho.out.cell 6
      simp at d0 d1 d2 d3 d4 d5 d6
      have f0 := Hp.out.cell 0
      have f1 := Hp.out.cell 1
      have f2 := Hp.out.cell 2
      have f3 := Hp.out.cell 3
      have f4 := Hp.out.cell 4
      have f5 := Hp.out.cell 5
      have f6 := Hp.out.cell 6
      simp at f0 f1 f2 f3 f4 f5 f6
      go_wp2_with fail
      (with_reducible refine (Os.out _ HB.out).mono ?_)
      rintro e w6 ⟨rfl, hbq⟩
      have ho := Ho.out.below hbq Ho.out.lt
      clear Ho
      have Ho := Lib.hid ho
      clear ho
      have hp := Hp.out.below hbq Hp.out.lt
      clear Hp
      have Hp := Lib.hid hp
      clear hp
      have hB := HB.out.trans (hbq.mono HB.out.size)
      clear HB
      have HB := Lib.hid hB
      clear hB
      clear hbq
      clear d0 d1 d2 d3 d4 d5 d6
      clear f0 f1 f2 f3 f4 f5 f6
      go_upto_region 7 with fail
      have hcv := Hkc.out w6
      go_upto_region 9 with fail
      have hy := Blk.new w6 5 #[.int .u8 (2 + (n : Int))]
      have ho := Blk.alloc Ho.out (.cells #[.int .u8 (2 + (n : Int))] 5)
      clear Ho
      have hp := Blk.alloc Hp.out (.cells #[.int .u8 (2 + (n : Int))] 5)
      clear Hp
      have hB := HB.out.alloc HB.out.size (.cells #[.int .u8 (2 + (n : Int))] 5)
      clear HB
      obtain ⟨gy, hge⟩ : ∃ g, g = w6.heap.size := ⟨_, rfl⟩
      rw [← hge] at hy ⊢
      have hle_y : w6.heap.size ≤ gy := by omega
      clear hge
      generalize w6.alloc _ = wn22 at *
      have Ho := Lib.hid ho
      clear ho
      have Hp := Lib.hid hp
      clear hp
      have Hy := Lib.hid hy
      clear hy
      have HB := Lib.hid hB
      clear hB
      clear hcv
      by_cases h40 : 40 < u.size
      · have i40 : (40 : Int) < (u.size : Int) := by omega
        clear h40
        go_wp2_with fail
        (with_reducible refine (Hal.out _).mono ?_)
        rintro e w8 ⟨rfl, hbq⟩
        have ho := Ho.out.below hbq Ho.out.lt
        clear Ho
        have Ho := Lib.hid ho
        clear ho
        have hp := Hp.out.below hbq Hp.out.lt
        clear Hp
        have Hp := Lib.hid hp
        clear hp
        have hB := HB.out.trans (hbq.mono HB.out.size)
        clear HB
        have HB := Lib.hid hB
        clear hB
        clear hbq
        go_wp2
        go_ret
        exact ⟨rfl, HB.out⟩
      · have i40 : ¬ (40 : Int) < (u.size : Int) := by omega
        have hdu := Hdec.out Hmo.out h40
        clear h40
        have Hdu := Lib.hid hdu
        clear hdu
        go_wp2_with fail
        with_reducible refine (D1.out _).mono ?_
        rintro e1 w8 ⟨r, A1, c1, code, rfl, hbr, hbq, hre⟩
        rw [Hdu.out] at hre
        injection hre with hr1 hr2
        subst hr1 hr2
        have ho := Ho.out.below hbq Ho.out.lt
        clear Ho
        have Ho := Lib.hid ho
        clear ho
        have hp := Hp.out.below hbq Hp.out.lt
        clear Hp
        have Hp := Lib.hid hp
        clear hp
        have hB := HB.out.trans (hbq.mono HB.out.size)
        clear HB
        have HB := Lib.hid hB
        clear hB
        clear hbq
        unfold optC
        go_upto_region 12 with fail
        have hbr8 := hbr.below ((Below.refl _ w8).alloc (Nat.le_refl _) (.cells #[.int .u16 (r.mss : Int), .int .i64 r.scale, .bool r.sack, .slice A1 r.bl.length c1, .bool r.time, .int .u32 (r.val : Int), .int .u32 (r.echo : Int)] 26))
        have hq := Blk.new w8 26 #[.int .u16 (r.mss : Int), .int .i64 r.scale, .bool r.sack, .slice A1 r.bl.length c1, .bool r.time, .int .u32 (r.val : Int), .int .u32 (r.echo : Int)]
        have ho := Blk.alloc Ho.out (.cells #[.int .u16 (r.mss : Int), .int .i64 r.scale, .bool r.sack, .slice A1 r.bl.length c1, .bool r.time, .int .u32 (r.val : Int), .int .u32 (r.echo : Int)] 26)
        clear Ho
        have hp := Blk.alloc Hp.out (.cells #[.int .u16 (r.mss : Int), .int .i64 r.scale, .bool r.sack, .slice A1 r.bl.length c1, .bool r.time, .int .u32 (r.val : Int), .int .u32 (r.echo : Int)] 26)
        clear Hp
        have hB := HB.out.alloc HB.out.size (.cells #[.int .u16 (r.mss : Int), .int .i64 r.scale, .bool r.sack, .slice A1 r.bl.length c1, .bool r.time, .int .u32 (r.val : Int), .int .u32 (r.echo : Int)] 26)
        clear HB
        obtain ⟨gq, hge⟩ : ∃ g, g = w8.heap.size := ⟨_, rfl⟩
        rw [← hge] at hq ⊢
        have hle_q : w8.heap.size ≤ gq := by omega
        clear hge
        generalize w8.alloc _ = wn24 at *
        have Ho := Lib.hid ho
        clear ho
        have Hp := Lib.hid hp
        clear hp
        have Hq := Lib.hid hq
        clear hq
        have HB := Lib.hid hB
        clear hB
        obtain ⟨W9, hwnW9⟩ : ∃ W, W = wn24 := ⟨_, rfl⟩
        rw [← hwnW9] at Ho Hp Hq HB hbr8 ⊢
        clear hwnW9
        have hsm := same_any W9 r r A1 A c1 c hbr8 (Obr.out.below HB.out) (by have := H1.out; simp only [maxLen]; omega) (by have := H1.out; simp only [maxLen]; omega)
        rw [sameB_self] at hsm
        unfold optC at hsm
        clear hbr8 hbr
        have d0 := Ho.out.cell 0
        have d1 := Ho.out.cell 1
        have d2 := Ho.out.cell 2
        have d3 := Ho.out.cell 3
        have d4 := Ho.out.cell 4
        have d5 := Ho.out.cell 5
        have d6 := Ho.out.cell 6
        simp at d0 d1 d2 d3 d4 d5 d6
        have f0 := Hq.out.cell 0
        have f1 := Hq.out.cell 1
        have f2 := Hq.out.cell 2
        have f3 := Hq.out.cell 3
        have f4 := Hq.out.cell 4
        have f5 := Hq.out.cell 5
        have f6 := Hq.out.cell 6
        simp at f0 f1 f2 f3 f4 f5 f6
        go_wp2_with fail
        (with_reducible refine (hsm).mono ?_)
        rintro e w10 ⟨rfl, hbq⟩
        have ho := Ho.out.below hbq Ho.out.lt
        clear Ho
        have Ho := Lib.hid ho
        clear ho
        have hp := Hp.out.below hbq Hp.out.lt
        clear Hp
        have Hp := Lib.hid hp
        clear hp
        have hq := Hq.out.below hbq Hq.out.lt
        clear Hq
        have Hq := Lib.hid hq
        clear hq
        have hB := HB.out.trans (hbq.mono HB.out.size)
        clear HB
        have HB := Lib.hid hB
        clear hB
        clear hbq
        go_wp2_with fail
        (with_reducible refine (Hal.out _).mono ?_)
        rintro e w11 ⟨rfl, hbq⟩
        have ho := Ho.out.below hbq Ho.out.lt
        clear Ho
        have Ho := Lib.hid ho
        clear ho
        have hp := Hp.out.below hbq Hp.out.lt
        clear Hp
        have Hp := Lib.hid hp
        clear hp
        have hq := Hq.out.below hbq Hq.out.lt
        clear Hq
        have Hq := Lib.hid hq
        clear hq
        have hB := HB.out.trans (hbq.mono HB.out.size)
        clear HB
        have HB := Lib.hid hB
        clear hB
        clear hbq
        go_wp2
        go_ret
        exact ⟨rfl, HB.out⟩
    | false =>
      rw [hmp, if_neg (by decide)] at hc2
      subst hc1 hc2
      clear heq Os
      have Hmo := Lib.hid hmo
      clear hmo
      have Hmp := Lib.hid hmp
      clear hmp
      have Hal := Lib.hid hal
      clear hal
      have Hlo := Lib.hid hlo
      clear hlo
      have Hlp := Lib.hid hlp
      clear hlp
      go_enter Try.func6, Try.ntmps6
      go_upto_region 1 with fail
      have ho := Blk.alloc (Blk.new w 26 #[.int .u16 (o.mss : Int), .int .i64 o.scale, .bool o.sack, .slice A o.bl.length c, .bool o.time, .int .u32 (o.val : Int), .int .u32 (o.echo : Int)]) (.cells #[.int .u16 (p.mss : Int), .int .i64 p.scale, .bool p.sack, .slice B p.bl.length e, .bool p.time, .int .u32 (p.val : Int), .int .u32 (p.echo : Int)] 26)
      have hp := Blk.new (w.alloc (.cells #[.int .u16 (o.mss : Int), .int .i64 o.scale, .bool o.sack, .slice A o.bl.length c, .bool o.time, .int .u32 (o.val : Int), .int .u32 (o.echo : Int)] 26)) 26 #[.int .u16 (p.mss : Int), .int .i64 p.scale, .bool p.sack, .slice B p.bl.length e, .bool p.time, .int .u32 (p.val : Int), .int .u32 (p.echo : Int)]
      rw [show (w.alloc (.cells #[.int .u16 (o.mss : Int), .int .i64 o.scale, .bool o.sack, .slice A o.bl.length c, .bool o.time, .int .u32 (o.val : Int), .int .u32 (o.echo : Int)] 26)).heap.size = w.heap.size + 1 by simp] at hp
      have hB := Below.alloc (Below.alloc (HB.out) (Nat.le_trans HB.out.size (by simp <;> omega)) (.cells #[.int .u16 (o.mss : Int), .int .i64 o.scale, .bool o.sack, .slice A o.bl.length c, .bool o.time, .int .u32 (o.val : Int), .int .u32 (o.echo : Int)] 26)) (Nat.le_trans HB.out.size (by simp <;> omega)) (.cells #[.int .u16 (p.mss : Int), .int .i64 p.scale, .bool p.sack, .slice B p.bl.length e, .bool p.time, .int .u32 (p.val : Int), .int .u32 (p.echo : Int)] 26)
      clear HB
      obtain ⟨gp, hgep⟩ : ∃ g, g = w.heap.size + 1 := ⟨_, rfl⟩
      rw [← hgep] at hp ⊢
      obtain ⟨go, hgeo⟩ : ∃ g, g = w.heap.size := ⟨_, rfl⟩
      rw [← hgeo] at ho ⊢
      have hne_o_p : go ≠ gp := by omega
      have hle_o : w.heap.size ≤ go := by omega
      have hle_p : w.heap.size ≤ gp := by omega
      clear hgeo hgep
      generalize (w.alloc _).alloc _ = wn27 at *
      have Ho := Lib.hid ho
      clear ho
      have Hp := Lib.hid hp
      clear hp
      have HB := Lib.hid hB
      clear hB
      obtain ⟨W1, hwnW1⟩ : ∃ W, W = wn27 := ⟨_, rfl⟩
      rw [← hwnW1] at Ho Hp HB ⊢
      clear hwnW1
      have d0 := Ho.out.cell 0
      have d1 := Ho.out.cell 1
      have d2 := Ho.out.cell 2
      have d3 := Ho.out.cell 3
      have d4 := Ho.out.cell 4
      have d5 := Ho.out.cell 5
      have d6 := Ho.out.cell 6
      simp at d0 d1 d2 d3 d4 d5 d6
      go_wp2_with fail
      (with_reducible refine (Hlo.out _).mono ?_)
      rintro e w2 ⟨rfl, hbq⟩
      have ho := Ho.out.below hbq Ho.out.lt
      clear Ho
      have Ho := Lib.hid ho
      clear ho
      have hp := Hp.out.below hbq Hp.out.lt
      clear Hp
      have Hp := Lib.hid hp
      clear hp
      have hB := HB.out.trans (hbq.mono HB.out.size)
      clear HB
      have HB := Lib.hid hB
      clear hB
      clear hbq
      clear d0 d1 d2 d3 d4 d5 d6
      have f0 := Hp.out.cell 0
      have f1 := Hp.out.cell 1
      have f2 := Hp.out.cell 2
      have f3 := Hp.out.cell 3
      have f4 := Hp.out.cell 4
      have f5 := Hp.out.cell 5
      have f6 := Hp.out.cell 6
      simp at f0 f1 f2 f3 f4 f5 f6
      go_wp2_with fail
      (with_reducible refine (Hlp.out _).mono ?_)
      rintro e w3 ⟨rfl, hbq⟩
      have ho := Ho.out.below hbq Ho.out.lt
      clear Ho
      have Ho := Lib.hid ho
      clear ho
      have hp := Hp.out.below hbq Hp.out.lt
      clear Hp
      have Hp := Lib.hid hp
      clear hp
      have hB := HB.out.trans (hbq.mono HB.out.size)
      clear HB
      have HB := Lib.hid hB
      clear hB
      clear hbq
      clear f0 f1 f2 f3 f4 f5 f6
      have d0 := Ho.out.cell 0
      have d1 := Ho.out.cell 1
      have d2 := Ho.out.cell 2
      have d3 := Ho.out.cell 3
      have d4 := Ho.out.cell 4
      have d5 := Ho.out.cell 5
      have d6 := Ho.out.cell 6
      simp at d0 d1 d2 d3 d4 d5 d6
      go_wp2_with fail
      (with_reducible refine (Oe.out _ HB.out).mono ?_)
      rintro e w4 ⟨rfl, hbq⟩
      have ho := Ho.out.below hbq Ho.out.lt
      clear Ho
      have Ho := Lib.hid ho
      clear ho
      have hp := Hp.out.below hbq Hp.out.lt
      clear Hp
      have Hp := Lib.hid hp
      clear hp
      have hB := HB.out.trans (hbq.mono HB.out.size)
      clear HB
      have HB := Lib.hid hB
      clear hB
      clear hbq
      clear d0 d1 d2 d3 d4 d5 d6
      have f0 := Hp.out.cell 0
      have f1 := Hp.out.cell 1
      have f2 := Hp.out.cell 2
      have f3 := Hp.out.cell 3
      have f4 := Hp.out.cell 4
      have f5 := Hp.out.cell 5
      have f6 := Hp.out.cell 6
      simp at f0 f1 f2 f3 f4 f5 f6
      go_wp2_with fail
      (with_reducible refine (Pe.out _ HB.out).mono ?_)
      rintro e w5 ⟨rfl, hbq⟩
      have ho := Ho.out.below hbq Ho.out.lt
      clear Ho
      have Ho := Lib.hid ho
      clear ho
      have hp := Hp.out.below hbq Hp.out.lt
      clear Hp
      have Hp := Lib.hid hp
      clear hp
      have hB := HB.out.trans (hbq.mono HB.out.size)
      clear HB
      have HB := Lib.hid hB
      clear hB
      clear hbq
      clear f0 f1 f2 f3 f4 f5 f6
      go_upto_region 7 with fail
      have hcv := Hkc.out w5
      go_upto_region 9 with fail
      have hy := Blk.new w5 5 #[.int .u8 (2 + (n : Int))]
      have ho := Blk.alloc Ho.out (.cells #[.int .u8 (2 + (n : Int))] 5)
      clear Ho
      have hp := Blk.alloc Hp.out (.cells #[.int .u8 (2 + (n : Int))] 5)
      clear Hp
      have hB := HB.out.alloc HB.out.size (.cells #[.int .u8 (2 + (n : Int))] 5)
      clear HB
      obtain ⟨gy, hge⟩ : ∃ g, g = w5.heap.size := ⟨_, rfl⟩
      rw [← hge] at hy ⊢
      have hle_y : w5.heap.size ≤ gy := by omega
      clear hge
      generalize w5.alloc _ = wn32 at *
      have Ho := Lib.hid ho
      clear ho
      have Hp := Lib.hid hp
      clear hp
      have Hy := Lib.hid hy
      clear hy
      have HB := Lib.hid hB
      clear hB
      clear hcv
      by_cases h40 : 40 < u.size
      · have i40 : (40 : Int) < (u.size : Int) := by omega
        clear h40
        go_wp2_with fail
        (with_reducible refine (Hal.out _).mono ?_)
        rintro e w8 ⟨rfl, hbq⟩
        have ho := Ho.out.below hbq Ho.out.lt
        clear Ho
        have Ho := Lib.hid ho
        clear ho
        have hp := Hp.out.below hbq Hp.out.lt
        clear Hp
        have Hp := Lib.hid hp
        clear hp
        have hB := HB.out.trans (hbq.mono HB.out.size)
        clear HB
        have HB := Lib.hid hB
        clear hB
        clear hbq
        go_wp2
        go_ret
        exact ⟨rfl, HB.out⟩
      · have i40 : ¬ (40 : Int) < (u.size : Int) := by omega
        have hdu := Hdec.out Hmo.out h40
        clear h40
        have Hdu := Lib.hid hdu
        clear hdu
        go_wp2_with fail
        with_reducible refine (D1.out _).mono ?_
        rintro e1 w8 ⟨r, A1, c1, code, rfl, hbr, hbq, hre⟩
        rw [Hdu.out] at hre
        injection hre with hr1 hr2
        subst hr1 hr2
        have ho := Ho.out.below hbq Ho.out.lt
        clear Ho
        have Ho := Lib.hid ho
        clear ho
        have hp := Hp.out.below hbq Hp.out.lt
        clear Hp
        have Hp := Lib.hid hp
        clear hp
        have hB := HB.out.trans (hbq.mono HB.out.size)
        clear HB
        have HB := Lib.hid hB
        clear hB
        clear hbq
        unfold optC
        go_upto_region 12 with fail
        have hbr8 := hbr.below ((Below.refl _ w8).alloc (Nat.le_refl _) (.cells #[.int .u16 (r.mss : Int), .int .i64 r.scale, .bool r.sack, .slice A1 r.bl.length c1, .bool r.time, .int .u32 (r.val : Int), .int .u32 (r.echo : Int)] 26))
        have hq := Blk.new w8 26 #[.int .u16 (r.mss : Int), .int .i64 r.scale, .bool r.sack, .slice A1 r.bl.length c1, .bool r.time, .int .u32 (r.val : Int), .int .u32 (r.echo : Int)]
        have ho := Blk.alloc Ho.out (.cells #[.int .u16 (r.mss : Int), .int .i64 r.scale, .bool r.sack, .slice A1 r.bl.length c1, .bool r.time, .int .u32 (r.val : Int), .int .u32 (r.echo : Int)] 26)
        clear Ho
        have hp := Blk.alloc Hp.out (.cells #[.int .u16 (r.mss : Int), .int .i64 r.scale, .bool r.sack, .slice A1 r.bl.length c1, .bool r.time, .int .u32 (r.val : Int), .int .u32 (r.echo : Int)] 26)
        clear Hp
        have hB := HB.out.alloc HB.out.size (.cells #[.int .u16 (r.mss : Int), .int .i64 r.scale, .bool r.sack, .slice A1 r.bl.length c1, .bool r.time, .int .u32 (r.val : Int), .int .u32 (r.echo : Int)] 26)
        clear HB
        obtain ⟨gq, hge⟩ : ∃ g, g = w8.heap.size := ⟨_, rfl⟩
        rw [← hge] at hq ⊢
        have hle_q : w8.heap.size ≤ gq := by omega
        clear hge
        generalize w8.alloc _ = wn34 at *
        have Ho := Lib.hid ho
        clear ho
        have Hp := Lib.hid hp
        clear hp
        have Hq := Lib.hid hq
        clear hq
        have HB := Lib.hid hB
        clear hB
        obtain ⟨W9, hwnW9⟩ : ∃ W, W = wn34 := ⟨_, rfl⟩
        rw [← hwnW9] at Ho Hp Hq HB hbr8 ⊢
        clear hwnW9
        have hsm := same_any W9 r r A1 A c1 c hbr8 (Obr.out.below HB.out) (by have := H1.out; simp only [maxLen]; omega) (by have := H1.out; simp only [maxLen]; omega)
        rw [sameB_self] at hsm
        unfold optC at hsm
        clear hbr8 hbr
        have d0 := Ho.out.cell 0
        have d1 := Ho.out.cell 1
        have d2 := Ho.out.cell 2
        have d3 := Ho.out.cell 3
        have d4 := Ho.out.cell 4
        have d5 := Ho.out.cell 5
        have d6 := Ho.out.cell 6
        simp at d0 d1 d2 d3 d4 d5 d6
        have f0 := Hq.out.cell 0
        have f1 := Hq.out.cell 1
        have f2 := Hq.out.cell 2
        have f3 := Hq.out.cell 3
        have f4 := Hq.out.cell 4
        have f5 := Hq.out.cell 5
        have f6 := Hq.out.cell 6
        simp at f0 f1 f2 f3 f4 f5 f6
        go_wp2_with fail
        (with_reducible refine (hsm).mono ?_)
        rintro e w10 ⟨rfl, hbq⟩
        have ho := Ho.out.below hbq Ho.out.lt
        clear Ho
        have Ho := Lib.hid ho
        clear ho
        have hp := Hp.out.below hbq Hp.out.lt
        clear Hp
        have Hp := Lib.hid hp
        clear hp
        have hq := Hq.out.below hbq Hq.out.lt
        clear Hq
        have Hq := Lib.hid hq
        clear hq
        have hB := HB.out.trans (hbq.mono HB.out.size)
        clear HB
        have HB := Lib.hid hB
        clear hB
        clear hbq
        go_wp2_with fail
        (with_reducible refine (Hal.out _).mono ?_)
        rintro e w11 ⟨rfl, hbq⟩
        have ho := Ho.out.below hbq Ho.out.lt
        clear Ho
        have Ho := Lib.hid ho
        clear ho
        have hp := Hp.out.below hbq Hp.out.lt
        clear Hp
        have Hp := Lib.hid hp
        clear hp
        have hq := Hq.out.below hbq Hq.out.lt
        clear Hq
        have Hq := Lib.hid hq
        clear hq
        have hB := HB.out.trans (hbq.mono HB.out.size)
        clear HB
        have HB := Lib.hid hB
        clear hB
        clear hbq
        go_wp2
        go_ret
        exact ⟨rfl, HB.out⟩
  | false =>
    rw [hmo, if_neg (by decide)] at hc1
    subst hc1
    clear heq Os hc2
    have Hmo := Lib.hid hmo
    clear hmo
    have Hal := Lib.hid hal
    clear hal
    have Hlo := Lib.hid hlo
    clear hlo
    have Hlp := Lib.hid hlp
    clear hlp
    go_enter Try.func6, Try.ntmps6
    go_upto_region 1 with fail
    have ho := Blk.alloc (Blk.new w 26 #[.int .u16 (o.mss : Int), .int .i64 o.scale, .bool o.sack, .slice A o.bl.length c, .bool o.time, .int .u32 (o.val : Int), .int .u32 (o.echo : Int)]) (.cells #[.int .u16 (p.mss : Int), .int .i64 p.scale, .bool p.sack, .slice B p.bl.length e, .bool p.time, .int .u32 (p.val : Int), .int .u32 (p.echo : Int)] 26)
    have hp := Blk.new (w.alloc (.cells #[.int .u16 (o.mss : Int), .int .i64 o.scale, .bool o.sack, .slice A o.bl.length c, .bool o.time, .int .u32 (o.val : Int), .int .u32 (o.echo : Int)] 26)) 26 #[.int .u16 (p.mss : Int), .int .i64 p.scale, .bool p.sack, .slice B p.bl.length e, .bool p.time, .int .u32 (p.val : Int), .int .u32 (p.echo : Int)]
    rw [show (w.alloc (.cells #[.int .u16 (o.mss : Int), .int .i64 o.scale, .bool o.sack, .slice A o.bl.length c, .bool o.time, .int .u32 (o.val : Int), .int .u32 (o.echo : Int)] 26)).heap.size = w.heap.size + 1 by simp] at hp
    have hB := Below.alloc (Below.alloc (HB.out) (Nat.le_trans HB.out.size (by simp <;> omega)) (.cells #[.int .u16 (o.mss : Int), .int .i64 o.scale, .bool o.sack, .slice A o.bl.length c, .bool o.time, .int .u32 (o.val : Int), .int .u32 (o.echo : Int)] 26)) (Nat.le_trans HB.out.size (by simp <;> omega)) (.cells #[.int .u16 (p.mss : Int), .int .i64 p.scale, .bool p.sack, .slice B p.bl.length e, .bool p.time, .int .u32 (p.val : Int), .int .u32 (p.echo : Int)] 26)
    clear HB
    obtain ⟨gp, hgep⟩ : ∃ g, g = w.heap.size + 1 := ⟨_, rfl⟩
    rw [← hgep] at hp ⊢
    obtain ⟨go, hgeo⟩ : ∃ g, g = w.heap.size := ⟨_, rfl⟩
    rw [← hgeo] at ho ⊢
    have hne_o_p : go ≠ gp := by omega
    have hle_o : w.heap.size ≤ go := by omega
    have hle_p : w.heap.size ≤ gp := by omega
    clear hgeo hgep
    generalize (w.alloc _).alloc _ = wn37 at *
    have Ho := Lib.hid ho
    clear ho
    have Hp := Lib.hid hp
    clear hp
    have HB := Lib.hid hB
    clear hB
    obtain ⟨W1, hwnW1⟩ : ∃ W, W = wn37 := ⟨_, rfl⟩
    rw [← hwnW1] at Ho Hp HB ⊢
    clear hwnW1
    have d0 := Ho.out.cell 0
    have d1 := Ho.out.cell 1
    have d2 := Ho.out.cell 2
    have d3 := Ho.out.cell 3
    have d4 := Ho.out.cell 4
    have d5 := Ho.out.cell 5
    have d6 := Ho.out.cell 6
    simp at d0 d1 d2 d3 d4 d5 d6
    go_wp2_with fail
    (with_reducible refine (Hlo.out _).mono ?_)
    rintro e w2 ⟨rfl, hbq⟩
    have ho := Ho.out.below hbq Ho.out.lt
    clear Ho
    have Ho := Lib.hid ho
    clear ho
    have hp := Hp.out.below hbq Hp.out.lt
    clear Hp
    have Hp := Lib.hid hp
    clear hp
    have hB := HB.out.trans (hbq.mono HB.out.size)
    clear HB
    have HB := Lib.hid hB
    clear hB
    clear hbq
    clear d0 d1 d2 d3 d4 d5 d6
    have f0 := Hp.out.cell 0
    have f1 := Hp.out.cell 1
    have f2 := Hp.out.cell 2
    have f3 := Hp.out.cell 3
    have f4 := Hp.out.cell 4
    have f5 := Hp.out.cell 5
    have f6 := Hp.out.cell 6
    simp at f0 f1 f2 f3 f4 f5 f6
    go_wp2_with fail
    (with_reducible refine (Hlp.out _).mono ?_)
    rintro e w3 ⟨rfl, hbq⟩
    have ho := Ho.out.below hbq Ho.out.lt
    clear Ho
    have Ho := Lib.hid ho
    clear ho
    have hp := Hp.out.below hbq Hp.out.lt
    clear Hp
    have Hp := Lib.hid hp
    clear hp
    have hB := HB.out.trans (hbq.mono HB.out.size)
    clear HB
    have HB := Lib.hid hB
    clear hB
    clear hbq
    clear f0 f1 f2 f3 f4 f5 f6
    have d0 := Ho.out.cell 0
    have d1 := Ho.out.cell 1
    have d2 := Ho.out.cell 2
    have d3 := Ho.out.cell 3
    have d4 := Ho.out.cell 4
    have d5 := Ho.out.cell 5
    have d6 := Ho.out.cell 6
    simp at d0 d1 d2 d3 d4 d5 d6
    go_wp2_with fail
    (with_reducible refine (Oe.out _ HB.out).mono ?_)
    rintro e w4 ⟨rfl, hbq⟩
    have ho := Ho.out.below hbq Ho.out.lt
    clear Ho
    have Ho := Lib.hid ho
    clear ho
    have hp := Hp.out.below hbq Hp.out.lt
    clear Hp
    have Hp := Lib.hid hp
    clear hp
    have hB := HB.out.trans (hbq.mono HB.out.size)
    clear HB
    have HB := Lib.hid hB
    clear hB
    clear hbq
    clear d0 d1 d2 d3 d4 d5 d6
    have f0 := Hp.out.cell 0
    have f1 := Hp.out.cell 1
    have f2 := Hp.out.cell 2
    have f3 := Hp.out.cell 3
    have f4 := Hp.out.cell 4
    have f5 := Hp.out.cell 5
    have f6 := Hp.out.cell 6
    simp at f0 f1 f2 f3 f4 f5 f6
    go_wp2_with fail
    (with_reducible refine (Pe.out _ HB.out).mono ?_)
    rintro e w5 ⟨rfl, hbq⟩
    have ho := Ho.out.below hbq Ho.out.lt
    clear Ho
    have Ho := Lib.hid ho
    clear ho
    have hp := Hp.out.below hbq Hp.out.lt
    clear Hp
    have Hp := Lib.hid hp
    clear hp
    have hB := HB.out.trans (hbq.mono HB.out.size)
    clear HB
    have HB := Lib.hid hB
    clear hB
    clear hbq
    clear f0 f1 f2 f3 f4 f5 f6
    go_upto_region 7 with fail
    have hcv := Hkc.out w5
    go_upto_region 9 with fail
    have hy := Blk.new w5 5 #[.int .u8 (2 + (n : Int))]
    have ho := Blk.alloc Ho.out (.cells #[.int .u8 (2 + (n : Int))] 5)
    clear Ho
    have hp := Blk.alloc Hp.out (.cells #[.int .u8 (2 + (n : Int))] 5)
    clear Hp
    have hB := HB.out.alloc HB.out.size (.cells #[.int .u8 (2 + (n : Int))] 5)
    clear HB
    obtain ⟨gy, hge⟩ : ∃ g, g = w5.heap.size := ⟨_, rfl⟩
    rw [← hge] at hy ⊢
    have hle_y : w5.heap.size ≤ gy := by omega
    clear hge
    generalize w5.alloc _ = wn42 at *
    have Ho := Lib.hid ho
    clear ho
    have Hp := Lib.hid hp
    clear hp
    have Hy := Lib.hid hy
    clear hy
    have HB := Lib.hid hB
    clear hB
    clear hcv
    go_wp2_with fail
    (with_reducible refine (Hal.out _).mono ?_)
    rintro e w8 ⟨rfl, hbq⟩
    have ho := Ho.out.below hbq Ho.out.lt
    clear Ho
    have Ho := Lib.hid ho
    clear ho
    have hp := Hp.out.below hbq Hp.out.lt
    clear Hp
    have Hp := Lib.hid hp
    clear hp
    have hB := HB.out.trans (hbq.mono HB.out.size)
    clear HB
    have HB := Lib.hid hB
    clear hB
    clear hbq
    go_wp2
    go_ret
    exact ⟨rfl, HB.out⟩
theorem own : ownKnob Try.prog.godebug = none := by kernel_rfl
theorem laidOut : laidOutB Try.prog = true := by kernel_rfl
set_option maxRecDepth 100000 in
theorem lifted (os : Os) (started : os.Started) (H : Type) (enc : TypeId × Value → H) :
    ReturnsInHanded {} Try.checked os 6 .any (Rows.optApartSpec.pre6 enc Try.prog Try.f6 Rows.optApartRow.domain false) (Rows.optApartSpec.post enc Try.prog Try.f6 false true false false) := by
  refine returnsInHanded_of_change (C := Try.checked) own started (by kernel_rfl) Try.func6
    (ChangeSpec.witness6 (enc := enc) (C := Try.checked) false ⟨#[], #[.agg #[.int .u16 0, .int .i64 0, .bool false, .slice none 0 0, .bool false, .int .u32 0, .int .u32 0], .agg #[.int .u16 0, .int .i64 0, .bool false, .slice none 0 0, .bool false, .int .u32 0, .int .u32 0], .string ByteArray.empty, .string ByteArray.empty], []⟩ 8 (by kernel_rfl) (by kernel_rfl) (by kernel_rfl) (by kernel_rfl)) ?_
  intro W base args ds gs before hval0 hW hcnd _
  have hval : ∀ (j : Nat) t v, Try.f6.params[j]? = some t → args[j]? = some v → Value.okWide Try.prog W .any base t v := hval0
  have hW' := hW
  obtain ⟨p, q, hA0, hV, rfl, hfz, hnd⟩ := hW
  have hA : DataW.TrodAll enc Try.prog W 0 (fun _ => true) true Try.f6.params.toList args.toList ds p := hA0
  rw [Try.params6] at hA hval
  obtain ⟨v0, vs0, d0, ds0, p0, q0, hargs, rfl, rfl, h0, r0⟩ := trodAll_cons hA
  obtain ⟨v1, vs1, d1, ds1, p1, q1, rfl, rfl, rfl, h1, r1⟩ := trodAll_cons r0
  obtain ⟨v2, vs2, d2, ds2, p2, q2, rfl, rfl, rfl, h2, r2⟩ := trodAll_cons r1
  obtain ⟨v3, vs3, d3, ds3, p3, q3, rfl, rfl, rfl, h3, r3⟩ := trodAll_cons r2
  obtain ⟨rfl, rfl, rfl⟩ := trodAll_nil r3
  obtain rfl : args = #[v0, v1, v2, v3] := by cases args; simp_all
  obtain ⟨rfl, rfl⟩ := trodVars_none hV
  have k0 := h0
  have lt0 : ∀ x ∈ p0, x.block < W.heap.size := by obtain ⟨m, hm⟩ := k0; exact DataW.trod_lt m _ _ _ hm
  obtain ⟨a0_0, a0_1, a0_2, rfl, w0⟩ := open_opts (hval 0 26 v0 rfl rfl) h0
  have k1 := h1
  have lt1 : ∀ x ∈ p1, x.block < W.heap.size := by obtain ⟨m, hm⟩ := k1; exact DataW.trod_lt m _ _ _ hm
  obtain ⟨a1_0, a1_1, a1_2, rfl, w1⟩ := open_opts (hval 1 26 v1 rfl rfl) h1
  obtain ⟨a2, rfl, rfl, rfl, w2⟩ := open_string Try.underlying9 (hval 2 9 v2 rfl rfl) h2
  obtain ⟨a3, rfl, rfl, rfl, w3⟩ := open_string Try.underlying9 (hval 3 9 v3 rfl rfl) h3
  clear hA0 hval0
  refine (walk a0_0 a0_1 a0_2 a1_0 a1_1 a1_2 a2 a3 W w0 w1 w2 w3).mono fun e W' ⟨he, bel⟩ => ?_
  subst he
  exact ⟨_, rfl, _, _, _, [], _, [], hW', trodAll_mk1 (shut_bool Try.underlying4 _), (trodAll_cons_mk (Below.trod laidOut (by kernel_rfl) (of_decide_eq_true (by kernel_rfl)) k0 bel lt0) (trodAll_cons_mk (Below.trod laidOut (by kernel_rfl) (of_decide_eq_true (by kernel_rfl)) k1 bel lt1) (trodAll_cons_mk (shut_string Try.underlying9 w2) (trodAll_cons_mk (shut_string Try.underlying9 w3) trodAll_mk0)))), rfl, bel.frame _, fun h => by cases h⟩

theorem over : Rows.optApartRow.holds Try.pinned (OpenSpec.ofChange Rows.optApartSpec) :=
  OpenClaim.holds_of_wide 6 Try.f6 rfl rfl rfl rfl rfl rfl rfl ⟨rfl, rfl, rfl, rfl, rfl⟩ rfl rfl rfl rfl rfl (by kernel_rfl) Try.func6 (by kernel_rfl)
    (of_decide_eq_true (by kernel_rfl)) (by unfold Func.isWrapper; first | (rw [if_pos (by decide +kernel)]; kernel_rfl) | (rw [if_neg (by decide +kernel)]; exact ⟨rfl, rfl⟩))
    (fun os started H enc _ => lifted os started H enc)

/-- THE STATEMENT -/
theorem proved : Rows.OptApartSaid := over
#print axioms proved
end Go.Proofs.Ytimepplfaaddeaa.optApart
