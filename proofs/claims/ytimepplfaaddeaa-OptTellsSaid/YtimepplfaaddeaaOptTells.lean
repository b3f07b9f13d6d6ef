/- The statement OptTells: which options may be, what bytes they have, which are the same, and which options bytes are, is what the document's answer says, for any two options and any bytes; and a known run goes as it must. -/
import Derived.Test.YtimepplfaaddeaaOptAlive
import Derived.Test.YtimepplfaaddeaaOptOpen
import Derived.Test.YtimepplfaaddeaaFlowT
set_option linter.unusedVariables false
set_option linter.unusedSimpArgs false
namespace Go.Proofs.Ytimepplfaaddeaa.optTells
open Go.ChangeShapes Go.WideShapes Go.ChangeAt Go.RowKit Go.BigFrame
open Go.ChangeMaps (open_string shut_string)

theorem decR_bl (L : List UInt8) : (decR L).1.bl.length ≤ 2000 := by
  unfold decR
  split
  · simp [zeroO]
  · rename_i h
    cases hd : decL L with
    | none => simp [zeroO]
    | some o =>
      unfold decL at hd
      cases hf : foldD L (placesAt L 0) (noneO, []) with
      | none => rw [hf] at hd; cases hd
      | some q =>
        rw [hf] at hd
        cases hd
        have h1 := fold_bl L _ _ _ _ hf
        have h2 := places_len L (L.length - 0 + 1) 0
        have h3 : L.length * (placesAt L 0).length ≤ 40 * 41 := Nat.mul_le_mul (by omega) (by unfold placesAt; omega)
        simp only [noneO, List.length_nil] at h1
        simp only []
        omega
set_option maxRecDepth 100000 in
set_option maxHeartbeats 8000000 in
theorem walk (o : Op) (A : Option Addr) (c : Nat) (p : Op) (B : Option Addr) (e : Nat) (x : ByteArray) (w : World) (w0 : OptF w o A c) (w1 : OptF w p B e) (w2 : x.size ≤ maxLen) :
    Calls Try.prog 3 #[.agg (optC o A c), .agg (optC p B e), .string x] w fun e w' => e = .returned (.bool true) ∧ Below w.heap.size w w' := by
  have hal := alive07
  have hlo := fun W => long07_any W (o.mss : Int) o.scale (o.val : Int) (o.echo : Int) o.sack o.time A o.bl.length c
  have hlp := fun W => long07_any W (p.mss : Int) p.scale (p.val : Int) (p.echo : Int) p.sack p.time B p.bl.length e
  have hb0 : Below w.heap.size w w := Below.refl _ _
  have HB := Lib.hid hb0
  clear hb0
  unfold optC
  by_cases h1 : o.bl.length > 100
  · have j1 : decide ((o.bl.length : Int) > 100) = true := by simp; omega
    rw [j1] at hlo
    clear j1
    have Hal := Lib.hid hal
    clear hal
    have Hlo := Lib.hid hlo
    clear hlo
    have Hlp := Lib.hid hlp
    clear hlp
    go_enter Try.func3, Try.ntmps3
    go_upto_region 1 with fail
    have ho := Blk.alloc (Blk.new w 26 #[.int .u16 (o.mss : Int), .int .i64 o.scale, .bool o.sack, .slice A o.bl.length c, .bool o.time, .int .u32 (o.val : Int), .int .u32 (o.echo : Int)]) (.cells #[.int .u16 (p.mss : Int), .int .i64 p.scale, .bool p.sack, .slice B p.bl.length e, .bool p.time, .int .u32 (p.val : Int), .int .u32 (p.echo : Int)] 26)
    have hp := Blk.new (w.alloc (.cells #[.int .u16 (o.mss : Int), .int .i64 o.scale, .bool o.sack, .slice A o.bl.length c, .bool o.time, .int .u32 (o.val : Int), .int .u32 (o.echo : Int)] 26)) 26 #[.int .u16 (p.mss : Int), .int .i64 p.scale, .bool p.sack, .slice B p.bl.length e, .bool p.time, .int .u32 (p.val : Int), .int .u32 (p.echo : Int)]
    rw [show (w.alloc (.cells #[.int .u16 (o.mss : Int), .int .i64 o.scale, .bool o.sack, .slice A o.bl.length c, .bool o.time, .int .u32 (o.val : Int), .int .u32 (o.echo : Int)] 26)).heap.size = w.heap.size + 1 by simp] at hp
    have hB := Below.alloc (Below.alloc (HB.out) (Nat.le_trans HB.out.size (by simp <;> omega)) (.cells #[.int .u16 (o.mss : Int), .int .i64 o.scale, .bool o.sack, .slice A o.bl.length c, .bool o.time, .int .u32 (o.val : Int), .int .u32 (o.echo : Int)] 26)) (Nat.le_trans HB.out.size (by simp <;> omega)) (.cells #[.int .u16 (p.mss : Int), .int .i64 p.scale, .bool p.sack, .slice B p.bl.length e, .bool p.time, .int .u32 (p.val : Int), .int .u32 (p.echo : Int)] 26)
    clear HB
    obtain ⟨gp, hgep⟩ : ∃ g, g = w.heap.size + 1 := ⟨_, rfl⟩
    rw [← hgep] at hp ⊢
    obtain ⟨go, hgeo⟩ : ∃ g, g = w.heap.size := ⟨_, rfl⟩
    rw [← hgeo] at ho ⊢
    have hne_o_p : go ≠ gp := by omega
    have hle_o : w.heap.size ≤ go := by omega
    have hle_p : w.heap.size ≤ gp := by omega
    clear hgeo hgep
    generalize (w.alloc _).alloc _ = wn1 at *
    have Ho := Lib.hid ho
    clear ho
    have Hp := Lib.hid hp
    clear hp
    have HB := Lib.hid hB
    clear hB
    obtain ⟨W1, hwnW1⟩ : ∃ W, W = wn1 := ⟨_, rfl⟩
    rw [← hwnW1] at Ho Hp HB ⊢
    clear hwnW1
    have d0 := Ho.out.cell 0
    have d1 := Ho.out.cell 1
    have d2 := Ho.out.cell 2
    have d3 := Ho.out.cell 3
    have d4 := Ho.out.cell 4
    have d5 := Ho.out.cell 5
    have d6 := Ho.out.cell 6
    simp at d0 d1 d2 d3 d4 d5 d6
    go_wp2_with fail
    (with_reducible refine (Hlo.out _).mono ?_)
    rintro e w2 ⟨rfl, hbq⟩
    have ho := Ho.out.below hbq Ho.out.lt
    clear Ho
    have Ho := Lib.hid ho
    clear ho
    have hp := Hp.out.below hbq Hp.out.lt
    clear Hp
    have Hp := Lib.hid hp
    clear hp
    have hB := HB.out.trans (hbq.mono HB.out.size)
    clear HB
    have HB := Lib.hid hB
    clear hB
    clear hbq
    clear d0 d1 d2 d3 d4 d5 d6
    go_wp2_with fail
    (with_reducible refine (Hal.out _).mono ?_)
    rintro e w9 ⟨rfl, hbq⟩
    have ho := Ho.out.below hbq Ho.out.lt
    clear Ho
    have Ho := Lib.hid ho
    clear ho
    have hp := Hp.out.below hbq Hp.out.lt
    clear Hp
    have Hp := Lib.hid hp
    clear hp
    have hB := HB.out.trans (hbq.mono HB.out.size)
    clear HB
    have HB := Lib.hid hB
    clear hB
    clear hbq
    go_wp2
    go_ret
    exact ⟨rfl, HB.out⟩
  have j1 : decide ((o.bl.length : Int) > 100) = false := by simp; omega
  rw [j1] at hlo
  clear j1
  by_cases h2 : p.bl.length > 100
  · have j1 : decide ((p.bl.length : Int) > 100) = true := by simp; omega
    rw [j1] at hlp
    clear j1
    have Hal := Lib.hid hal
    clear hal
    have Hlo := Lib.hid hlo
    clear hlo
    have Hlp := Lib.hid hlp
    clear hlp
    go_enter Try.func3, Try.ntmps3
    go_upto_region 1 with fail
    have ho := Blk.alloc (Blk.new w 26 #[.int .u16 (o.mss : Int), .int .i64 o.scale, .bool o.sack, .slice A o.bl.length c, .bool o.time, .int .u32 (o.val : Int), .int .u32 (o.echo : Int)]) (.cells #[.int .u16 (p.mss : Int), .int .i64 p.scale, .bool p.sack, .slice B p.bl.length e, .bool p.time, .int .u32 (p.val : Int), .int .u32 (p.echo : Int)] 26)
    have hp := Blk.new (w.alloc (.cells #[.int .u16 (o.mss : Int), .int .i64 o.scale, .bool o.sack, .slice A o.bl.length c, .bool o.time, .int .u32 (o.val : Int), .int .u32 (o.echo : Int)] 26)) 26 #[.int .u16 (p.mss : Int), .int .i64 p.scale, .bool p.sack, .slice B p.bl.length e, .bool p.time, .int .u32 (p.val : Int), .int .u32 (p.echo : Int)]
    rw [show (w.alloc (.cells #[.int .u16 (o.mss : Int), .int .i64 o.scale, .bool o.sack, .slice A o.bl.length c, .bool o.time, .int .u32 (o.val : Int), .int .u32 (o.echo : Int)] 26)).heap.size = w.heap.size + 1 by simp] at hp
    have hB := Below.alloc (Below.alloc (HB.out) (Nat.le_trans HB.out.size (by simp <;> omega)) (.cells #[.int .u16 (o.mss : Int), .int .i64 o.scale, .bool o.sack, .slice A o.bl.length c, .bool o.time, .int .u32 (o.val : Int), .int .u32 (o.echo : Int)] 26)) (Nat.le_trans HB.out.size (by simp <;> omega)) (.cells #[.int .u16 (p.mss : Int), .int .i64 p.scale, .bool p.sack, .slice B p.bl.length e, .bool p.time, .int .u32 (p.val : Int), .int .u32 (p.echo : Int)] 26)
    clear HB
    obtain ⟨gp, hgep⟩ : ∃ g, g = w.heap.size + 1 := ⟨_, rfl⟩
    rw [← hgep] at hp ⊢
    obtain ⟨go, hgeo⟩ : ∃ g, g = w.heap.size := ⟨_, rfl⟩
    rw [← hgeo] at ho ⊢
    have hne_o_p : go ≠ gp := by omega
    have hle_o : w.heap.size ≤ go := by omega
    have hle_p : w.heap.size ≤ gp := by omega
    clear hgeo hgep
    generalize (w.alloc _).alloc _ = wn4 at *
    have Ho := Lib.hid ho
    clear ho
    have Hp := Lib.hid hp
    clear hp
    have HB := Lib.hid hB
    clear hB
    obtain ⟨W1, hwnW1⟩ : ∃ W, W = wn4 := ⟨_, rfl⟩
    rw [← hwnW1] at Ho Hp HB ⊢
    clear hwnW1
    have d0 := Ho.out.cell 0
    have d1 := Ho.out.cell 1
    have d2 := Ho.out.cell 2
    have d3 := Ho.out.cell 3
    have d4 := Ho.out.cell 4
    have d5 := Ho.out.cell 5
    have d6 := Ho.out.cell 6
    simp at d0 d1 d2 d3 d4 d5 d6
    go_wp2_with fail
    (with_reducible refine (Hlo.out _).mono ?_)
    rintro e w2 ⟨rfl, hbq⟩
    have ho := Ho.out.below hbq Ho.out.lt
    clear Ho
    have Ho := Lib.hid ho
    clear ho
    have hp := Hp.out.below hbq Hp.out.lt
    clear Hp
    have Hp := Lib.hid hp
    clear hp
    have hB := HB.out.trans (hbq.mono HB.out.size)
    clear HB
    have HB := Lib.hid hB
    clear hB
    clear hbq
    clear d0 d1 d2 d3 d4 d5 d6
    have f0 := Hp.out.cell 0
    have f1 := Hp.out.cell 1
    have f2 := Hp.out.cell 2
    have f3 := Hp.out.cell 3
    have f4 := Hp.out.cell 4
    have f5 := Hp.out.cell 5
    have f6 := Hp.out.cell 6
    simp at f0 f1 f2 f3 f4 f5 f6
    go_wp2_with fail
    (with_reducible refine (Hlp.out _).mono ?_)
    rintro e w3 ⟨rfl, hbq⟩
    have ho := Ho.out.below hbq Ho.out.lt
    clear Ho
    have Ho := Lib.hid ho
    clear ho
    have hp := Hp.out.below hbq Hp.out.lt
    clear Hp
    have Hp := Lib.hid hp
    clear hp
    have hB := HB.out.trans (hbq.mono HB.out.size)
    clear HB
    have HB := Lib.hid hB
    clear hB
    clear hbq
    go_wp2_with fail
    (with_reducible refine (Hal.out _).mono ?_)
    rintro e w9 ⟨rfl, hbq⟩
    have ho := Ho.out.below hbq Ho.out.lt
    clear Ho
    have Ho := Lib.hid ho
    clear ho
    have hp := Hp.out.below hbq Hp.out.lt
    clear Hp
    have Hp := Lib.hid hp
    clear hp
    have hB := HB.out.trans (hbq.mono HB.out.size)
    clear HB
    have HB := Lib.hid hB
    clear hB
    clear hbq
    go_wp2
    go_ret
    exact ⟨rfl, HB.out⟩
  have j1 : decide ((p.bl.length : Int) > 100) = false := by simp; omega
  rw [j1] at hlp
  clear j1
  by_cases h3 : 1024 < x.size
  · have j3 : (1024 : Int) < (x.size : Int) := by omega
    have Hal := Lib.hid hal
    clear hal
    have Hlo := Lib.hid hlo
    clear hlo
    have Hlp := Lib.hid hlp
    clear hlp
    go_enter Try.func3, Try.ntmps3
    go_upto_region 1 with fail
    have ho := Blk.alloc (Blk.new w 26 #[.int .u16 (o.mss : Int), .int .i64 o.scale, .bool o.sack, .slice A o.bl.length c, .bool o.time, .int .u32 (o.val : Int), .int .u32 (o.echo : Int)]) (.cells #[.int .u16 (p.mss : Int), .int .i64 p.scale, .bool p.sack, .slice B p.bl.length e, .bool p.time, .int .u32 (p.val : Int), .int .u32 (p.echo : Int)] 26)
    have hp := Blk.new (w.alloc (.cells #[.int .u16 (o.mss : Int), .int .i64 o.scale, .bool o.sack, .slice A o.bl.length c, .bool o.time, .int .u32 (o.val : Int), .int .u32 (o.echo : Int)] 26)) 26 #[.int .u16 (p.mss : Int), .int .i64 p.scale, .bool p.sack, .slice B p.bl.length e, .bool p.time, .int .u32 (p.val : Int), .int .u32 (p.echo : Int)]
    rw [show (w.alloc (.cells #[.int .u16 (o.mss : Int), .int .i64 o.scale, .bool o.sack, .slice A o.bl.length c, .bool o.time, .int .u32 (o.val : Int), .int .u32 (o.echo : Int)] 26)).heap.size = w.heap.size + 1 by simp] at hp
    have hB := Below.alloc (Below.alloc (HB.out) (Nat.le_trans HB.out.size (by simp <;> omega)) (.cells #[.int .u16 (o.mss : Int), .int .i64 o.scale, .bool o.sack, .slice A o.bl.length c, .bool o.time, .int .u32 (o.val : Int), .int .u32 (o.echo : Int)] 26)) (Nat.le_trans HB.out.size (by simp <;> omega)) (.cells #[.int .u16 (p.mss : Int), .int .i64 p.scale, .bool p.sack, .slice B p.bl.length e, .bool p.time, .int .u32 (p.val : Int), .int .u32 (p.echo : Int)] 26)
    clear HB
    obtain ⟨gp, hgep⟩ : ∃ g, g = w.heap.size + 1 := ⟨_, rfl⟩
    rw [← hgep] at hp ⊢
    obtain ⟨go, hgeo⟩ : ∃ g, g = w.heap.size := ⟨_, rfl⟩
    rw [← hgeo] at ho ⊢
    have hne_o_p : go ≠ gp := by omega
    have hle_o : w.heap.size ≤ go := by omega
    have hle_p : w.heap.size ≤ gp := by omega
    clear hgeo hgep
    generalize (w.alloc _).alloc _ = wn8 at *
    have Ho := Lib.hid ho
    clear ho
    have Hp := Lib.hid hp
    clear hp
    have HB := Lib.hid hB
    clear hB
    obtain ⟨W1, hwnW1⟩ : ∃ W, W = wn8 := ⟨_, rfl⟩
    rw [← hwnW1] at Ho Hp HB ⊢
    clear hwnW1
    have d0 := Ho.out.cell 0
    have d1 := Ho.out.cell 1
    have d2 := Ho.out.cell 2
    have d3 := Ho.out.cell 3
    have d4 := Ho.out.cell 4
    have d5 := Ho.out.cell 5
    have d6 := Ho.out.cell 6
    simp at d0 d1 d2 d3 d4 d5 d6
    go_wp2_with fail
    (with_reducible refine (Hlo.out _).mono ?_)
    rintro e w2 ⟨rfl, hbq⟩
    have ho := Ho.out.below hbq Ho.out.lt
    clear Ho
    have Ho := Lib.hid ho
    clear ho
    have hp := Hp.out.below hbq Hp.out.lt
    clear Hp
    have Hp := Lib.hid hp
    clear hp
    have hB := HB.out.trans (hbq.mono HB.out.size)
    clear HB
    have HB := Lib.hid hB
    clear hB
    clear hbq
    clear d0 d1 d2 d3 d4 d5 d6
    have f0 := Hp.out.cell 0
    have f1 := Hp.out.cell 1
    have f2 := Hp.out.cell 2
    have f3 := Hp.out.cell 3
    have f4 := Hp.out.cell 4
    have f5 := Hp.out.cell 5
    have f6 := Hp.out.cell 6
    simp at f0 f1 f2 f3 f4 f5 f6
    go_wp2_with fail
    (with_reducible refine (Hlp.out _).mono ?_)
    rintro e w3 ⟨rfl, hbq⟩
    have ho := Ho.out.below hbq Ho.out.lt
    clear Ho
    have Ho := Lib.hid ho
    clear ho
    have hp := Hp.out.below hbq Hp.out.lt
    clear Hp
    have Hp := Lib.hid hp
    clear hp
    have hB := HB.out.trans (hbq.mono HB.out.size)
    clear HB
    have HB := Lib.hid hB
    clear hB
    clear hbq
    go_wp2_with fail
    (with_reducible refine (Hal.out _).mono ?_)
    rintro e w9 ⟨rfl, hbq⟩
    have ho := Ho.out.below hbq Ho.out.lt
    clear Ho
    have Ho := Lib.hid ho
    clear ho
    have hp := Hp.out.below hbq Hp.out.lt
    clear Hp
    have Hp := Lib.hid hp
    clear hp
    have hB := HB.out.trans (hbq.mono HB.out.size)
    clear HB
    have HB := Lib.hid hB
    clear hB
    clear hbq
    go_wp2
    go_ret
    exact ⟨rfl, HB.out⟩
  have j3 : ¬ (1024 : Int) < (x.size : Int) := by omega
  obtain ⟨ow, obr, ob1, ob2⟩ := w0
  obtain ⟨pw, pbr, pb1, pb2⟩ := w1
  have oe := fun W (hW : Below w.heap.size w W) => enc_any W o A c ow (obr.below hW) (by omega)
  have re := fun W (hW : Below w.heap.size w W) => renc_any W o A c ow (obr.below hW) (by omega)
  have om := fun W (hW : Below w.heap.size w W) => may_any W o A c ow (obr.below hW) (by omega)
  have rm := fun W (hW : Below w.heap.size w W) => rmay_any W o A c ow (obr.below hW) (by omega)
  have os := fun W (hW : Below w.heap.size w W) => same_any W o p A B c e (obr.below hW) (pbr.below hW) (by simp only [maxLen]; omega) (by simp only [maxLen]; omega)
  have rs := fun W (hW : Below w.heap.size w W) => rsame_any W o p A B c e (obr.below hW) (pbr.below hW) (by simp only [maxLen]; omega) (by simp only [maxLen]; omega)
  have nn := fun W => same_any W noneO noneO none none 0 0 (.inl rfl) (.inl rfl) (by decide) (by decide)
  simp only [sameB_self] at nn
  have d1 := dec_any x
  have d2 := rdec_any x
  generalize encR o = E at *
  generalize mayB o = m at *
  generalize sameB o p = V at *
  obtain ⟨E1, E2⟩ := E
  unfold optC at oe re om rm os rs nn
  simp only [noneO] at nn
  dsimp only at oe re
  have hdl := decR_bl x.data.toList
  have Oe := Lib.hid oe
  clear oe
  have Re := Lib.hid re
  clear re
  have Om := Lib.hid om
  clear om
  have Rm := Lib.hid rm
  clear rm
  have Os := Lib.hid os
  clear os
  have Rs := Lib.hid rs
  clear rs
  have Nn := Lib.hid nn
  clear nn
  have D1 := Lib.hid d1
  clear d1
  have D2 := Lib.hid d2
  clear d2
  have H1 := Lib.hid h1
  clear h1
  have H2 := Lib.hid h2
  clear h2
  have H3 := Lib.hid h3
  clear h3
  have Obr := Lib.hid obr
  clear obr
  have Pbr := Lib.hid pbr
  clear pbr
  have Hdl := Lib.hid hdl
  clear hdl
  clear ow pw ob1 ob2 pb1 pb2 w2
  have Hal := Lib.hid hal
  clear hal
  have Hlo := Lib.hid hlo
  clear hlo
  have Hlp := Lib.hid hlp
  clear hlp
  go_enter Try.func3, Try.ntmps3
  go_upto_region 1 with fail
  have ho := Blk.alloc (Blk.new w 26 #[.int .u16 (o.mss : Int), .int .i64 o.scale, .bool o.sack, .slice A o.bl.length c, .bool o.time, .int .u32 (o.val : Int), .int .u32 (o.echo : Int)]) (.cells #[.int .u16 (p.mss : Int), .int .i64 p.scale, .bool p.sack, .slice B p.bl.length e, .bool p.time, .int .u32 (p.val : Int), .int .u32 (p.echo : Int)] 26)
  have hp := Blk.new (w.alloc (.cells #[.int .u16 (o.mss : Int), .int .i64 o.scale, .bool o.sack, .slice A o.bl.length c, .bool o.time, .int .u32 (o.val : Int), .int .u32 (o.echo : Int)] 26)) 26 #[.int .u16 (p.mss : Int), .int .i64 p.scale, .bool p.sack, .slice B p.bl.length e, .bool p.time, .int .u32 (p.val : Int), .int .u32 (p.echo : Int)]
  rw [show (w.alloc (.cells #[.int .u16 (o.mss : Int), .int .i64 o.scale, .bool o.sack, .slice A o.bl.length c, .bool o.time, .int .u32 (o.val : Int), .int .u32 (o.echo : Int)] 26)).heap.size = w.heap.size + 1 by simp] at hp
  have hB := Below.alloc (Below.alloc (HB.out) (Nat.le_trans HB.out.size (by simp <;> omega)) (.cells #[.int .u16 (o.mss : Int), .int .i64 o.scale, .bool o.sack, .slice A o.bl.length c, .bool o.time, .int .u32 (o.val : Int), .int .u32 (o.echo : Int)] 26)) (Nat.le_trans HB.out.size (by simp <;> omega)) (.cells #[.int .u16 (p.mss : Int), .int .i64 p.scale, .bool p.sack, .slice B p.bl.length e, .bool p.time, .int .u32 (p.val : Int), .int .u32 (p.echo : Int)] 26)
  clear HB
  obtain ⟨gp, hgep⟩ : ∃ g, g = w.heap.size + 1 := ⟨_, rfl⟩
  rw [← hgep] at hp ⊢
  obtain ⟨go, hgeo⟩ : ∃ g, g = w.heap.size := ⟨_, rfl⟩
  rw [← hgeo] at ho ⊢
  have hne_o_p : go ≠ gp := by omega
  have hle_o : w.heap.size ≤ go := by omega
  have hle_p : w.heap.size ≤ gp := by omega
  clear hgeo hgep
  generalize (w.alloc _).alloc _ = wn12 at *
  have Ho := Lib.hid ho
  clear ho
  have Hp := Lib.hid hp
  clear hp
  have HB := Lib.hid hB
  clear hB
  obtain ⟨W1, hwnW1⟩ : ∃ W, W = wn12 := ⟨_, rfl⟩
  rw [← hwnW1] at Ho Hp HB ⊢
  clear hwnW1
  have d0 := Ho.out.cell 0
  have d1 := Ho.out.cell 1
  have d2 := Ho.out.cell 2
  have d3 := Ho.out.cell 3
  have d4 := Ho.out.cell 4
  have d5 := Ho.out.cell 5
  have d6 := Ho.out.cell 6
  simp at d0 d1 d2 d3 d4 d5 d6
  go_wp2_with fail
  (with_reducible refine (Hlo.out _).mono ?_)
  rintro e w2 ⟨rfl, hbq⟩
  have ho := Ho.out.below hbq Ho.out.lt
  clear Ho
  have Ho := Lib.hid ho
  clear ho
  have hp := Hp.out.below hbq Hp.out.lt
  clear Hp
  have Hp := Lib.hid hp
  clear hp
  have hB := HB.out.trans (hbq.mono HB.out.size)
  clear HB
  have HB := Lib.hid hB
  clear hB
  clear hbq
  clear d0 d1 d2 d3 d4 d5 d6
  have f0 := Hp.out.cell 0
  have f1 := Hp.out.cell 1
  have f2 := Hp.out.cell 2
  have f3 := Hp.out.cell 3
  have f4 := Hp.out.cell 4
  have f5 := Hp.out.cell 5
  have f6 := Hp.out.cell 6
  simp at f0 f1 f2 f3 f4 f5 f6
  go_wp2_with fail
  (with_reducible refine (Hlp.out _).mono ?_)
  rintro e w3 ⟨rfl, hbq⟩
  have ho := Ho.out.below hbq Ho.out.lt
  clear Ho
  have Ho := Lib.hid ho
  clear ho
  have hp := Hp.out.below hbq Hp.out.lt
  clear Hp
  have Hp := Lib.hid hp
  clear hp
  have hB := HB.out.trans (hbq.mono HB.out.size)
  clear HB
  have HB := Lib.hid hB
  clear hB
  clear hbq
  clear f0 f1 f2 f3 f4 f5 f6
  have d0 := Ho.out.cell 0
  have d1 := Ho.out.cell 1
  have d2 := Ho.out.cell 2
  have d3 := Ho.out.cell 3
  have d4 := Ho.out.cell 4
  have d5 := Ho.out.cell 5
  have d6 := Ho.out.cell 6
  simp at d0 d1 d2 d3 d4 d5 d6
  go_wp2_with fail
  (with_reducible refine (Oe.out _ HB.out).mono ?_)
  rintro e w4 ⟨rfl, hbq⟩
  have ho := Ho.out.below hbq Ho.out.lt
  clear Ho
  have Ho := Lib.hid ho
  clear ho
  have hp := Hp.out.below hbq Hp.out.lt
  clear Hp
  have Hp := Lib.hid hp
  clear hp
  have hB := HB.out.trans (hbq.mono HB.out.size)
  clear HB
  have HB := Lib.hid hB
  clear hB
  clear hbq
  clear d0 d1 d2 d3 d4 d5 d6
  have d0 := Ho.out.cell 0
  have d1 := Ho.out.cell 1
  have d2 := Ho.out.cell 2
  have d3 := Ho.out.cell 3
  have d4 := Ho.out.cell 4
  have d5 := Ho.out.cell 5
  have d6 := Ho.out.cell 6
  simp at d0 d1 d2 d3 d4 d5 d6
  go_wp2_with fail
  (with_reducible refine (Re.out _ HB.out).mono ?_)
  rintro e w5 ⟨rfl, hbq⟩
  have ho := Ho.out.below hbq Ho.out.lt
  clear Ho
  have Ho := Lib.hid ho
  clear ho
  have hp := Hp.out.below hbq Hp.out.lt
  clear Hp
  have Hp := Lib.hid hp
  clear hp
  have hB := HB.out.trans (hbq.mono HB.out.size)
  clear HB
  have HB := Lib.hid hB
  clear hB
  clear hbq
  go_wp2_with fail
  with_reducible refine (D1.out _).mono ?_
  rintro e1 w6 ⟨r, A1, c1, code, rfl, hbr, hbq, hre⟩
  clear d0 d1 d2 d3 d4 d5 d6
  have ho := Ho.out.below hbq Ho.out.lt
  clear Ho
  have Ho := Lib.hid ho
  clear ho
  have hp := Hp.out.below hbq Hp.out.lt
  clear Hp
  have Hp := Lib.hid hp
  clear hp
  have hB := HB.out.trans (hbq.mono HB.out.size)
  clear HB
  have HB := Lib.hid hB
  clear hB
  clear hbq
  unfold optC
  go_upto_region 6 with fail
  have hbr6 := hbr.below ((Below.refl _ w6).alloc (Nat.le_refl _) (.cells #[.int .u16 (r.mss : Int), .int .i64 r.scale, .bool r.sack, .slice A1 r.bl.length c1, .bool r.time, .int .u32 (r.val : Int), .int .u32 (r.echo : Int)] 26))
  have hq := Blk.new w6 26 #[.int .u16 (r.mss : Int), .int .i64 r.scale, .bool r.sack, .slice A1 r.bl.length c1, .bool r.time, .int .u32 (r.val : Int), .int .u32 (r.echo : Int)]
  have ho := Blk.alloc Ho.out (.cells #[.int .u16 (r.mss : Int), .int .i64 r.scale, .bool r.sack, .slice A1 r.bl.length c1, .bool r.time, .int .u32 (r.val : Int), .int .u32 (r.echo : Int)] 26)
  clear Ho
  have hp := Blk.alloc Hp.out (.cells #[.int .u16 (r.mss : Int), .int .i64 r.scale, .bool r.sack, .slice A1 r.bl.length c1, .bool r.time, .int .u32 (r.val : Int), .int .u32 (r.echo : Int)] 26)
  clear Hp
  have hB := HB.out.alloc HB.out.size (.cells #[.int .u16 (r.mss : Int), .int .i64 r.scale, .bool r.sack, .slice A1 r.bl.length c1, .bool r.time, .int .u32 (r.val : Int), .int .u32 (r.echo : Int)] 26)
  clear HB
  obtain ⟨gq, hge⟩ : ∃ g, g = w6.heap.size := ⟨_, rfl⟩
  rw [← hge] at hq ⊢
  have hle_q : w6.heap.size ≤ gq := by omega
  clear hge
  generalize w6.alloc _ = wn17 at *
  have Ho := Lib.hid ho
  clear ho
  have Hp := Lib.hid hp
  clear hp
  have Hq := Lib.hid hq
  clear hq
  have HB := Lib.hid hB
  clear hB
  obtain ⟨W6, hwnW6⟩ : ∃ W, W = wn17 := ⟨_, rfl⟩
  rw [← hwnW6] at Ho Hp Hq HB hbr6 ⊢
  clear hwnW6
  go_wp2_with fail
  with_reducible refine (D2.out _).mono ?_
  rintro e2 w7 ⟨r2, A2, c2, code2, rfl, hbr2, hbq, hre2⟩
  have hbr7 := hbr6.below hbq
  clear hbr hbr6
  have ho := Ho.out.below hbq Ho.out.lt
  clear Ho
  have Ho := Lib.hid ho
  clear ho
  have hp := Hp.out.below hbq Hp.out.lt
  clear Hp
  have Hp := Lib.hid hp
  clear hp
  have hq := Hq.out.below hbq Hq.out.lt
  clear Hq
  have Hq := Lib.hid hq
  clear hq
  have hB := HB.out.trans (hbq.mono HB.out.size)
  clear HB
  have HB := Lib.hid hB
  clear hB
  clear hbq
  have hee : (r, code) = (r2, code2) := hre.trans hre2.symm
  injection hee with he1 he2
  subst he1 he2
  have hrbl : r.bl.length ≤ 2000 := by have := Hdl.out; rw [← hre] at this; exact this
  clear hre hre2 Hdl
  unfold optC
  go_upto_region 7 with fail
  have hbr8 := hbr7.below ((Below.refl _ w7).alloc (Nat.le_refl _) (.cells #[.int .u16 (r.mss : Int), .int .i64 r.scale, .bool r.sack, .slice A2 r.bl.length c2, .bool r.time, .int .u32 (r.val : Int), .int .u32 (r.echo : Int)] 26))
  have hbr9 := hbr2.below ((Below.refl _ w7).alloc (Nat.le_refl _) (.cells #[.int .u16 (r.mss : Int), .int .i64 r.scale, .bool r.sack, .slice A2 r.bl.length c2, .bool r.time, .int .u32 (r.val : Int), .int .u32 (r.echo : Int)] 26))
  clear hbr7 hbr2
  have hq2 := Blk.new w7 26 #[.int .u16 (r.mss : Int), .int .i64 r.scale, .bool r.sack, .slice A2 r.bl.length c2, .bool r.time, .int .u32 (r.val : Int), .int .u32 (r.echo : Int)]
  have ho := Blk.alloc Ho.out (.cells #[.int .u16 (r.mss : Int), .int .i64 r.scale, .bool r.sack, .slice A2 r.bl.length c2, .bool r.time, .int .u32 (r.val : Int), .int .u32 (r.echo : Int)] 26)
  clear Ho
  have hp := Blk.alloc Hp.out (.cells #[.int .u16 (r.mss : Int), .int .i64 r.scale, .bool r.sack, .slice A2 r.bl.length c2, .bool r.time, .int .u32 (r.val : Int), .int .u32 (r.echo : Int)] 26)
  clear Hp
  have hq := Blk.alloc Hq.out (.cells #[.int .u16 (r.mss : Int), .int .i64 r.scale, .bool r.sack, .slice A2 r.bl.length c2, .bool r.time, .int .u32 (r.val : Int), .int .u32 (r.echo : Int)] 26)
  clear Hq
  have hB := HB.out.alloc HB.out.size (.cells #[.int .u16 (r.mss : Int), .int .i64 r.scale, .bool r.sack, .slice A2 r.bl.length c2, .bool r.time, .int .u32 (r.val : Int), .int .u32 (r.echo : Int)] 26)
  clear HB
  obtain ⟨gq2, hge⟩ : ∃ g, g = w7.heap.size := ⟨_, rfl⟩
  rw [← hge] at hq2 ⊢
  have hle_q2 : w7.heap.size ≤ gq2 := by omega
  clear hge
  generalize w7.alloc _ = wn18 at *
  have Ho := Lib.hid ho
  clear ho
  have Hp := Lib.hid hp
  clear hp
  have Hq := Lib.hid hq
  clear hq
  have Hq2 := Lib.hid hq2
  clear hq2
  have HB := Lib.hid hB
  clear hB
  obtain ⟨W8, hwnW8⟩ : ∃ W, W = wn18 := ⟨_, rfl⟩
  rw [← hwnW8] at Ho Hp Hq Hq2 HB hbr8 hbr9 ⊢
  clear hwnW8
  have qo : ∀ y : Cls (Fresh W8), Blk y.w go 26 #[.int .u16 (o.mss : Int), .int .i64 o.scale, .bool o.sack, .slice A o.bl.length c, .bool o.time, .int .u32 (o.val : Int), .int .u32 (o.echo : Int)] := fun y => Ho.out.below y.h Ho.out.lt
  have qp : ∀ y : Cls (Fresh W8), Blk y.w gp 26 #[.int .u16 (p.mss : Int), .int .i64 p.scale, .bool p.sack, .slice B p.bl.length e, .bool p.time, .int .u32 (p.val : Int), .int .u32 (p.echo : Int)] := fun y => Hp.out.below y.h Hp.out.lt
  have qq : ∀ y : Cls (Fresh W8), Blk y.w gq 26 #[.int .u16 (r.mss : Int), .int .i64 r.scale, .bool r.sack, .slice A1 r.bl.length c1, .bool r.time, .int .u32 (r.val : Int), .int .u32 (r.echo : Int)] := fun y => Hq.out.below y.h Hq.out.lt
  have qr : ∀ y : Cls (Fresh W8), Blk y.w gq2 26 #[.int .u16 (r.mss : Int), .int .i64 r.scale, .bool r.sack, .slice A2 r.bl.length c2, .bool r.time, .int .u32 (r.val : Int), .int .u32 (r.echo : Int)] := fun y => Hq2.out.below y.h Hq2.out.lt
  have hS0 : Fresh W8 W8.drew := Fresh.below (Below.refl _ _) (Below.drew (Below.refl _ _))
  have ne : Nonempty (Cls (Fresh W8)) := ⟨⟨W8, Below.refl _ _⟩⟩
  have hw8 : ∀ y : Cls (Fresh W8), Below w.heap.size w y.w := fun y => HB.out.trans (Below.mono y.h HB.out.size)
  have k1 : ∀ y : Cls (Fresh W8), _ := fun y => (Om.out y.w (hw8 y)).mono fun e1 w1 ⟨he, hb⟩ => (⟨he, Fresh.below y.h hb, hb⟩ : e1 = _ ∧ Fresh W8 w1 ∧ Below y.w.heap.size y.w w1)
  have k2 : ∀ y : Cls (Fresh W8), _ := fun y => (Rm.out y.w (hw8 y)).mono fun e1 w1 ⟨he, hb⟩ => (⟨he, Fresh.below y.h hb, hb⟩ : e1 = _ ∧ Fresh W8 w1 ∧ Below y.w.heap.size y.w w1)
  have k3 : ∀ y : Cls (Fresh W8), _ := fun y => (Os.out y.w (hw8 y)).mono fun e1 w1 ⟨he, hb⟩ => (⟨he, Fresh.below y.h hb, hb⟩ : e1 = _ ∧ Fresh W8 w1 ∧ Below y.w.heap.size y.w w1)
  have k4 : ∀ y : Cls (Fresh W8), _ := fun y => (Rs.out y.w (hw8 y)).mono fun e1 w1 ⟨he, hb⟩ => (⟨he, Fresh.below y.h hb, hb⟩ : e1 = _ ∧ Fresh W8 w1 ∧ Below y.w.heap.size y.w w1)
  have k5 : ∀ y : Cls (Fresh W8), _ := fun y => (none_any y.w).mono fun e1 w1 ⟨he, hb⟩ => (⟨he, Fresh.below y.h hb, hb⟩ : e1 = _ ∧ Fresh W8 w1 ∧ Below y.w.heap.size y.w w1)
  have k6 : ∀ y : Cls (Fresh W8), _ := fun y => (rnone_any y.w).mono fun e1 w1 ⟨he, hb⟩ => (⟨he, Fresh.below y.h hb, hb⟩ : e1 = _ ∧ Fresh W8 w1 ∧ Below y.w.heap.size y.w w1)
  have k7 : ∀ y : Cls (Fresh W8), _ := fun y => (Nn.out y.w).mono fun e1 w1 ⟨he, hb⟩ => (⟨he, Fresh.below y.h hb, hb⟩ : e1 = _ ∧ Fresh W8 w1 ∧ Below y.w.heap.size y.w w1)
  have k9 : ∀ y : Cls (Fresh W8), _ := fun y => (Hal.out y.w).mono fun e1 w1 ⟨he, hb⟩ => (⟨he, Fresh.below y.h hb, hb⟩ : e1 = _ ∧ Fresh W8 w1 ∧ Below y.w.heap.size y.w w1)
  have k8 : ∀ y : Cls (Fresh W8), Calls Try.prog 16 #[.agg #[.int .u16 (r.mss : Int), .int .i64 r.scale, .bool r.sack, .slice A1 r.bl.length c1, .bool r.time, .int .u32 (r.val : Int), .int .u32 (r.echo : Int)], .agg #[.int .u16 (r.mss : Int), .int .i64 r.scale, .bool r.sack, .slice A2 r.bl.length c2, .bool r.time, .int .u32 (r.val : Int), .int .u32 (r.echo : Int)]] y.w fun e1 w1 => e1 = .returned (.bool true) ∧ Fresh W8 w1 ∧ Below y.w.heap.size y.w w1 := fun y => by
    have := rsame_any y.w r r A1 A2 c1 c2 (hbr8.below y.h) (hbr9.below y.h) (by simp only [maxLen]; omega) (by simp only [maxLen]; omega)
    rw [sameB_self] at this
    exact this.mono fun e1 w1 ⟨he, hb⟩ => ⟨he, Fresh.below y.h hb, hb⟩
  have f1 : ∀ (vals : Array Value) (w : World), (callFunc 13 vals).run Try.prog w = .ok (.enter 13 vals) w := fun _ _ => by kernel_rfl
  have f2 : ∀ (vals : Array Value) (w : World), (callFunc 14 vals).run Try.prog w = .ok (.enter 14 vals) w := fun _ _ => by kernel_rfl
  have f3 : ∀ (vals : Array Value) (w : World), (callFunc 15 vals).run Try.prog w = .ok (.enter 15 vals) w := fun _ _ => by kernel_rfl
  have f4 : ∀ (vals : Array Value) (w : World), (callFunc 16 vals).run Try.prog w = .ok (.enter 16 vals) w := fun _ _ => by kernel_rfl
  have f5 : ∀ (vals : Array Value) (w : World), (callFunc 17 vals).run Try.prog w = .ok (.enter 17 vals) w := fun _ _ => by kernel_rfl
  have f6 : ∀ (vals : Array Value) (w : World), (callFunc 18 vals).run Try.prog w = .ok (.enter 18 vals) w := fun _ _ => by kernel_rfl
  have f9 : ∀ (vals : Array Value) (w : World), (callFunc 8 vals).run Try.prog w = .ok (.enter 8 vals) w := fun _ _ => by kernel_rfl
  clear hbr8 hbr9 hw8
  have Qo := Lib.hid qo
  clear qo
  have Qp := Lib.hid qp
  clear qp
  have Qq := Lib.hid qq
  clear qq
  have Qr := Lib.hid qr
  clear qr
  have HS0 := Lib.hid hS0
  clear hS0
  have K1 := Lib.hid k1
  clear k1
  have K2 := Lib.hid k2
  clear k2
  have K3 := Lib.hid k3
  clear k3
  have K4 := Lib.hid k4
  clear k4
  have K5 := Lib.hid k5
  clear k5
  have K6 := Lib.hid k6
  clear k6
  have K7 := Lib.hid k7
  clear k7
  have K8 := Lib.hid k8
  clear k8
  have K9 := Lib.hid k9
  clear k9
  have F1 := Lib.hid f1
  clear f1
  have F2 := Lib.hid f2
  clear f2
  have F3 := Lib.hid f3
  clear f3
  have F4 := Lib.hid f4
  clear f4
  have F5 := Lib.hid f5
  clear f5
  have F6 := Lib.hid f6
  clear f6
  have F9 := Lib.hid f9
  clear f9
  have Hrbl := Lib.hid hrbl
  clear hrbl
  refine wp_region_flow 43 (Fresh W8) (fun w w' => Below w.heap.size w w') (by kernel_rfl) (by kernel_rfl) (by kernel_rfl) (fun w => Below.refl _ _) HS0.out ?_
  simp only [List.take_succ_cons, List.take_zero, List.drop_succ_cons, List.drop_zero]
  repeat (first
    | (refine flow_load go _ Qo.out optsU optsI rfl (fun w => Below.refl _ _) rfl rfl rfl W8 ?_; intro K hK; go_big_quiet_op; go_big_quiet_on)
    | (refine flow_load gp _ Qp.out optsU optsI rfl (fun w => Below.refl _ _) rfl rfl rfl W8 ?_; intro K hK; go_big_quiet_op; go_big_quiet_on)
    | (refine flow_load gq _ Qq.out optsU optsI rfl (fun w => Below.refl _ _) rfl rfl rfl W8 ?_; intro K hK; go_big_quiet_op; go_big_quiet_on)
    | (refine flow_load gq2 _ Qr.out optsU optsI rfl (fun w => Below.refl _ _) rfl rfl rfl W8 ?_; intro K hK; go_big_quiet_op; go_big_quiet_on)
    | (refine flow_quiet (fun w => Below.refl _ _) rfl rfl rfl rfl ?_; intro K hK; go_big_quiet_op; go_big_quiet_on)
    | (refine flow_call F1.out _ ?_ rfl rfl rfl _ K1.out W8 ?_; (focus (simp only [List.map_toArray, List.map_cons, List.map_nil]; rfl)); intro K hK; go_big_quiet_op; go_big_quiet_on)
    | (refine flow_call F2.out _ ?_ rfl rfl rfl _ K2.out W8 ?_; (focus (simp only [List.map_toArray, List.map_cons, List.map_nil]; rfl)); intro K hK; go_big_quiet_op; go_big_quiet_on)
    | (refine flow_call F3.out _ ?_ rfl rfl rfl _ K3.out W8 ?_; (focus (simp only [List.map_toArray, List.map_cons, List.map_nil]; rfl)); intro K hK; go_big_quiet_op; go_big_quiet_on)
    | (refine flow_call F4.out _ ?_ rfl rfl rfl _ K4.out W8 ?_; (focus (simp only [List.map_toArray, List.map_cons, List.map_nil]; rfl)); intro K hK; go_big_quiet_op; go_big_quiet_on)
    | (refine flow_call F5.out #[] (by simp only [List.map_toArray, List.map_nil]) rfl rfl rfl _ K5.out W8 ?_; intro K hK; go_big_quiet_op; go_big_quiet_on)
    | (refine flow_call F6.out #[] (by simp only [List.map_toArray, List.map_nil]) rfl rfl rfl _ K6.out W8 ?_; intro K hK; go_big_quiet_op; go_big_quiet_on)
    | (refine flow_call F3.out _ ?_ rfl rfl rfl _ K7.out W8 ?_; (focus (simp only [List.map_toArray, List.map_cons, List.map_nil]; rfl)); intro K hK; go_big_quiet_op; go_big_quiet_on)
    | (refine flow_call F4.out _ ?_ rfl rfl rfl _ K8.out W8 ?_; (focus (simp only [List.map_toArray, List.map_cons, List.map_nil]; rfl)); intro K hK; go_big_quiet_op; go_big_quiet_on)
    | (refine flow_call F9.out #[] (by simp only [List.map_toArray, List.map_nil]) rfl rfl rfl _ K9.out W8 ?_; intro K hK; go_big_quiet_op; go_big_quiet_on))
  refine flow_nil ?_
  intro W5 f hW5 hF5
  clear hF5
  simp only [fillW]
  have hB5 : Below w.heap.size w W5 := HB.out.trans (Below.mono hW5 HB.out.size)
  clear hW5 ne
  have HB5 := Lib.hid hB5
  clear hB5
  go_wp2
  go_ret
  exact ⟨rfl, HB5.out⟩
theorem own : ownKnob Try.prog.godebug = none := by kernel_rfl
theorem laidOut : laidOutB Try.prog = true := by kernel_rfl
set_option maxRecDepth 100000 in
theorem lifted (os : Os) (started : os.Started) (H : Type) (enc : TypeId × Value → H) :
    ReturnsInHanded {} Try.checked os 3 .any (Rows.optTellsSpec.pre6 enc Try.prog Try.f3 Rows.optTellsRow.domain false) (Rows.optTellsSpec.post enc Try.prog Try.f3 false true false false) := by
  refine returnsInHanded_of_change (C := Try.checked) own started (by kernel_rfl) Try.func3
    (ChangeSpec.witness6 (enc := enc) (C := Try.checked) false ⟨#[], #[.agg #[.int .u16 0, .int .i64 0, .bool false, .slice none 0 0, .bool false, .int .u32 0, .int .u32 0], .agg #[.int .u16 0, .int .i64 0, .bool false, .slice none 0 0, .bool false, .int .u32 0, .int .u32 0], .string ByteArray.empty], []⟩ 8 (by kernel_rfl) (by kernel_rfl) (by kernel_rfl) (by kernel_rfl)) ?_
  intro W base args ds gs before hval0 hW hcnd _
  have hval : ∀ (j : Nat) t v, Try.f3.params[j]? = some t → args[j]? = some v → Value.okWide Try.prog W .any base t v := hval0
  have hW' := hW
  obtain ⟨p, q, hA0, hV, rfl, hfz, hnd⟩ := hW
  have hA : DataW.TrodAll enc Try.prog W 0 (fun _ => true) true Try.f3.params.toList args.toList ds p := hA0
  rw [Try.params3] at hA hval
  obtain ⟨v0, vs0, d0, ds0, p0, q0, hargs, rfl, rfl, h0, r0⟩ := trodAll_cons hA
  obtain ⟨v1, vs1, d1, ds1, p1, q1, rfl, rfl, rfl, h1, r1⟩ := trodAll_cons r0
  obtain ⟨v2, vs2, d2, ds2, p2, q2, rfl, rfl, rfl, h2, r2⟩ := trodAll_cons r1
  obtain ⟨rfl, rfl, rfl⟩ := trodAll_nil r2
  obtain rfl : args = #[v0, v1, v2] := by cases args; simp_all
  obtain ⟨rfl, rfl⟩ := trodVars_none hV
  have k0 := h0
  have lt0 : ∀ x ∈ p0, x.block < W.heap.size := by obtain ⟨m, hm⟩ := k0; exact DataW.trod_lt m _ _ _ hm
  obtain ⟨a0_0, a0_1, a0_2, rfl, w0⟩ := open_opts (hval 0 26 v0 rfl rfl) h0
  have k1 := h1
  have lt1 : ∀ x ∈ p1, x.block < W.heap.size := by obtain ⟨m, hm⟩ := k1; exact DataW.trod_lt m _ _ _ hm
  obtain ⟨a1_0, a1_1, a1_2, rfl, w1⟩ := open_opts (hval 1 26 v1 rfl rfl) h1
  obtain ⟨a2, rfl, rfl, rfl, w2⟩ := open_string Try.underlying9 (hval 2 9 v2 rfl rfl) h2
  clear hA0 hval0
  refine (walk a0_0 a0_1 a0_2 a1_0 a1_1 a1_2 a2 W w0 w1 w2).mono fun e W' ⟨he, bel⟩ => ?_
  subst he
  exact ⟨_, rfl, _, _, _, [], _, [], hW', trodAll_mk1 (shut_bool Try.underlying4 _), (trodAll_cons_mk (Below.trod laidOut (by kernel_rfl) (of_decide_eq_true (by kernel_rfl)) k0 bel lt0) (trodAll_cons_mk (Below.trod laidOut (by kernel_rfl) (of_decide_eq_true (by kernel_rfl)) k1 bel lt1) (trodAll_cons_mk (shut_string Try.underlying9 w2) trodAll_mk0))), rfl, bel.frame _, fun h => by cases h⟩

theorem over : Rows.optTellsRow.holds Try.pinned (OpenSpec.ofChange Rows.optTellsSpec) :=
  OpenClaim.holds_of_wide 3 Try.f3 rfl rfl rfl rfl rfl rfl rfl ⟨rfl, rfl, rfl, rfl, rfl⟩ rfl rfl rfl rfl rfl (by kernel_rfl) Try.func3 (by kernel_rfl)
    (of_decide_eq_true (by kernel_rfl)) (by unfold Func.isWrapper; first | (rw [if_pos (by decide +kernel)]; kernel_rfl) | (rw [if_neg (by decide +kernel)]; exact ⟨rfl, rfl⟩))
    (fun os started H enc _ => lifted os started H enc)

/-- THE STATEMENT -/
theorem proved : Rows.OptTellsSaid := over
#print axioms proved
end Go.Proofs.Ytimepplfaaddeaa.optTells
