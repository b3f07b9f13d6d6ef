/- The statement PktBack: what was written is read; a packet which is rewritten is read as the segment that was there, turned; and a segment's own packet, rewritten, is that of the segment, turned, byte by byte: for any segment, any bytes, any shift; and a known run goes as it must. -/
import Derived.Test.YtengegcnocdkoaaRe13
set_option linter.unusedVariables false
set_option linter.unusedSimpArgs false
set_option maxRecDepth 20000
namespace Go.Proofs.Ytengegcnocdkoaa.pktBack
open Go.ChangeShapes Go.WideShapes Go.ChangeAt Go.RowKit Go.BigFrame
open Go.ChangeMaps (open_string shut_string)
set_option maxHeartbeats 8000000 in
theorem walk (s : Sg) (A : Option Addr) (c : Nat) (x : ByteArray) (sh : Sh) (w : World) (w0 : SgF w s A c) (w1 : x.size ≤ maxLen) (w2 : sh.wf) :
    Calls Try.prog 6 #[.agg (s.c A c), .string x, .agg sh.c] w fun e w' => e = .returned (.bool true) ∧ Below w.heap.size w w' := by
  have hal := alive08
  have hb0 : Below w.heap.size w w := Below.refl _ _
  have HB := Lib.hid hb0
  clear hb0
  have hs := fun W => heavy_sg W s A c w0.n w0.d
  cases h1 : heavyB s with
  | true =>
    rw [h1] at hs
    have Hal := Lib.hid hal
    clear hal
    have Hs := Lib.hid hs
    clear hs
    go_enter Try.func6, Try.ntmps6
    go_upto_region 1 with fail
    have hp := Blk.alloc (Blk.new w 30 (s.c A c)) (.cells sh.c 46)
    have hx := Blk.new (w.alloc (.cells (s.c A c) 30)) 46 sh.c
    rw [show (w.alloc (.cells (s.c A c) 30)).heap.size = w.heap.size + 1 by simp] at hx
    have hB := Below.alloc (Below.alloc (HB.out) (Nat.le_trans HB.out.size (by simp <;> omega)) (.cells (s.c A c) 30)) (Nat.le_trans HB.out.size (by simp <;> omega)) (.cells sh.c 46)
    clear HB
    obtain ⟨gx, hgex⟩ : ∃ g, g = w.heap.size + 1 := ⟨_, rfl⟩
    rw [← hgex] at hx ⊢
    obtain ⟨gp, hgep⟩ : ∃ g, g = w.heap.size := ⟨_, rfl⟩
    rw [← hgep] at hp ⊢
    have hne_p_x : gp ≠ gx := by omega
    have hle_p : w.heap.size ≤ gp := by omega
    have hle_x : w.heap.size ≤ gx := by omega
    clear hgep hgex
    generalize (w.alloc _).alloc _ = wn1 at *
    have Hp := Lib.hid hp
    clear hp
    have Hx := Lib.hid hx
    clear hx
    have HB := Lib.hid hB
    clear hB
    obtain ⟨W1, hwnW1⟩ : ∃ W, W = wn1 := ⟨_, rfl⟩
    rw [← hwnW1] at Hp Hx HB ⊢
    clear hwnW1
    go_wp2_with (first | (refine wpl_load Hp.out segU segI rfl _ rfl rfl ?_))
    with_reducible refine (Hs.out _).mono ?_
    rintro e1 w2 ⟨rfl, hbq⟩
    have hp := Hp.out.below hbq Hp.out.lt
    clear Hp
    have Hp := Lib.hid hp
    clear hp
    have hx := Hx.out.below hbq Hx.out.lt
    clear Hx
    have Hx := Lib.hid hx
    clear hx
    have hB := HB.out.trans (hbq.mono HB.out.size)
    clear HB
    have HB := Lib.hid hB
    clear hB
    clear hbq
    go_wp2_with fail
    (with_reducible refine (Hal.out _).mono ?_)
    rintro e w9 ⟨rfl, hbq⟩
    have hp := Hp.out.below hbq Hp.out.lt
    clear Hp
    have Hp := Lib.hid hp
    clear hp
    have hx := Hx.out.below hbq Hx.out.lt
    clear Hx
    have Hx := Lib.hid hx
    clear hx
    have hB := HB.out.trans (hbq.mono HB.out.size)
    clear HB
    have HB := Lib.hid hB
    clear hB
    clear hbq
    go_wp2
    go_ret
    exact ⟨rfl, HB.out⟩
  | false =>
  rw [h1] at hs
  by_cases h2 : 4096 < x.size
  · have i2 : (4096 : Int) < (x.size : Int) := by omega
    have Hal := Lib.hid hal
    clear hal
    have Hs := Lib.hid hs
    clear hs
    go_enter Try.func6, Try.ntmps6
    go_upto_region 1 with fail
    have hp := Blk.alloc (Blk.new w 30 (s.c A c)) (.cells sh.c 46)
    have hx := Blk.new (w.alloc (.cells (s.c A c) 30)) 46 sh.c
    rw [show (w.alloc (.cells (s.c A c) 30)).heap.size = w.heap.size + 1 by simp] at hx
    have hB := Below.alloc (Below.alloc (HB.out) (Nat.le_trans HB.out.size (by simp <;> omega)) (.cells (s.c A c) 30)) (Nat.le_trans HB.out.size (by simp <;> omega)) (.cells sh.c 46)
    clear HB
    obtain ⟨gx, hgex⟩ : ∃ g, g = w.heap.size + 1 := ⟨_, rfl⟩
    rw [← hgex] at hx ⊢
    obtain ⟨gp, hgep⟩ : ∃ g, g = w.heap.size := ⟨_, rfl⟩
    rw [← hgep] at hp ⊢
    have hne_p_x : gp ≠ gx := by omega
    have hle_p : w.heap.size ≤ gp := by omega
    have hle_x : w.heap.size ≤ gx := by omega
    clear hgep hgex
    generalize (w.alloc _).alloc _ = wn3 at *
    have Hp := Lib.hid hp
    clear hp
    have Hx := Lib.hid hx
    clear hx
    have HB := Lib.hid hB
    clear hB
    obtain ⟨W1, hwnW1⟩ : ∃ W, W = wn3 := ⟨_, rfl⟩
    rw [← hwnW1] at Hp Hx HB ⊢
    clear hwnW1
    go_wp2_with (first | (refine wpl_load Hp.out segU segI rfl _ rfl rfl ?_))
    with_reducible refine (Hs.out _).mono ?_
    rintro e1 w2 ⟨rfl, hbq⟩
    have hp := Hp.out.below hbq Hp.out.lt
    clear Hp
    have Hp := Lib.hid hp
    clear hp
    have hx := Hx.out.below hbq Hx.out.lt
    clear Hx
    have Hx := Lib.hid hx
    clear hx
    have hB := HB.out.trans (hbq.mono HB.out.size)
    clear HB
    have HB := Lib.hid hB
    clear hB
    clear hbq
    go_wp2_with fail
    (with_reducible refine (Hal.out _).mono ?_)
    rintro e w9 ⟨rfl, hbq⟩
    have hp := Hp.out.below hbq Hp.out.lt
    clear Hp
    have Hp := Lib.hid hp
    clear hp
    have hx := Hx.out.below hbq Hx.out.lt
    clear Hx
    have Hx := Lib.hid hx
    clear hx
    have hB := HB.out.trans (hbq.mono HB.out.size)
    clear HB
    have HB := Lib.hid hB
    clear hB
    clear hbq
    go_wp2
    go_ret
    exact ⟨rfl, HB.out⟩
  have i2 : ¬ (4096 : Int) < (x.size : Int) := by omega
  have n1 := (heavyB_no h1).2
  have hl : x.data.toList.length ≤ 4096 := by have : x.data.toList.length = x.size := rfl; omega
  -- the text
  obtain ⟨t, ht⟩ : ∃ t, t = (pdecR x.data.toList).1 := ⟨_, rfl⟩
  obtain ⟨code, hcode⟩ : ∃ q, q = (pdecR x.data.toList).2 := ⟨_, rfl⟩
  have hp : pdecR x.data.toList = (t, code) := by rw [ht, hcode]
  have kD := fun W => pdec_is (x := x) rfl (by omega) hp W
  have kR := fun W => rew_any x _ rfl (by omega) sh w2 W
  have htw : t.wf ∧ t.o.bl.length ≤ 1000 := by
    have := pdecR_wf x.data.toList
    rw [hp] at this
    exact ⟨this.1, Nat.le_trans this.2 (by decide)⟩
  have hcR : (rewR x.data.toList sh).2 = code := by
    by_cases h0 : code = 0
    · rw [h0] at hp ⊢
      rw [(rew_pdec hp w2).2.1]
    · rw [rew_bad hp.symm h0]
  obtain ⟨Y, hYe⟩ : ∃ Y, Y = (rewR x.data.toList sh).1 := ⟨_, rfl⟩
  have hY : code = 0 → Y.data.toList = rewL x.data.toList sh ∧ (rewL x.data.toList sh).length ≤ 131072 ∧ pdecR (rewL x.data.toList sh) = (turnS t sh, 0) ∧ Y.size = x.size := by
    intro h0
    rw [h0] at hp
    obtain ⟨r1, r2, r3⟩ := rew_pdec hp w2
    rw [r2] at hYe
    have e1 : Y.data.toList = rewL x.data.toList sh := by rw [hYe]
    refine ⟨e1, by omega, r1, ?_⟩
    have : Y.size = Y.data.toList.length := rfl
    rw [this, e1, r3]
    rfl
  rw [← hYe, hcR] at kR
  have ke := fun W (hW : Below w.heap.size w W) => penc_any W s A c w0.ok (w0.r.below hW) (by omega) w0.d
  clear ht hcode hp hcR hYe
  generalize rewL x.data.toList sh = YL at *
  have KD := Lib.hid kD
  clear kD
  have KR := Lib.hid kR
  clear kR
  have Htw := Lib.hid htw
  clear htw
  have HY := Lib.hid hY
  clear hY
  cases hm : s.may with
  | false =>
    have hE : pencR s = (⟨#[]⟩, 2) := by unfold pencR; rw [hm]; rfl
    rw [hE] at ke
    have Ke := Lib.hid ke
    clear ke
    clear h1 h2 n1 w0 w2 hl hE w1 hm
    have Hal := Lib.hid hal
    clear hal
    have Hs := Lib.hid hs
    clear hs
    go_enter Try.func6, Try.ntmps6
    go_upto_region 1 with fail
    have hp := Blk.alloc (Blk.new w 30 (s.c A c)) (.cells sh.c 46)
    have hx := Blk.new (w.alloc (.cells (s.c A c) 30)) 46 sh.c
    rw [show (w.alloc (.cells (s.c A c) 30)).heap.size = w.heap.size + 1 by simp] at hx
    have hB := Below.alloc (Below.alloc (HB.out) (Nat.le_trans HB.out.size (by simp <;> omega)) (.cells (s.c A c) 30)) (Nat.le_trans HB.out.size (by simp <;> omega)) (.cells sh.c 46)
    clear HB
    obtain ⟨gx, hgex⟩ : ∃ g, g = w.heap.size + 1 := ⟨_, rfl⟩
    rw [← hgex] at hx ⊢
    obtain ⟨gp, hgep⟩ : ∃ g, g = w.heap.size := ⟨_, rfl⟩
    rw [← hgep] at hp ⊢
    have hne_p_x : gp ≠ gx := by omega
    have hle_p : w.heap.size ≤ gp := by omega
    have hle_x : w.heap.size ≤ gx := by omega
    clear hgep hgex
    generalize (w.alloc _).alloc _ = wn5 at *
    have Hp := Lib.hid hp
    clear hp
    have Hx := Lib.hid hx
    clear hx
    have HB := Lib.hid hB
    clear hB
    obtain ⟨W1, hwnW1⟩ : ∃ W, W = wn5 := ⟨_, rfl⟩
    rw [← hwnW1] at Hp Hx HB ⊢
    clear hwnW1
    go_wp2_with (first | (refine wpl_load Hp.out segU segI rfl _ rfl rfl ?_))
    with_reducible refine (Hs.out _).mono ?_
    rintro e1 w2 ⟨rfl, hbq⟩
    have hp := Hp.out.below hbq Hp.out.lt
    clear Hp
    have Hp := Lib.hid hp
    clear hp
    have hx := Hx.out.below hbq Hx.out.lt
    clear Hx
    have Hx := Lib.hid hx
    clear hx
    have hB := HB.out.trans (hbq.mono HB.out.size)
    clear HB
    have HB := Lib.hid hB
    clear hB
    clear hbq
    go_wp2_with (first | (refine wpl_load Hp.out segU segI rfl _ rfl rfl ?_))
    with_reducible refine (Ke.out _ HB.out).mono ?_
    rintro e3 w4 ⟨rfl, hbq⟩
    have hp := Hp.out.below hbq Hp.out.lt
    clear Hp
    have Hp := Lib.hid hp
    clear hp
    have hx := Hx.out.below hbq Hx.out.lt
    clear Hx
    have Hx := Lib.hid hx
    clear hx
    have hB := HB.out.trans (hbq.mono HB.out.size)
    clear HB
    have HB := Lib.hid hB
    clear hB
    clear hbq Ke
    -- the text
    go_wp2_with fail
    with_reducible refine (KD.out _).mono ?_
    rintro e5 w10 ⟨A5, c5, rfl, hbl5, hbq⟩
    have hp := Hp.out.below hbq Hp.out.lt
    clear Hp
    have Hp := Lib.hid hp
    clear hp
    have hx := Hx.out.below hbq Hx.out.lt
    clear Hx
    have Hx := Lib.hid hx
    clear hx
    have hB := HB.out.trans (hbq.mono HB.out.size)
    clear HB
    have HB := Lib.hid hB
    clear hB
    clear hbq
    go_upto_region 11 with (first | (refine wpl_put_new rfl (t.c A5 c5) segI_ rfl (by kernel_rfl) rfl _ _ rfl rfl rfl rfl ?_))
    have hbl5 := BlR.below hbl5 ((Below.refl w10.heap.size w10).alloc (Nat.le_refl _) (.cells (t.c A5 c5) 30))
    have hu := Blk.new w10 30 (t.c A5 c5)
    have hp := Blk.alloc Hp.out (.cells (t.c A5 c5) 30)
    clear Hp
    have hx := Blk.alloc Hx.out (.cells (t.c A5 c5) 30)
    clear Hx
    have hB := HB.out.alloc HB.out.size (.cells (t.c A5 c5) 30)
    clear HB
    obtain ⟨gu, hge⟩ : ∃ g, g = w10.heap.size := ⟨_, rfl⟩
    rw [← hge] at hu ⊢
    have hle_u : w10.heap.size ≤ gu := by omega
    clear hge
    generalize w10.alloc _ = w11 at *
    have Hp := Lib.hid hp
    clear hp
    have Hx := Lib.hid hx
    clear hx
    have Hu := Lib.hid hu
    clear hu
    have HB := Lib.hid hB
    clear hB
    have Hbl5 := Lib.hid hbl5
    clear hbl5
    go_wp2_with (first | (refine wpl_load Hx.out shU shI rfl _ rfl rfl ?_))
    with_reducible refine (KR.out _).mono ?_
    rintro e6 w12 ⟨rfl, hbq⟩
    have hbl6 := BlR.below Hbl5.out hbq
    clear Hbl5
    have Hbl6 := Lib.hid hbl6
    clear hbl6
    have hp := Hp.out.below hbq Hp.out.lt
    clear Hp
    have Hp := Lib.hid hp
    clear hp
    have hx := Hx.out.below hbq Hx.out.lt
    clear Hx
    have Hx := Lib.hid hx
    clear hx
    have hu := Hu.out.below hbq Hu.out.lt
    clear Hu
    have Hu := Lib.hid hu
    clear hu
    have hB := HB.out.trans (hbq.mono HB.out.size)
    clear HB
    have HB := Lib.hid hB
    clear hB
    clear hbq
    by_cases hc : code = 0
    · subst hc
      have hY := HY.out rfl
      have kt := fun W => pdec_is hY.1 hY.2.1 hY.2.2.1 W
      have hsz := hY.2.2.2
      have Kt := Lib.hid kt
      clear kt
      go_wp2_with fail
      with_reducible refine (Kt.out _).mono ?_
      rintro e7 w13 ⟨A7, c7, rfl, hbl7, hbq⟩
      have hbl7b := BlR.below Hbl6.out hbq
      clear Hbl6
      have hp := Hp.out.below hbq Hp.out.lt
      clear Hp
      have Hp := Lib.hid hp
      clear hp
      have hx := Hx.out.below hbq Hx.out.lt
      clear Hx
      have Hx := Lib.hid hx
      clear hx
      have hu := Hu.out.below hbq Hu.out.lt
      clear Hu
      have Hu := Lib.hid hu
      clear hu
      have hB := HB.out.trans (hbq.mono HB.out.size)
      clear HB
      have HB := Lib.hid hB
      clear hB
      clear hbq
      go_upto_region 16 with (first | (refine wpl_put_new rfl ((turnS t sh).c A7 c7) segI_ rfl (by kernel_rfl) rfl _ _ rfl rfl rfl rfl ?_))
      have hbl7 := BlR.below hbl7 ((Below.refl w13.heap.size w13).alloc (Nat.le_refl _) (.cells ((turnS t sh).c A7 c7) 30))
      have hbl7b := BlR.below hbl7b ((Below.refl w13.heap.size w13).alloc (Nat.le_refl _) (.cells ((turnS t sh).c A7 c7) 30))
      have hv := Blk.new w13 30 ((turnS t sh).c A7 c7)
      have hp := Blk.alloc Hp.out (.cells ((turnS t sh).c A7 c7) 30)
      clear Hp
      have hx := Blk.alloc Hx.out (.cells ((turnS t sh).c A7 c7) 30)
      clear Hx
      have hu := Blk.alloc Hu.out (.cells ((turnS t sh).c A7 c7) 30)
      clear Hu
      have hB := HB.out.alloc HB.out.size (.cells ((turnS t sh).c A7 c7) 30)
      clear HB
      obtain ⟨gv, hge⟩ : ∃ g, g = w13.heap.size := ⟨_, rfl⟩
      rw [← hge] at hv ⊢
      have hle_v : w13.heap.size ≤ gv := by omega
      clear hge
      generalize w13.alloc _ = wn7 at *
      have Hp := Lib.hid hp
      clear hp
      have Hx := Lib.hid hx
      clear hx
      have Hu := Lib.hid hu
      clear hu
      have Hv := Lib.hid hv
      clear hv
      have HB := Lib.hid hB
      clear hB
      obtain ⟨w14, hwnw14⟩ : ∃ W, W = wn7 := ⟨_, rfl⟩
      rw [← hwnw14] at Hp Hx Hu Hv HB hbl7 hbl7b ⊢
      clear hwnw14
      have qu : ∀ y : Cls (Fresh w14), Blk y.w gu 30 (t.c A5 c5) := fun y => Hu.out.below y.h Hu.out.lt
      have qv : ∀ y : Cls (Fresh w14), Blk y.w gv 30 ((turnS t sh).c A7 c7) := fun y => Hv.out.below y.h Hv.out.lt
      have qx : ∀ y : Cls (Fresh w14), Blk y.w gx 46 sh.c := fun y => Hx.out.below y.h Hx.out.lt
      have k1 : ∀ y : Cls (Fresh w14), Calls Try.prog 23 #[.agg (t.c A5 c5), .agg sh.c] y.w fun e w'' => ∃ v, e = .returned v ∧ segT (turnS t sh) [v] w'' ∧ Fresh w14 w'' ∧ Below y.w.heap.size y.w w'' := fun y => (pturned_any y.w t sh A5 c5 Htw.out.1 (BlR.below hbl7b y.h) Htw.out.2).mono fun e1 w1 ⟨A', c', he, hr, hb⟩ => ⟨_, he, ⟨A', c', rfl, hr⟩, Fresh.below y.h hb, hb⟩
      have hm : (turnS t sh).o.bl.length ≤ maxLen := by show (t.o.bl.map _).length ≤ _; rw [List.length_map]; exact Nat.le_trans Htw.out.2 (by decide)
      have k2 : ∀ (y : Cls (Fresh w14)) (u1 : Value), segT (turnS t sh) [u1] y.w → Calls Try.prog 15 #[.agg ((turnS t sh).c A7 c7), u1] y.w fun e w'' => e = .returned (.bool true) ∧ Fresh w14 w'' ∧ Below y.w.heap.size y.w w'' := by
        intro y u1 h1
        obtain ⟨A1, c1, rfl, b1⟩ := h1.is
        exact (psame_eq y.w (turnS t sh) A7 A1 c7 c1 (BlR.below hbl7 y.h) b1 hm).mono fun e1 w1 ⟨he, hb⟩ => ⟨he, Fresh.below y.h hb, hb⟩
      have fTurned : ∀ (vals : Array Value) (w : World), (callFunc 23 vals).run Try.prog w = .ok (.enter 23 vals) w := fun _ _ => by kernel_rfl
      have fSame : ∀ (vals : Array Value) (w : World), (callFunc 15 vals).run Try.prog w = .ok (.enter 15 vals) w := fun _ _ => by kernel_rfl
      have hS0 : Fresh w14 w14.drew := Fresh.below (Below.refl _ _) (Below.drew (Below.refl _ _))
      have ne : Nonempty (Cls (Fresh w14)) := ⟨⟨w14, Below.refl _ _⟩⟩
      clear hbl7 hbl7b
      have HS0 := Lib.hid hS0
      clear hS0
      have Qu := Lib.hid qu
      clear qu
      have Qv := Lib.hid qv
      clear qv
      have Qx := Lib.hid qx
      clear qx
      have K1 := Lib.hid k1
      clear k1
      have K2 := Lib.hid k2
      clear k2
      have FTurned := Lib.hid fTurned
      clear fTurned
      have FSame := Lib.hid fSame
      clear fSame
      have Hm := Lib.hid hm
      clear hm
      have hY0 : (Y.size : Int) = (x.size : Int) := by omega
      refine wp_region_flow 17 (Fresh w14) (fun w w' => Below w.heap.size w w') (by kernel_rfl) (by kernel_rfl) (by kernel_rfl) (fun w => Below.refl _ _) HS0.out ?_
      simp only [List.take_succ_cons, List.take_zero, List.drop_succ_cons, List.drop_zero]
      repeat (first
        | (refine flow_load gu _ Qu.out segU segI rfl (fun w => Below.refl _ _) rfl rfl rfl w14 ?_; intro K hK; go_big_quiet_op; go_big_quiet_on)
        | (refine flow_load gv _ Qv.out segU segI rfl (fun w => Below.refl _ _) rfl rfl rfl w14 ?_; intro K hK; go_big_quiet_op; go_big_quiet_on)
        | (refine flow_load gx _ Qx.out shU shI rfl (fun w => Below.refl _ _) rfl rfl rfl w14 ?_; intro K hK; go_big_quiet_op; go_big_quiet_on)
        | (refine flow_quiet (fun w => Below.refl _ _) rfl rfl rfl rfl ?_; intro K hK; go_big_quiet_op; go_big_quiet_on)
        | (refine flow_callF (segT (turnS t sh)) segT.of FTurned.out _ ?_ rfl K1.out rfl rfl w14 ?_; (focus (simp only [List.map_toArray, List.map_cons, List.map_nil]; rfl)); intro K hK; go_big_quiet_op; go_big_quiet_on)
        | (refine flow_callY FSame.out (.bool true) (fun u1 => #[.agg ((turnS t sh).c A7 c7), u1]) 0 rfl rfl (fun f => by rfl) K2.out rfl rfl w14 ?_; intro K hK; go_big_quiet_op; go_big_quiet_on))
      refine flow_nil ?_
      intro W5 f hW5 hF5
      clear hF5
      simp only [fillW, Act.put, List.setIfInBounds_toArray, List.set_cons_succ, List.set_cons_zero]
      generalize f 102 = v102
      have hB5 : Below w.heap.size w W5 := HB.out.trans (Below.mono hW5 HB.out.size)
      clear hW5 ne
      have HB5 := Lib.hid hB5
      clear hB5
      go_wp2_with fail
      with_reducible refine (Hal.out _).mono ?_
      rintro e8 w15 ⟨rfl, hbq⟩
      have hB6 := HB5.out.trans (Below.mono hbq HB5.out.size)
      clear hbq HB5
      have HB6 := Lib.hid hB6
      clear hB6
      go_wp2
      go_ret
      exact ⟨rfl, HB6.out⟩
    · have q1 : (code == 0) = false := by simpa using hc
      go_wp2_with fail
      (with_reducible refine (Hal.out _).mono ?_)
      rintro e w20 ⟨rfl, hbq⟩
      have hB := HB.out.trans (hbq.mono HB.out.size)
      clear HB
      have HB := Lib.hid hB
      clear hB
      clear hbq
      go_wp2
      go_ret
      exact ⟨rfl, HB.out⟩
  | true =>
    obtain ⟨X, hX⟩ : ∃ X : ByteArray, X = ⟨s.pl.toArray⟩ := ⟨_, rfl⟩
    have hXL : X.data.toList = s.pl := by rw [hX]
    have hE : pencR s = (X, 0) := by unfold pencR; rw [if_pos hm, hX]
    rw [hE] at ke
    obtain ⟨_, hl2, _, hl3⟩ := Sg.len w0.ok hm
    have hol := (Sg.len w0.ok hm).1
    have hpl : s.pl.length ≤ 131072 := by omega
    have hd1 := may_pdec w0.ok hm
    have kX := fun W => pdec_is hXL hpl hd1 W
    have r2 := (rew_pdec hd1 w2).2.1
    have hro := rew_own w0.ok hm w2
    have hmt := turn_may (x := sh) w0.ok hm
    have hwt := turnS_wf w0.ok w2
    have kZ := fun W => rew_any X s.pl hXL hpl sh w2 W
    rw [r2, hro] at kZ
    obtain ⟨Z, hZ⟩ : ∃ Z : ByteArray, Z = ⟨(turnS s sh).pl.toArray⟩ := ⟨_, rfl⟩
    rw [← hZ] at kZ
    have kT := fun W (hW : Below w.heap.size w W) => pturned_any W s sh A c w0.ok (w0.r.below hW) (by omega)
    have hblt : (turnS s sh).o.bl.length ≤ 1000 := by show (s.o.bl.map _).length ≤ _; rw [List.length_map]; omega
    have kE : ∀ (W : World) (A2 : Option Addr) (c2 : Nat), BlR W A2 (turnS s sh).o.bl → Calls Try.prog 11 #[.agg ((turnS s sh).c A2 c2)] W fun e w' => e = .returned (.tuple #[.string Z, .int .i64 0]) ∧ Below W.heap.size W w' := fun W A2 c2 hb => by
      have := penc_any W (turnS s sh) A2 c2 hwt hb hblt w0.d
      unfold pencR at this
      rw [if_pos hmt, ← hZ] at this
      exact this
    have kS := fun W (hW : Below w.heap.size w W) (A2 : Option Addr) (c2 : Nat) (hb : BlR W A2 s.o.bl) => psame_eq W s A A2 c c2 (w0.r.below hW) hb w0.n
    clear h1 h2 n1 w0 hl hE w1 hm hX hXL hl2 hl3 hol hpl hd1 r2 hro hmt hwt hZ hblt w2
    unfold TurnSP at kT
    generalize turnS s sh = ts at *
    have Ke := Lib.hid ke
    clear ke
    have KX := Lib.hid kX
    clear kX
    have KZ := Lib.hid kZ
    clear kZ
    have KT := Lib.hid kT
    clear kT
    have KE := Lib.hid kE
    clear kE
    have KS := Lib.hid kS
    clear kS
    have Hal := Lib.hid hal
    clear hal
    have Hs := Lib.hid hs
    clear hs
    go_enter Try.func6, Try.ntmps6
    go_upto_region 1 with fail
    have hp := Blk.alloc (Blk.new w 30 (s.c A c)) (.cells sh.c 46)
    have hx := Blk.new (w.alloc (.cells (s.c A c) 30)) 46 sh.c
    rw [show (w.alloc (.cells (s.c A c) 30)).heap.size = w.heap.size + 1 by simp] at hx
    have hB := Below.alloc (Below.alloc (HB.out) (Nat.le_trans HB.out.size (by simp <;> omega)) (.cells (s.c A c) 30)) (Nat.le_trans HB.out.size (by simp <;> omega)) (.cells sh.c 46)
    clear HB
    obtain ⟨gx, hgex⟩ : ∃ g, g = w.heap.size + 1 := ⟨_, rfl⟩
    rw [← hgex] at hx ⊢
    obtain ⟨gp, hgep⟩ : ∃ g, g = w.heap.size := ⟨_, rfl⟩
    rw [← hgep] at hp ⊢
    have hne_p_x : gp ≠ gx := by omega
    have hle_p : w.heap.size ≤ gp := by omega
    have hle_x : w.heap.size ≤ gx := by omega
    clear hgep hgex
    generalize (w.alloc _).alloc _ = wn9 at *
    have Hp := Lib.hid hp
    clear hp
    have Hx := Lib.hid hx
    clear hx
    have HB := Lib.hid hB
    clear hB
    obtain ⟨W1, hwnW1⟩ : ∃ W, W = wn9 := ⟨_, rfl⟩
    rw [← hwnW1] at Hp Hx HB ⊢
    clear hwnW1
    go_wp2_with (first | (refine wpl_load Hp.out segU segI rfl _ rfl rfl ?_))
    with_reducible refine (Hs.out _).mono ?_
    rintro e1 w2 ⟨rfl, hbq⟩
    have hp := Hp.out.below hbq Hp.out.lt
    clear Hp
    have Hp := Lib.hid hp
    clear hp
    have hx := Hx.out.below hbq Hx.out.lt
    clear Hx
    have Hx := Lib.hid hx
    clear hx
    have hB := HB.out.trans (hbq.mono HB.out.size)
    clear HB
    have HB := Lib.hid hB
    clear hB
    clear hbq
    go_wp2_with (first | (refine wpl_load Hp.out segU segI rfl _ rfl rfl ?_))
    with_reducible refine (Ke.out _ HB.out).mono ?_
    rintro e3 w4 ⟨rfl, hbq⟩
    have hp := Hp.out.below hbq Hp.out.lt
    clear Hp
    have Hp := Lib.hid hp
    clear hp
    have hx := Hx.out.below hbq Hx.out.lt
    clear Hx
    have Hx := Lib.hid hx
    clear hx
    have hB := HB.out.trans (hbq.mono HB.out.size)
    clear HB
    have HB := Lib.hid hB
    clear hB
    clear hbq Ke
    go_wp2_with fail
    with_reducible refine (KX.out _).mono ?_
    rintro e4 w5 ⟨A4, c4, rfl, hbl4, hbq⟩
    have hp := Hp.out.below hbq Hp.out.lt
    clear Hp
    have Hp := Lib.hid hp
    clear hp
    have hx := Hx.out.below hbq Hx.out.lt
    clear Hx
    have Hx := Lib.hid hx
    clear hx
    have hB := HB.out.trans (hbq.mono HB.out.size)
    clear HB
    have HB := Lib.hid hB
    clear hB
    clear hbq KX
    go_upto_region 6 with (first | (refine wpl_put_new rfl (s.c A4 c4) segI_ rfl (by kernel_rfl) rfl _ _ rfl rfl rfl rfl ?_))
    have hbl4 := BlR.below hbl4 ((Below.refl w5.heap.size w5).alloc (Nat.le_refl _) (.cells (s.c A4 c4) 30))
    have ho := Blk.new w5 30 (s.c A4 c4)
    have hp := Blk.alloc Hp.out (.cells (s.c A4 c4) 30)
    clear Hp
    have hx := Blk.alloc Hx.out (.cells (s.c A4 c4) 30)
    clear Hx
    have hB := HB.out.alloc HB.out.size (.cells (s.c A4 c4) 30)
    clear HB
    obtain ⟨go, hge⟩ : ∃ g, g = w5.heap.size := ⟨_, rfl⟩
    rw [← hge] at ho ⊢
    have hle_o : w5.heap.size ≤ go := by omega
    clear hge
    generalize w5.alloc _ = w6 at *
    have Hp := Lib.hid hp
    clear hp
    have Hx := Lib.hid hx
    clear hx
    have Ho := Lib.hid ho
    clear ho
    have HB := Lib.hid hB
    clear hB
    have Hbl4 := Lib.hid hbl4
    clear hbl4
    go_wp2_with (first | (refine wpl_load Hx.out shU shI rfl _ rfl rfl ?_))
    with_reducible refine (KZ.out _).mono ?_
    rintro e5 w7 ⟨rfl, hbq⟩
    have hbl5 := BlR.below Hbl4.out hbq
    clear Hbl4
    have Hbl5 := Lib.hid hbl5
    clear hbl5
    have hp := Hp.out.below hbq Hp.out.lt
    clear Hp
    have Hp := Lib.hid hp
    clear hp
    have hx := Hx.out.below hbq Hx.out.lt
    clear Hx
    have Hx := Lib.hid hx
    clear hx
    have ho := Ho.out.below hbq Ho.out.lt
    clear Ho
    have Ho := Lib.hid ho
    clear ho
    have hB := HB.out.trans (hbq.mono HB.out.size)
    clear HB
    have HB := Lib.hid hB
    clear hB
    clear hbq KZ
    go_wp2_with (first | (refine wpl_load Hp.out segU segI rfl _ rfl rfl ?_) | (refine wpl_load Hx.out shU shI rfl _ rfl rfl ?_))
    with_reducible refine (KT.out _ HB.out).mono ?_
    rintro e6 w8 ⟨A6, c6, rfl, hbl6, hbq⟩
    have hbl7 := BlR.below Hbl5.out hbq
    clear Hbl5
    have Hbl7 := Lib.hid hbl7
    clear hbl7
    have Hbl6 := Lib.hid hbl6
    clear hbl6
    have hp := Hp.out.below hbq Hp.out.lt
    clear Hp
    have Hp := Lib.hid hp
    clear hp
    have hx := Hx.out.below hbq Hx.out.lt
    clear Hx
    have Hx := Lib.hid hx
    clear hx
    have ho := Ho.out.below hbq Ho.out.lt
    clear Ho
    have Ho := Lib.hid ho
    clear ho
    have hB := HB.out.trans (hbq.mono HB.out.size)
    clear HB
    have HB := Lib.hid hB
    clear hB
    clear hbq KT
    go_wp2_with fail
    with_reducible refine (KE.out _ _ _ Hbl6.out).mono ?_
    rintro e7 w9 ⟨rfl, hbq⟩
    have hbl8 := BlR.below Hbl7.out hbq
    clear Hbl7 Hbl6 KE
    have Hbl8 := Lib.hid hbl8
    clear hbl8
    have hp := Hp.out.below hbq Hp.out.lt
    clear Hp
    have Hp := Lib.hid hp
    clear hp
    have hx := Hx.out.below hbq Hx.out.lt
    clear Hx
    have Hx := Lib.hid hx
    clear hx
    have ho := Ho.out.below hbq Ho.out.lt
    clear Ho
    have Ho := Lib.hid ho
    clear ho
    have hB := HB.out.trans (hbq.mono HB.out.size)
    clear HB
    have HB := Lib.hid hB
    clear hB
    clear hbq
    go_wp2_with (first | (refine wpl_load_g rfl rfl rfl Hp.out segU segI ?_) | (refine wpl_load_g rfl rfl rfl Ho.out segU segI ?_))
    with_reducible refine (KS.out _ HB.out _ _ Hbl8.out).mono ?_
    rintro e8 w9b ⟨rfl, hbq⟩
    clear Hbl8 KS
    have hp := Hp.out.below hbq Hp.out.lt
    clear Hp
    have Hp := Lib.hid hp
    clear hp
    have hx := Hx.out.below hbq Hx.out.lt
    clear Hx
    have Hx := Lib.hid hx
    clear hx
    have ho := Ho.out.below hbq Ho.out.lt
    clear Ho
    have Ho := Lib.hid ho
    clear ho
    have hB := HB.out.trans (hbq.mono HB.out.size)
    clear HB
    have HB := Lib.hid hB
    clear hB
    clear hbq
    clear Ho
    -- the text
    go_wp2_with fail
    with_reducible refine (KD.out _).mono ?_
    rintro e5 w10 ⟨A5, c5, rfl, hbl5, hbq⟩
    have hp := Hp.out.below hbq Hp.out.lt
    clear Hp
    have Hp := Lib.hid hp
    clear hp
    have hx := Hx.out.below hbq Hx.out.lt
    clear Hx
    have Hx := Lib.hid hx
    clear hx
    have hB := HB.out.trans (hbq.mono HB.out.size)
    clear HB
    have HB := Lib.hid hB
    clear hB
    clear hbq
    go_upto_region 11 with (first | (refine wpl_put_new rfl (t.c A5 c5) segI_ rfl (by kernel_rfl) rfl _ _ rfl rfl rfl rfl ?_))
    have hbl5 := BlR.below hbl5 ((Below.refl w10.heap.size w10).alloc (Nat.le_refl _) (.cells (t.c A5 c5) 30))
    have hu := Blk.new w10 30 (t.c A5 c5)
    have hp := Blk.alloc Hp.out (.cells (t.c A5 c5) 30)
    clear Hp
    have hx := Blk.alloc Hx.out (.cells (t.c A5 c5) 30)
    clear Hx
    have hB := HB.out.alloc HB.out.size (.cells (t.c A5 c5) 30)
    clear HB
    obtain ⟨gu, hge⟩ : ∃ g, g = w10.heap.size := ⟨_, rfl⟩
    rw [← hge] at hu ⊢
    have hle_u : w10.heap.size ≤ gu := by omega
    clear hge
    generalize w10.alloc _ = w11 at *
    have Hp := Lib.hid hp
    clear hp
    have Hx := Lib.hid hx
    clear hx
    have Hu := Lib.hid hu
    clear hu
    have HB := Lib.hid hB
    clear hB
    have Hbl5 := Lib.hid hbl5
    clear hbl5
    go_wp2_with (first | (refine wpl_load Hx.out shU shI rfl _ rfl rfl ?_))
    with_reducible refine (KR.out _).mono ?_
    rintro e6 w12 ⟨rfl, hbq⟩
    have hbl6 := BlR.below Hbl5.out hbq
    clear Hbl5
    have Hbl6 := Lib.hid hbl6
    clear hbl6
    have hp := Hp.out.below hbq Hp.out.lt
    clear Hp
    have Hp := Lib.hid hp
    clear hp
    have hx := Hx.out.below hbq Hx.out.lt
    clear Hx
    have Hx := Lib.hid hx
    clear hx
    have hu := Hu.out.below hbq Hu.out.lt
    clear Hu
    have Hu := Lib.hid hu
    clear hu
    have hB := HB.out.trans (hbq.mono HB.out.size)
    clear HB
    have HB := Lib.hid hB
    clear hB
    clear hbq
    by_cases hc : code = 0
    · subst hc
      have hY := HY.out rfl
      have kt := fun W => pdec_is hY.1 hY.2.1 hY.2.2.1 W
      have hsz := hY.2.2.2
      have Kt := Lib.hid kt
      clear kt
      go_wp2_with fail
      with_reducible refine (Kt.out _).mono ?_
      rintro e7 w13 ⟨A7, c7, rfl, hbl7, hbq⟩
      have hbl7b := BlR.below Hbl6.out hbq
      clear Hbl6
      have hp := Hp.out.below hbq Hp.out.lt
      clear Hp
      have Hp := Lib.hid hp
      clear hp
      have hx := Hx.out.below hbq Hx.out.lt
      clear Hx
      have Hx := Lib.hid hx
      clear hx
      have hu := Hu.out.below hbq Hu.out.lt
      clear Hu
      have Hu := Lib.hid hu
      clear hu
      have hB := HB.out.trans (hbq.mono HB.out.size)
      clear HB
      have HB := Lib.hid hB
      clear hB
      clear hbq
      go_upto_region 16 with (first | (refine wpl_put_new rfl ((turnS t sh).c A7 c7) segI_ rfl (by kernel_rfl) rfl _ _ rfl rfl rfl rfl ?_))
      have hbl7 := BlR.below hbl7 ((Below.refl w13.heap.size w13).alloc (Nat.le_refl _) (.cells ((turnS t sh).c A7 c7) 30))
      have hbl7b := BlR.below hbl7b ((Below.refl w13.heap.size w13).alloc (Nat.le_refl _) (.cells ((turnS t sh).c A7 c7) 30))
      have hv := Blk.new w13 30 ((turnS t sh).c A7 c7)
      have hp := Blk.alloc Hp.out (.cells ((turnS t sh).c A7 c7) 30)
      clear Hp
      have hx := Blk.alloc Hx.out (.cells ((turnS t sh).c A7 c7) 30)
      clear Hx
      have hu := Blk.alloc Hu.out (.cells ((turnS t sh).c A7 c7) 30)
      clear Hu
      have hB := HB.out.alloc HB.out.size (.cells ((turnS t sh).c A7 c7) 30)
      clear HB
      obtain ⟨gv, hge⟩ : ∃ g, g = w13.heap.size := ⟨_, rfl⟩
      rw [← hge] at hv ⊢
      have hle_v : w13.heap.size ≤ gv := by omega
      clear hge
      generalize w13.alloc _ = wn12 at *
      have Hp := Lib.hid hp
      clear hp
      have Hx := Lib.hid hx
      clear hx
      have Hu := Lib.hid hu
      clear hu
      have Hv := Lib.hid hv
      clear hv
      have HB := Lib.hid hB
      clear hB
      obtain ⟨w14, hwnw14⟩ : ∃ W, W = wn12 := ⟨_, rfl⟩
      rw [← hwnw14] at Hp Hx Hu Hv HB hbl7 hbl7b ⊢
      clear hwnw14
      have qu : ∀ y : Cls (Fresh w14), Blk y.w gu 30 (t.c A5 c5) := fun y => Hu.out.below y.h Hu.out.lt
      have qv : ∀ y : Cls (Fresh w14), Blk y.w gv 30 ((turnS t sh).c A7 c7) := fun y => Hv.out.below y.h Hv.out.lt
      have qx : ∀ y : Cls (Fresh w14), Blk y.w gx 46 sh.c := fun y => Hx.out.below y.h Hx.out.lt
      have k1 : ∀ y : Cls (Fresh w14), Calls Try.prog 23 #[.agg (t.c A5 c5), .agg sh.c] y.w fun e w'' => ∃ v, e = .returned v ∧ segT (turnS t sh) [v] w'' ∧ Fresh w14 w'' ∧ Below y.w.heap.size y.w w'' := fun y => (pturned_any y.w t sh A5 c5 Htw.out.1 (BlR.below hbl7b y.h) Htw.out.2).mono fun e1 w1 ⟨A', c', he, hr, hb⟩ => ⟨_, he, ⟨A', c', rfl, hr⟩, Fresh.below y.h hb, hb⟩
      have hm : (turnS t sh).o.bl.length ≤ maxLen := by show (t.o.bl.map _).length ≤ _; rw [List.length_map]; exact Nat.le_trans Htw.out.2 (by decide)
      have k2 : ∀ (y : Cls (Fresh w14)) (u1 : Value), segT (turnS t sh) [u1] y.w → Calls Try.prog 15 #[.agg ((turnS t sh).c A7 c7), u1] y.w fun e w'' => e = .returned (.bool true) ∧ Fresh w14 w'' ∧ Below y.w.heap.size y.w w'' := by
        intro y u1 h1
        obtain ⟨A1, c1, rfl, b1⟩ := h1.is
        exact (psame_eq y.w (turnS t sh) A7 A1 c7 c1 (BlR.below hbl7 y.h) b1 hm).mono fun e1 w1 ⟨he, hb⟩ => ⟨he, Fresh.below y.h hb, hb⟩
      have fTurned : ∀ (vals : Array Value) (w : World), (callFunc 23 vals).run Try.prog w = .ok (.enter 23 vals) w := fun _ _ => by kernel_rfl
      have fSame : ∀ (vals : Array Value) (w : World), (callFunc 15 vals).run Try.prog w = .ok (.enter 15 vals) w := fun _ _ => by kernel_rfl
      have hS0 : Fresh w14 w14.drew := Fresh.below (Below.refl _ _) (Below.drew (Below.refl _ _))
      have ne : Nonempty (Cls (Fresh w14)) := ⟨⟨w14, Below.refl _ _⟩⟩
      clear hbl7 hbl7b
      have HS0 := Lib.hid hS0
      clear hS0
      have Qu := Lib.hid qu
      clear qu
      have Qv := Lib.hid qv
      clear qv
      have Qx := Lib.hid qx
      clear qx
      have K1 := Lib.hid k1
      clear k1
      have K2 := Lib.hid k2
      clear k2
      have FTurned := Lib.hid fTurned
      clear fTurned
      have FSame := Lib.hid fSame
      clear fSame
      have Hm := Lib.hid hm
      clear hm
      have hY0 : (Y.size : Int) = (x.size : Int) := by omega
      refine wp_region_flow 17 (Fresh w14) (fun w w' => Below w.heap.size w w') (by kernel_rfl) (by kernel_rfl) (by kernel_rfl) (fun w => Below.refl _ _) HS0.out ?_
      simp only [List.take_succ_cons, List.take_zero, List.drop_succ_cons, List.drop_zero]
      repeat (first
        | (refine flow_load gu _ Qu.out segU segI rfl (fun w => Below.refl _ _) rfl rfl rfl w14 ?_; intro K hK; go_big_quiet_op; go_big_quiet_on)
        | (refine flow_load gv _ Qv.out segU segI rfl (fun w => Below.refl _ _) rfl rfl rfl w14 ?_; intro K hK; go_big_quiet_op; go_big_quiet_on)
        | (refine flow_load gx _ Qx.out shU shI rfl (fun w => Below.refl _ _) rfl rfl rfl w14 ?_; intro K hK; go_big_quiet_op; go_big_quiet_on)
        | (refine flow_quiet (fun w => Below.refl _ _) rfl rfl rfl rfl ?_; intro K hK; go_big_quiet_op; go_big_quiet_on)
        | (refine flow_callF (segT (turnS t sh)) segT.of FTurned.out _ ?_ rfl K1.out rfl rfl w14 ?_; (focus (simp only [List.map_toArray, List.map_cons, List.map_nil]; rfl)); intro K hK; go_big_quiet_op; go_big_quiet_on)
        | (refine flow_callY FSame.out (.bool true) (fun u1 => #[.agg ((turnS t sh).c A7 c7), u1]) 0 rfl rfl (fun f => by rfl) K2.out rfl rfl w14 ?_; intro K hK; go_big_quiet_op; go_big_quiet_on))
      refine flow_nil ?_
      intro W5 f hW5 hF5
      clear hF5
      simp only [fillW, Act.put, List.setIfInBounds_toArray, List.set_cons_succ, List.set_cons_zero]
      generalize f 102 = v102
      have hB5 : Below w.heap.size w W5 := HB.out.trans (Below.mono hW5 HB.out.size)
      clear hW5 ne
      have HB5 := Lib.hid hB5
      clear hB5
      go_wp2_with fail
      with_reducible refine (Hal.out _).mono ?_
      rintro e8 w15 ⟨rfl, hbq⟩
      have hB6 := HB5.out.trans (Below.mono hbq HB5.out.size)
      clear hbq HB5
      have HB6 := Lib.hid hB6
      clear hB6
      go_wp2
      go_ret
      exact ⟨rfl, HB6.out⟩
    · have q1 : (code == 0) = false := by simpa using hc
      go_wp2_with fail
      (with_reducible refine (Hal.out _).mono ?_)
      rintro e w20 ⟨rfl, hbq⟩
      have hB := HB.out.trans (hbq.mono HB.out.size)
      clear HB
      have HB := Lib.hid hB
      clear hB
      clear hbq
      go_wp2
      go_ret
      exact ⟨rfl, HB.out⟩
theorem own : ownKnob Try.prog.godebug = none := by kernel_rfl
theorem laidOut : laidOutB Try.prog = true := by kernel_rfl
set_option maxRecDepth 100000 in
theorem lifted (os : Os) (started : os.Started) (H : Type) (enc : TypeId × Value → H) :
    ReturnsInHanded {} Try.checked os 6 .any (Rows.pktBackSpec.pre6 enc Try.prog Try.f6 Rows.pktBackRow.domain false) (Rows.pktBackSpec.post enc Try.prog Try.f6 false true false false) := by
  refine returnsInHanded_of_change (C := Try.checked) own started (by kernel_rfl) Try.func6
    (ChangeSpec.witness6 (enc := enc) (C := Try.checked) false ⟨#[], #[.agg #[.int .u32 0, .int .u16 0, .int .u32 0, .int .u16 0, .int .u32 0, .int .u32 0, .int .u8 0, .int .u16 0, .int .u16 0, .int .i64 0, .bool false, .slice none 0 0, .bool false, .int .u32 0, .int .u32 0, .string ByteArray.empty], .string ByteArray.empty, .agg #[.int .u32 0, .int .u16 0, .int .u32 0, .int .u16 0, .int .u32 0, .int .u32 0, .int .u32 0, .int .u32 0, .int .i64 0, .int .i64 0]], []⟩ 8 (by kernel_rfl) (by kernel_rfl) (by kernel_rfl) (by kernel_rfl)) ?_
  intro W base args ds gs before hval0 hW hcnd _
  have hval : ∀ (j : Nat) t v, Try.f6.params[j]? = some t → args[j]? = some v → Value.okWide Try.prog W .any base t v := hval0
  have hW' := hW
  obtain ⟨p, q, hA0, hV, rfl, hfz, hnd⟩ := hW
  have hA : DataW.TrodAll enc Try.prog W 0 (fun _ => true) true Try.f6.params.toList args.toList ds p := hA0
  rw [Try.params6] at hA hval
  obtain ⟨v0, vs0, d0, ds0, p0, q0, hargs, rfl, rfl, h0, r0⟩ := trodAll_cons hA
  obtain ⟨v1, vs1, d1, ds1, p1, q1, rfl, rfl, rfl, h1, r1⟩ := trodAll_cons r0
  obtain ⟨v2, vs2, d2, ds2, p2, q2, rfl, rfl, rfl, h2, r2⟩ := trodAll_cons r1
  obtain ⟨rfl, rfl, rfl⟩ := trodAll_nil r2
  obtain rfl : args = #[v0, v1, v2] := by cases args; simp_all
  obtain ⟨rfl, rfl⟩ := trodVars_none hV
  have k0 := h0
  have lt0 : ∀ x ∈ p0, x.block < W.heap.size := by obtain ⟨m, hm⟩ := k0; exact DataW.trod_lt m _ _ _ hm
  obtain ⟨a0_0, a0_1, a0_2, rfl, w0⟩ := open_sg (hval 0 30 v0 rfl rfl) h0
  obtain ⟨a1, rfl, rfl, rfl, w1⟩ := open_string Try.underlying9 (hval 1 9 v1 rfl rfl) h1
  have k2 := h2
  have lt2 : ∀ x ∈ p2, x.block < W.heap.size := by obtain ⟨m, hm⟩ := k2; exact DataW.trod_lt m _ _ _ hm
  obtain ⟨a2_0, rfl, w2⟩ := open_sh (hval 2 46 v2 rfl rfl) h2
  clear hA0 hval0
  refine (walk a0_0 a0_1 a0_2 a1 a2_0 W w0 w1 w2).mono fun e W' ⟨he, bel⟩ => ?_
  subst he
  exact ⟨_, rfl, _, _, _, [], _, [], hW', trodAll_mk1 (shut_bool Try.underlying4 _), (trodAll_cons_mk (Below.trod laidOut (by kernel_rfl) (of_decide_eq_true (by kernel_rfl)) k0 bel lt0) (trodAll_cons_mk (shut_string Try.underlying9 w1) (trodAll_cons_mk (Below.trod laidOut (by kernel_rfl) (of_decide_eq_true (by kernel_rfl)) k2 bel lt2) trodAll_mk0))), rfl, bel.frame _, fun h => by cases h⟩
theorem over : Rows.pktBackRow.holds Try.pinned (OpenSpec.ofChange Rows.pktBackSpec) :=
  OpenClaim.holds_of_wide 6 Try.f6 rfl rfl rfl rfl rfl rfl rfl ⟨rfl, rfl, rfl, rfl, rfl⟩ rfl rfl rfl rfl rfl (by kernel_rfl) Try.func6 (by kernel_rfl)
    (of_decide_eq_true (by kernel_rfl)) (by unfold Func.isWrapper; first | (rw [if_pos (by decide +kernel)]; kernel_rfl) | (rw [if_neg (by decide +kernel)]; exact ⟨rfl, rfl⟩))
    (fun os started H enc _ => lifted os started H enc)
/-- THE STATEMENT -/
theorem proved : Rows.PktBackSaid := over
#print axioms proved
end Go.Proofs.Ytengegcnocdkoaa.pktBack
