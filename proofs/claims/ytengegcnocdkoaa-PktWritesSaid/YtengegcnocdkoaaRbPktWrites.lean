/- The statement PktWrites: which segments may be, which are the same, what their packets are, and where they end, is what the document's answer says, for any two segments; and a known run goes as it must. -/
import Derived.Test.YtengegcnocdkoaaRb16
set_option linter.unusedVariables false
set_option linter.unusedSimpArgs false
set_option maxRecDepth 20000
namespace Go.Proofs.Ytengegcnocdkoaa.pktWrites
open Go.ChangeShapes Go.WideShapes Go.ChangeAt Go.RowKit Go.BigFrame
open Go.ChangeMaps (open_string shut_string)
set_option maxHeartbeats 8000000 in
theorem walk (s : Sg) (A : Option Addr) (c : Nat) (t : Sg) (B : Option Addr) (e : Nat) (w : World) (w0 : SgF w s A c) (w1 : SgF w t B e) :
    Calls Try.prog 3 #[.agg (s.c A c), .agg (t.c B e)] w fun e w' => e = .returned (.bool true) ∧ Below w.heap.size w w' := by
  have hal := alive08
  have hb0 : Below w.heap.size w w := Below.refl _ _
  have HB := Lib.hid hb0
  clear hb0
  have hs := fun W => heavy_sg W s A c w0.n w0.d
  have ht := fun W => heavy_sg W t B e w1.n w1.d
  cases h1 : heavyB s with
  | true =>
    rw [h1] at hs
    have Hal := Lib.hid hal
    clear hal
    have Hs := Lib.hid hs
    clear hs
    have Ht := Lib.hid ht
    clear ht
    go_enter Try.func3, Try.ntmps3
    go_upto_region 1 with fail
    have hp := Blk.alloc (Blk.new w 30 (s.c A c)) (.cells (t.c B e) 30)
    have hq := Blk.new (w.alloc (.cells (s.c A c) 30)) 30 (t.c B e)
    rw [show (w.alloc (.cells (s.c A c) 30)).heap.size = w.heap.size + 1 by simp] at hq
    have hB := Below.alloc (Below.alloc (HB.out) (Nat.le_trans HB.out.size (by simp <;> omega)) (.cells (s.c A c) 30)) (Nat.le_trans HB.out.size (by simp <;> omega)) (.cells (t.c B e) 30)
    clear HB
    obtain ⟨gq, hgeq⟩ : ∃ g, g = w.heap.size + 1 := ⟨_, rfl⟩
    rw [← hgeq] at hq ⊢
    obtain ⟨gp, hgep⟩ : ∃ g, g = w.heap.size := ⟨_, rfl⟩
    rw [← hgep] at hp ⊢
    have hne_p_q : gp ≠ gq := by omega
    have hle_p : w.heap.size ≤ gp := by omega
    have hle_q : w.heap.size ≤ gq := by omega
    clear hgep hgeq
    generalize (w.alloc _).alloc _ = wn1 at *
    have Hp := Lib.hid hp
    clear hp
    have Hq := Lib.hid hq
    clear hq
    have HB := Lib.hid hB
    clear hB
    obtain ⟨W1, hwnW1⟩ : ∃ W, W = wn1 := ⟨_, rfl⟩
    rw [← hwnW1] at Hp Hq HB ⊢
    clear hwnW1
    go_wp2_with (first | (refine wpl_load Hp.out segU segI rfl _ rfl rfl ?_))
    with_reducible refine (Hs.out _).mono ?_
    rintro e1 w2 ⟨rfl, hbq⟩
    have hp := Hp.out.below hbq Hp.out.lt
    clear Hp
    have Hp := Lib.hid hp
    clear hp
    have hq := Hq.out.below hbq Hq.out.lt
    clear Hq
    have Hq := Lib.hid hq
    clear hq
    have hB := HB.out.trans (hbq.mono HB.out.size)
    clear HB
    have HB := Lib.hid hB
    clear hB
    clear hbq
    go_wp2_with fail
    (with_reducible refine (Hal.out _).mono ?_)
    rintro e w9 ⟨rfl, hbq⟩
    have hp := Hp.out.below hbq Hp.out.lt
    clear Hp
    have Hp := Lib.hid hp
    clear hp
    have hq := Hq.out.below hbq Hq.out.lt
    clear Hq
    have Hq := Lib.hid hq
    clear hq
    have hB := HB.out.trans (hbq.mono HB.out.size)
    clear HB
    have HB := Lib.hid hB
    clear hB
    clear hbq
    go_wp2
    go_ret
    exact ⟨rfl, HB.out⟩
  | false =>
  rw [h1] at hs
  cases h2 : heavyB t with
  | true =>
    rw [h2] at ht
    have Hal := Lib.hid hal
    clear hal
    have Hs := Lib.hid hs
    clear hs
    have Ht := Lib.hid ht
    clear ht
    go_enter Try.func3, Try.ntmps3
    go_upto_region 1 with fail
    have hp := Blk.alloc (Blk.new w 30 (s.c A c)) (.cells (t.c B e) 30)
    have hq := Blk.new (w.alloc (.cells (s.c A c) 30)) 30 (t.c B e)
    rw [show (w.alloc (.cells (s.c A c) 30)).heap.size = w.heap.size + 1 by simp] at hq
    have hB := Below.alloc (Below.alloc (HB.out) (Nat.le_trans HB.out.size (by simp <;> omega)) (.cells (s.c A c) 30)) (Nat.le_trans HB.out.size (by simp <;> omega)) (.cells (t.c B e) 30)
    clear HB
    obtain ⟨gq, hgeq⟩ : ∃ g, g = w.heap.size + 1 := ⟨_, rfl⟩
    rw [← hgeq] at hq ⊢
    obtain ⟨gp, hgep⟩ : ∃ g, g = w.heap.size := ⟨_, rfl⟩
    rw [← hgep] at hp ⊢
    have hne_p_q : gp ≠ gq := by omega
    have hle_p : w.heap.size ≤ gp := by omega
    have hle_q : w.heap.size ≤ gq := by omega
    clear hgep hgeq
    generalize (w.alloc _).alloc _ = wn3 at *
    have Hp := Lib.hid hp
    clear hp
    have Hq := Lib.hid hq
    clear hq
    have HB := Lib.hid hB
    clear hB
    obtain ⟨W1, hwnW1⟩ : ∃ W, W = wn3 := ⟨_, rfl⟩
    rw [← hwnW1] at Hp Hq HB ⊢
    clear hwnW1
    go_wp2_with (first | (refine wpl_load Hp.out segU segI rfl _ rfl rfl ?_))
    with_reducible refine (Hs.out _).mono ?_
    rintro e1 w2 ⟨rfl, hbq⟩
    have hp := Hp.out.below hbq Hp.out.lt
    clear Hp
    have Hp := Lib.hid hp
    clear hp
    have hq := Hq.out.below hbq Hq.out.lt
    clear Hq
    have Hq := Lib.hid hq
    clear hq
    have hB := HB.out.trans (hbq.mono HB.out.size)
    clear HB
    have HB := Lib.hid hB
    clear hB
    clear hbq
    go_wp2_with (first | (refine wpl_load_g rfl rfl rfl Hq.out segU segI ?_))
    with_reducible refine (Ht.out _).mono ?_
    rintro e2 w3 ⟨rfl, hbq⟩
    have hp := Hp.out.below hbq Hp.out.lt
    clear Hp
    have Hp := Lib.hid hp
    clear hp
    have hq := Hq.out.below hbq Hq.out.lt
    clear Hq
    have Hq := Lib.hid hq
    clear hq
    have hB := HB.out.trans (hbq.mono HB.out.size)
    clear HB
    have HB := Lib.hid hB
    clear hB
    clear hbq
    go_wp2_with fail
    (with_reducible refine (Hal.out _).mono ?_)
    rintro e w9 ⟨rfl, hbq⟩
    have hp := Hp.out.below hbq Hp.out.lt
    clear Hp
    have Hp := Lib.hid hp
    clear hp
    have hq := Hq.out.below hbq Hq.out.lt
    clear Hq
    have Hq := Lib.hid hq
    clear hq
    have hB := HB.out.trans (hbq.mono HB.out.size)
    clear HB
    have HB := Lib.hid hB
    clear hB
    clear hbq
    go_wp2
    go_ret
    exact ⟨rfl, HB.out⟩
  | false =>
  rw [h2] at ht
  have n1 := (heavyB_no h1).2
  have n2 := (heavyB_no h2).2
  have oe := fun W (hW : Below w.heap.size w W) => penc_any W s A c w0.ok (w0.r.below hW) (by omega) w0.d
  have re := fun W (hW : Below w.heap.size w W) => rpenc_any W s A c w0.ok (w0.r.below hW) (by omega) w0.d
  have om := fun W (hW : Below w.heap.size w W) => smay_any W s A c w0.ok (w0.r.below hW) (by omega) w0.d
  have rm := fun W (hW : Below w.heap.size w W) => rsmay_any W s A c w0.ok (w0.r.below hW) (by omega) w0.d
  have os := fun W (hW : Below w.heap.size w W) => psame_any W s t A B c e (w0.r.below hW) (w1.r.below hW) w0.n w1.n
  have rs := fun W (hW : Below w.heap.size w W) => rpsame_any W s t A B c e (w0.r.below hW) (w1.r.below hW) w0.n w1.n
  have oq := fun W (hW : Below w.heap.size w W) => psame_eq W s A A c c (w0.r.below hW) (w0.r.below hW) w0.n
  have on := fun W => pnext_any W s A c w0.ok w0.d
  have rn := fun W => rpnext_any W s A c w0.ok w0.d
  generalize pencR s = E at *
  generalize s.may = m at *
  generalize sameS s t = V at *
  generalize nextV s.s4 s.f s.d.size = nx at *
  obtain ⟨E1, E2⟩ := E
  dsimp only at oe re
  have Oe := Lib.hid oe
  clear oe
  have Re := Lib.hid re
  clear re
  have Om := Lib.hid om
  clear om
  have Rm := Lib.hid rm
  clear rm
  have Os := Lib.hid os
  clear os
  have Rs := Lib.hid rs
  clear rs
  have Oq := Lib.hid oq
  clear oq
  have On := Lib.hid on
  clear on
  have Rn := Lib.hid rn
  clear rn
  clear h1 h2 n1 n2 w0 w1
  have Hal := Lib.hid hal
  clear hal
  have Hs := Lib.hid hs
  clear hs
  have Ht := Lib.hid ht
  clear ht
  go_enter Try.func3, Try.ntmps3
  go_upto_region 1 with fail
  have hp := Blk.alloc (Blk.new w 30 (s.c A c)) (.cells (t.c B e) 30)
  have hq := Blk.new (w.alloc (.cells (s.c A c) 30)) 30 (t.c B e)
  rw [show (w.alloc (.cells (s.c A c) 30)).heap.size = w.heap.size + 1 by simp] at hq
  have hB := Below.alloc (Below.alloc (HB.out) (Nat.le_trans HB.out.size (by simp <;> omega)) (.cells (s.c A c) 30)) (Nat.le_trans HB.out.size (by simp <;> omega)) (.cells (t.c B e) 30)
  clear HB
  obtain ⟨gq, hgeq⟩ : ∃ g, g = w.heap.size + 1 := ⟨_, rfl⟩
  rw [← hgeq] at hq ⊢
  obtain ⟨gp, hgep⟩ : ∃ g, g = w.heap.size := ⟨_, rfl⟩
  rw [← hgep] at hp ⊢
  have hne_p_q : gp ≠ gq := by omega
  have hle_p : w.heap.size ≤ gp := by omega
  have hle_q : w.heap.size ≤ gq := by omega
  clear hgep hgeq
  generalize (w.alloc _).alloc _ = wn5 at *
  have Hp := Lib.hid hp
  clear hp
  have Hq := Lib.hid hq
  clear hq
  have HB := Lib.hid hB
  clear hB
  obtain ⟨W1, hwnW1⟩ : ∃ W, W = wn5 := ⟨_, rfl⟩
  rw [← hwnW1] at Hp Hq HB ⊢
  clear hwnW1
  go_wp2_with (first | (refine wpl_load Hp.out segU segI rfl _ rfl rfl ?_))
  with_reducible refine (Hs.out _).mono ?_
  rintro e1 w2 ⟨rfl, hbq⟩
  have hp := Hp.out.below hbq Hp.out.lt
  clear Hp
  have Hp := Lib.hid hp
  clear hp
  have hq := Hq.out.below hbq Hq.out.lt
  clear Hq
  have Hq := Lib.hid hq
  clear hq
  have hB := HB.out.trans (hbq.mono HB.out.size)
  clear HB
  have HB := Lib.hid hB
  clear hB
  clear hbq
  go_wp2_with (first | (refine wpl_load_g rfl rfl rfl Hq.out segU segI ?_))
  with_reducible refine (Ht.out _).mono ?_
  rintro e2 w3 ⟨rfl, hbq⟩
  have hp := Hp.out.below hbq Hp.out.lt
  clear Hp
  have Hp := Lib.hid hp
  clear hp
  have hq := Hq.out.below hbq Hq.out.lt
  clear Hq
  have Hq := Lib.hid hq
  clear hq
  have hB := HB.out.trans (hbq.mono HB.out.size)
  clear HB
  have HB := Lib.hid hB
  clear hB
  clear hbq
  go_wp2_with (first | (refine wpl_load Hp.out segU segI rfl _ rfl rfl ?_))
  with_reducible refine (Oe.out _ HB.out).mono ?_
  rintro e3 w4 ⟨rfl, hbq⟩
  have hp := Hp.out.below hbq Hp.out.lt
  clear Hp
  have Hp := Lib.hid hp
  clear hp
  have hq := Hq.out.below hbq Hq.out.lt
  clear Hq
  have Hq := Lib.hid hq
  clear hq
  have hB := HB.out.trans (hbq.mono HB.out.size)
  clear HB
  have HB := Lib.hid hB
  clear hB
  clear hbq
  go_wp2_with (first | (refine wpl_load Hp.out segU segI rfl _ rfl rfl ?_))
  with_reducible refine (Re.out _ HB.out).mono ?_
  rintro e4 w5 ⟨rfl, hbq⟩
  have hp := Hp.out.below hbq Hp.out.lt
  clear Hp
  have Hp := Lib.hid hp
  clear hp
  have hq := Hq.out.below hbq Hq.out.lt
  clear Hq
  have Hq := Lib.hid hq
  clear hq
  have hB := HB.out.trans (hbq.mono HB.out.size)
  clear HB
  have HB := Lib.hid hB
  clear hB
  clear hbq
  go_upto_region 5 with fail
  have qp : ∀ y : Cls (Fresh w5), Blk y.w gp 30 (s.c A c) := fun y => Hp.out.below y.h Hp.out.lt
  have qq : ∀ y : Cls (Fresh w5), Blk y.w gq 30 (t.c B e) := fun y => Hq.out.below y.h Hq.out.lt
  have hw5 : ∀ y : Cls (Fresh w5), Below w.heap.size w y.w := fun y => HB.out.trans (Below.mono y.h HB.out.size)
  have k1 : ∀ y : Cls (Fresh w5), _ := fun y => (Om.out y.w (hw5 y)).mono fun e1 w1 ⟨he, hb⟩ => (⟨he, Fresh.below y.h hb, hb⟩ : e1 = _ ∧ Fresh w5 w1 ∧ Below y.w.heap.size y.w w1)
  have k2 : ∀ y : Cls (Fresh w5), _ := fun y => (Rm.out y.w (hw5 y)).mono fun e1 w1 ⟨he, hb⟩ => (⟨he, Fresh.below y.h hb, hb⟩ : e1 = _ ∧ Fresh w5 w1 ∧ Below y.w.heap.size y.w w1)
  have k3 : ∀ y : Cls (Fresh w5), _ := fun y => (Os.out y.w (hw5 y)).mono fun e1 w1 ⟨he, hb⟩ => (⟨he, Fresh.below y.h hb, hb⟩ : e1 = _ ∧ Fresh w5 w1 ∧ Below y.w.heap.size y.w w1)
  have k4 : ∀ y : Cls (Fresh w5), _ := fun y => (Rs.out y.w (hw5 y)).mono fun e1 w1 ⟨he, hb⟩ => (⟨he, Fresh.below y.h hb, hb⟩ : e1 = _ ∧ Fresh w5 w1 ∧ Below y.w.heap.size y.w w1)
  have k5 : ∀ y : Cls (Fresh w5), _ := fun y => (Oq.out y.w (hw5 y)).mono fun e1 w1 ⟨he, hb⟩ => (⟨he, Fresh.below y.h hb, hb⟩ : e1 = _ ∧ Fresh w5 w1 ∧ Below y.w.heap.size y.w w1)
  have k6 : ∀ y : Cls (Fresh w5), _ := fun y => (On.out y.w).mono fun e1 w1 ⟨he, hb⟩ => (⟨he, Fresh.below y.h hb, hb⟩ : e1 = _ ∧ Fresh w5 w1 ∧ Below y.w.heap.size y.w w1)
  have k7 : ∀ y : Cls (Fresh w5), _ := fun y => (Rn.out y.w).mono fun e1 w1 ⟨he, hb⟩ => (⟨he, Fresh.below y.h hb, hb⟩ : e1 = _ ∧ Fresh w5 w1 ∧ Below y.w.heap.size y.w w1)
  have k8 : ∀ y : Cls (Fresh w5), _ := fun y => (Hal.out y.w).mono fun e1 w1 ⟨he, hb⟩ => (⟨he, Fresh.below y.h hb, hb⟩ : e1 = _ ∧ Fresh w5 w1 ∧ Below y.w.heap.size y.w w1)
  have fMay : ∀ (vals : Array Value) (w : World), (callFunc 13 vals).run Try.prog w = .ok (.enter 13 vals) w := fun _ _ => by kernel_rfl
  have frMay : ∀ (vals : Array Value) (w : World), (callFunc 14 vals).run Try.prog w = .ok (.enter 14 vals) w := fun _ _ => by kernel_rfl
  have fSame : ∀ (vals : Array Value) (w : World), (callFunc 15 vals).run Try.prog w = .ok (.enter 15 vals) w := fun _ _ => by kernel_rfl
  have frSame : ∀ (vals : Array Value) (w : World), (callFunc 16 vals).run Try.prog w = .ok (.enter 16 vals) w := fun _ _ => by kernel_rfl
  have fNext : ∀ (vals : Array Value) (w : World), (callFunc 17 vals).run Try.prog w = .ok (.enter 17 vals) w := fun _ _ => by kernel_rfl
  have frNext : ∀ (vals : Array Value) (w : World), (callFunc 18 vals).run Try.prog w = .ok (.enter 18 vals) w := fun _ _ => by kernel_rfl
  have falive : ∀ (vals : Array Value) (w : World), (callFunc 10 vals).run Try.prog w = .ok (.enter 10 vals) w := fun _ _ => by kernel_rfl
  have hS0 : Fresh w5 w5.drew := Fresh.below (Below.refl _ _) (Below.drew (Below.refl _ _))
  have ne : Nonempty (Cls (Fresh w5)) := ⟨⟨w5, Below.refl _ _⟩⟩
  clear hw5
  have HS0 := Lib.hid hS0
  clear hS0
  have Qp := Lib.hid qp
  clear qp
  have Qq := Lib.hid qq
  clear qq
  have K1 := Lib.hid k1
  clear k1
  have K2 := Lib.hid k2
  clear k2
  have K3 := Lib.hid k3
  clear k3
  have K4 := Lib.hid k4
  clear k4
  have K5 := Lib.hid k5
  clear k5
  have K6 := Lib.hid k6
  clear k6
  have K7 := Lib.hid k7
  clear k7
  have K8 := Lib.hid k8
  clear k8
  have FMay := Lib.hid fMay
  clear fMay
  have FrMay := Lib.hid frMay
  clear frMay
  have FSame := Lib.hid fSame
  clear fSame
  have FrSame := Lib.hid frSame
  clear frSame
  have FNext := Lib.hid fNext
  clear fNext
  have FrNext := Lib.hid frNext
  clear frNext
  have Falive := Lib.hid falive
  clear falive
  refine wp_region_flow 39 (Fresh w5) (fun w w' => Below w.heap.size w w') (by kernel_rfl) (by kernel_rfl) (by kernel_rfl) (fun w => Below.refl _ _) HS0.out ?_
  simp only [List.take_succ_cons, List.take_zero, List.drop_succ_cons, List.drop_zero]
  repeat (first
    | (refine flow_load gp _ Qp.out segU segI rfl (fun w => Below.refl _ _) rfl rfl rfl w5 ?_; intro K hK; go_big_quiet_op; go_big_quiet_on)
    | (refine flow_load gq _ Qq.out segU segI rfl (fun w => Below.refl _ _) rfl rfl rfl w5 ?_; intro K hK; go_big_quiet_op; go_big_quiet_on)
    | (refine flow_quiet (fun w => Below.refl _ _) rfl rfl rfl rfl ?_; intro K hK; go_big_quiet_op; go_big_quiet_on)
    | (refine flow_call FMay.out _ ?_ rfl rfl rfl _ K1.out w5 ?_; (focus (simp only [List.map_toArray, List.map_cons, List.map_nil]; rfl)); intro K hK; go_big_quiet_op; go_big_quiet_on)
    | (refine flow_call FrMay.out _ ?_ rfl rfl rfl _ K2.out w5 ?_; (focus (simp only [List.map_toArray, List.map_cons, List.map_nil]; rfl)); intro K hK; go_big_quiet_op; go_big_quiet_on)
    | (refine flow_call FSame.out _ ?_ rfl rfl rfl _ K3.out w5 ?_; (focus (simp only [List.map_toArray, List.map_cons, List.map_nil]; rfl)); intro K hK; go_big_quiet_op; go_big_quiet_on)
    | (refine flow_call FrSame.out _ ?_ rfl rfl rfl _ K4.out w5 ?_; (focus (simp only [List.map_toArray, List.map_cons, List.map_nil]; rfl)); intro K hK; go_big_quiet_op; go_big_quiet_on)
    | (refine flow_call FSame.out _ ?_ rfl rfl rfl _ K5.out w5 ?_; (focus (simp only [List.map_toArray, List.map_cons, List.map_nil]; rfl)); intro K hK; go_big_quiet_op; go_big_quiet_on)
    | (refine flow_call FNext.out _ ?_ rfl rfl rfl _ K6.out w5 ?_; (focus (simp only [List.map_toArray, List.map_cons, List.map_nil]; rfl)); intro K hK; go_big_quiet_op; go_big_quiet_on)
    | (refine flow_call FrNext.out _ ?_ rfl rfl rfl _ K7.out w5 ?_; (focus (simp only [List.map_toArray, List.map_cons, List.map_nil]; rfl)); intro K hK; go_big_quiet_op; go_big_quiet_on)
    | (refine flow_call Falive.out #[] (by simp only [List.map_toArray, List.map_nil]) rfl rfl rfl _ K8.out w5 ?_; intro K hK; go_big_quiet_op; go_big_quiet_on))
  refine flow_nil ?_
  intro W5 f hW5 hF5
  clear hF5
  simp only [fillW, Act.put, List.setIfInBounds_toArray, List.set_cons_succ, List.set_cons_zero]
  have hB5 : Below w.heap.size w W5 := HB.out.trans (Below.mono hW5 HB.out.size)
  clear hW5 ne
  have HB5 := Lib.hid hB5
  clear hB5
  go_wp2
  go_ret
  exact ⟨rfl, HB5.out⟩
theorem own : ownKnob Try.prog.godebug = none := by kernel_rfl
theorem laidOut : laidOutB Try.prog = true := by kernel_rfl
set_option maxRecDepth 100000 in
theorem lifted (os : Os) (started : os.Started) (H : Type) (enc : TypeId × Value → H) :
    ReturnsInHanded {} Try.checked os 3 .any (Rows.pktWritesSpec.pre6 enc Try.prog Try.f3 Rows.pktWritesRow.domain false) (Rows.pktWritesSpec.post enc Try.prog Try.f3 false true false false) := by
  refine returnsInHanded_of_change (C := Try.checked) own started (by kernel_rfl) Try.func3
    (ChangeSpec.witness6 (enc := enc) (C := Try.checked) false ⟨#[], #[.agg #[.int .u32 0, .int .u16 0, .int .u32 0, .int .u16 0, .int .u32 0, .int .u32 0, .int .u8 0, .int .u16 0, .int .u16 0, .int .i64 0, .bool false, .slice none 0 0, .bool false, .int .u32 0, .int .u32 0, .string ByteArray.empty], .agg #[.int .u32 0, .int .u16 0, .int .u32 0, .int .u16 0, .int .u32 0, .int .u32 0, .int .u8 0, .int .u16 0, .int .u16 0, .int .i64 0, .bool false, .slice none 0 0, .bool false, .int .u32 0, .int .u32 0, .string ByteArray.empty]], []⟩ 8 (by kernel_rfl) (by kernel_rfl) (by kernel_rfl) (by kernel_rfl)) ?_
  intro W base args ds gs before hval0 hW hcnd _
  have hval : ∀ (j : Nat) t v, Try.f3.params[j]? = some t → args[j]? = some v → Value.okWide Try.prog W .any base t v := hval0
  have hW' := hW
  obtain ⟨p, q, hA0, hV, rfl, hfz, hnd⟩ := hW
  have hA : DataW.TrodAll enc Try.prog W 0 (fun _ => true) true Try.f3.params.toList args.toList ds p := hA0
  rw [Try.params3] at hA hval
  obtain ⟨v0, vs0, d0, ds0, p0, q0, hargs, rfl, rfl, h0, r0⟩ := trodAll_cons hA
  obtain ⟨v1, vs1, d1, ds1, p1, q1, rfl, rfl, rfl, h1, r1⟩ := trodAll_cons r0
  obtain ⟨rfl, rfl, rfl⟩ := trodAll_nil r1
  obtain rfl : args = #[v0, v1] := by cases args; simp_all
  obtain ⟨rfl, rfl⟩ := trodVars_none hV
  have k0 := h0
  have lt0 : ∀ x ∈ p0, x.block < W.heap.size := by obtain ⟨m, hm⟩ := k0; exact DataW.trod_lt m _ _ _ hm
  obtain ⟨a0_0, a0_1, a0_2, rfl, w0⟩ := open_sg (hval 0 30 v0 rfl rfl) h0
  have k1 := h1
  have lt1 : ∀ x ∈ p1, x.block < W.heap.size := by obtain ⟨m, hm⟩ := k1; exact DataW.trod_lt m _ _ _ hm
  obtain ⟨a1_0, a1_1, a1_2, rfl, w1⟩ := open_sg (hval 1 30 v1 rfl rfl) h1
  clear hA0 hval0
  refine (walk a0_0 a0_1 a0_2 a1_0 a1_1 a1_2 W w0 w1).mono fun e W' ⟨he, bel⟩ => ?_
  subst he
  exact ⟨_, rfl, _, _, _, [], _, [], hW', trodAll_mk1 (shut_bool Try.underlying4 _), (trodAll_cons_mk (Below.trod laidOut (by kernel_rfl) (of_decide_eq_true (by kernel_rfl)) k0 bel lt0) (trodAll_cons_mk (Below.trod laidOut (by kernel_rfl) (of_decide_eq_true (by kernel_rfl)) k1 bel lt1) trodAll_mk0)), rfl, bel.frame _, fun h => by cases h⟩
theorem over : Rows.pktWritesRow.holds Try.pinned (OpenSpec.ofChange Rows.pktWritesSpec) :=
  OpenClaim.holds_of_wide 3 Try.f3 rfl rfl rfl rfl rfl rfl rfl ⟨rfl, rfl, rfl, rfl, rfl⟩ rfl rfl rfl rfl rfl (by kernel_rfl) Try.func3 (by kernel_rfl)
    (of_decide_eq_true (by kernel_rfl)) (by unfold Func.isWrapper; first | (rw [if_pos (by decide +kernel)]; kernel_rfl) | (rw [if_neg (by decide +kernel)]; exact ⟨rfl, rfl⟩))
    (fun os started H enc _ => lifted os started H enc)
/-- THE STATEMENT -/
theorem proved : Rows.PktWritesSaid := over
#print axioms proved
end Go.Proofs.Ytengegcnocdkoaa.pktWrites
