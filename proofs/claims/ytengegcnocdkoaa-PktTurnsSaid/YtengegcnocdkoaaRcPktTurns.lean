/- The statement PktTurns: what becomes of a segment, and of a packet, that are turned, is what the document's answer says, for any segment, any bytes, any shift; and a known run goes as it must. -/
import Derived.Test.YtengegcnocdkoaaRc18
import Derived.Test.YtengegcnocdkoaaRc20
set_option linter.unusedVariables false
set_option linter.unusedSimpArgs false
set_option maxRecDepth 20000
namespace Go.Proofs.Ytengegcnocdkoaa.pktTurns
open Go.ChangeShapes Go.WideShapes Go.ChangeAt Go.RowKit Go.BigFrame
open Go.ChangeMaps (open_string shut_string)
set_option maxHeartbeats 8000000 in
theorem walk (s : Sg) (A : Option Addr) (c : Nat) (x : ByteArray) (sh : Sh) (w : World) (w0 : SgF w s A c) (w1 : x.size ≤ maxLen) (w2 : sh.wf) :
    Calls Try.prog 5 #[.agg (s.c A c), .string x, .agg sh.c] w fun e w' => e = .returned (.bool true) ∧ Below w.heap.size w w' := by
  have hal := alive08
  have hb0 : Below w.heap.size w w := Below.refl _ _
  have HB := Lib.hid hb0
  clear hb0
  have hs := fun W => heavy_sg W s A c w0.n w0.d
  cases h1 : heavyB s with
  | true =>
    rw [h1] at hs
    have Hal := Lib.hid hal
    clear hal
    have Hs := Lib.hid hs
    clear hs
    go_enter Try.func5, Try.ntmps5
    go_upto_region 1 with fail
    have hp := Blk.alloc (Blk.new w 30 (s.c A c)) (.cells sh.c 46)
    have hx := Blk.new (w.alloc (.cells (s.c A c) 30)) 46 sh.c
    rw [show (w.alloc (.cells (s.c A c) 30)).heap.size = w.heap.size + 1 by simp] at hx
    have hB := Below.alloc (Below.alloc (HB.out) (Nat.le_trans HB.out.size (by simp <;> omega)) (.cells (s.c A c) 30)) (Nat.le_trans HB.out.size (by simp <;> omega)) (.cells sh.c 46)
    clear HB
    obtain ⟨gx, hgex⟩ : ∃ g, g = w.heap.size + 1 := ⟨_, rfl⟩
    rw [← hgex] at hx ⊢
    obtain ⟨gp, hgep⟩ : ∃ g, g = w.heap.size := ⟨_, rfl⟩
    rw [← hgep] at hp ⊢
    have hne_p_x : gp ≠ gx := by omega
    have hle_p : w.heap.size ≤ gp := by omega
    have hle_x : w.heap.size ≤ gx := by omega
    clear hgep hgex
    generalize (w.alloc _).alloc _ = wn1 at *
    have Hp := Lib.hid hp
    clear hp
    have Hx := Lib.hid hx
    clear hx
    have HB := Lib.hid hB
    clear hB
    obtain ⟨W1, hwnW1⟩ : ∃ W, W = wn1 := ⟨_, rfl⟩
    rw [← hwnW1] at Hp Hx HB ⊢
    clear hwnW1
    go_wp2_with (first | (refine wpl_load Hp.out segU segI rfl _ rfl rfl ?_))
    with_reducible refine (Hs.out _).mono ?_
    rintro e1 w2 ⟨rfl, hbq⟩
    have hp := Hp.out.below hbq Hp.out.lt
    clear Hp
    have Hp := Lib.hid hp
    clear hp
    have hx := Hx.out.below hbq Hx.out.lt
    clear Hx
    have Hx := Lib.hid hx
    clear hx
    have hB := HB.out.trans (hbq.mono HB.out.size)
    clear HB
    have HB := Lib.hid hB
    clear hB
    clear hbq
    go_wp2_with fail
    (with_reducible refine (Hal.out _).mono ?_)
    rintro e w9 ⟨rfl, hbq⟩
    have hp := Hp.out.below hbq Hp.out.lt
    clear Hp
    have Hp := Lib.hid hp
    clear hp
    have hx := Hx.out.below hbq Hx.out.lt
    clear Hx
    have Hx := Lib.hid hx
    clear hx
    have hB := HB.out.trans (hbq.mono HB.out.size)
    clear HB
    have HB := Lib.hid hB
    clear hB
    clear hbq
    go_wp2
    go_ret
    exact ⟨rfl, HB.out⟩
  | false =>
  rw [h1] at hs
  by_cases h2 : 4096 < x.size
  · have i2 : (4096 : Int) < (x.size : Int) := by omega
    have Hal := Lib.hid hal
    clear hal
    have Hs := Lib.hid hs
    clear hs
    go_enter Try.func5, Try.ntmps5
    go_upto_region 1 with fail
    have hp := Blk.alloc (Blk.new w 30 (s.c A c)) (.cells sh.c 46)
    have hx := Blk.new (w.alloc (.cells (s.c A c) 30)) 46 sh.c
    rw [show (w.alloc (.cells (s.c A c) 30)).heap.size = w.heap.size + 1 by simp] at hx
    have hB := Below.alloc (Below.alloc (HB.out) (Nat.le_trans HB.out.size (by simp <;> omega)) (.cells (s.c A c) 30)) (Nat.le_trans HB.out.size (by simp <;> omega)) (.cells sh.c 46)
    clear HB
    obtain ⟨gx, hgex⟩ : ∃ g, g = w.heap.size + 1 := ⟨_, rfl⟩
    rw [← hgex] at hx ⊢
    obtain ⟨gp, hgep⟩ : ∃ g, g = w.heap.size := ⟨_, rfl⟩
    rw [← hgep] at hp ⊢
    have hne_p_x : gp ≠ gx := by omega
    have hle_p : w.heap.size ≤ gp := by omega
    have hle_x : w.heap.size ≤ gx := by omega
    clear hgep hgex
    generalize (w.alloc _).alloc _ = wn3 at *
    have Hp := Lib.hid hp
    clear hp
    have Hx := Lib.hid hx
    clear hx
    have HB := Lib.hid hB
    clear hB
    obtain ⟨W1, hwnW1⟩ : ∃ W, W = wn3 := ⟨_, rfl⟩
    rw [← hwnW1] at Hp Hx HB ⊢
    clear hwnW1
    go_wp2_with (first | (refine wpl_load Hp.out segU segI rfl _ rfl rfl ?_))
    with_reducible refine (Hs.out _).mono ?_
    rintro e1 w2 ⟨rfl, hbq⟩
    have hp := Hp.out.below hbq Hp.out.lt
    clear Hp
    have Hp := Lib.hid hp
    clear hp
    have hx := Hx.out.below hbq Hx.out.lt
    clear Hx
    have Hx := Lib.hid hx
    clear hx
    have hB := HB.out.trans (hbq.mono HB.out.size)
    clear HB
    have HB := Lib.hid hB
    clear hB
    clear hbq
    go_wp2_with fail
    (with_reducible refine (Hal.out _).mono ?_)
    rintro e w9 ⟨rfl, hbq⟩
    have hp := Hp.out.below hbq Hp.out.lt
    clear Hp
    have Hp := Lib.hid hp
    clear hp
    have hx := Hx.out.below hbq Hx.out.lt
    clear Hx
    have Hx := Lib.hid hx
    clear hx
    have hB := HB.out.trans (hbq.mono HB.out.size)
    clear HB
    have HB := Lib.hid hB
    clear hB
    clear hbq
    go_wp2
    go_ret
    exact ⟨rfl, HB.out⟩
  have i2 : ¬ (4096 : Int) < (x.size : Int) := by omega
  have n1 := (heavyB_no h1).2
  have hl : x.data.toList.length ≤ 4096 := by have : x.data.toList.length = x.size := rfl; omega
  have oR := fun W => rew_any x _ rfl (by omega) sh w2 W
  have rR := fun W => rrew_any x _ rfl (by omega) sh w2 W
  have oT := fun W (hW : Below w.heap.size w W) => pturned_any W s sh A c w0.ok (w0.r.below hW) (by omega)
  have rT := fun W (hW : Below w.heap.size w W) => rpturned_any W s sh A c w0.ok (w0.r.below hW) (by omega)
  have hm : (turnS s sh).o.bl.length ≤ maxLen := by show (s.o.bl.map _).length ≤ _; rw [List.length_map]; exact w0.n
  generalize rewR x.data.toList sh = E at *
  obtain ⟨E1, E2⟩ := E
  dsimp only at oR rR
  unfold TurnSP at oT rT
  generalize turnS s sh = t at *
  have OR := Lib.hid oR
  clear oR
  have RR := Lib.hid rR
  clear rR
  have OT := Lib.hid oT
  clear oT
  have RT := Lib.hid rT
  clear rT
  have Hm := Lib.hid hm
  clear hm
  clear h1 h2 n1 w0 w2 hl w1
  have Hal := Lib.hid hal
  clear hal
  have Hs := Lib.hid hs
  clear hs
  go_enter Try.func5, Try.ntmps5
  go_upto_region 1 with fail
  have hp := Blk.alloc (Blk.new w 30 (s.c A c)) (.cells sh.c 46)
  have hx := Blk.new (w.alloc (.cells (s.c A c) 30)) 46 sh.c
  rw [show (w.alloc (.cells (s.c A c) 30)).heap.size = w.heap.size + 1 by simp] at hx
  have hB := Below.alloc (Below.alloc (HB.out) (Nat.le_trans HB.out.size (by simp <;> omega)) (.cells (s.c A c) 30)) (Nat.le_trans HB.out.size (by simp <;> omega)) (.cells sh.c 46)
  clear HB
  obtain ⟨gx, hgex⟩ : ∃ g, g = w.heap.size + 1 := ⟨_, rfl⟩
  rw [← hgex] at hx ⊢
  obtain ⟨gp, hgep⟩ : ∃ g, g = w.heap.size := ⟨_, rfl⟩
  rw [← hgep] at hp ⊢
  have hne_p_x : gp ≠ gx := by omega
  have hle_p : w.heap.size ≤ gp := by omega
  have hle_x : w.heap.size ≤ gx := by omega
  clear hgep hgex
  generalize (w.alloc _).alloc _ = wn5 at *
  have Hp := Lib.hid hp
  clear hp
  have Hx := Lib.hid hx
  clear hx
  have HB := Lib.hid hB
  clear hB
  obtain ⟨W1, hwnW1⟩ : ∃ W, W = wn5 := ⟨_, rfl⟩
  rw [← hwnW1] at Hp Hx HB ⊢
  clear hwnW1
  go_wp2_with (first | (refine wpl_load Hp.out segU segI rfl _ rfl rfl ?_))
  with_reducible refine (Hs.out _).mono ?_
  rintro e1 w2 ⟨rfl, hbq⟩
  have hp := Hp.out.below hbq Hp.out.lt
  clear Hp
  have Hp := Lib.hid hp
  clear hp
  have hx := Hx.out.below hbq Hx.out.lt
  clear Hx
  have Hx := Lib.hid hx
  clear hx
  have hB := HB.out.trans (hbq.mono HB.out.size)
  clear HB
  have HB := Lib.hid hB
  clear hB
  clear hbq
  go_wp2_with (first | (refine wpl_load Hx.out shU shI rfl _ rfl rfl ?_))
  with_reducible refine (OR.out _).mono ?_
  rintro e3 w4 ⟨rfl, hbq⟩
  have hp := Hp.out.below hbq Hp.out.lt
  clear Hp
  have Hp := Lib.hid hp
  clear hp
  have hx := Hx.out.below hbq Hx.out.lt
  clear Hx
  have Hx := Lib.hid hx
  clear hx
  have hB := HB.out.trans (hbq.mono HB.out.size)
  clear HB
  have HB := Lib.hid hB
  clear hB
  clear hbq
  go_wp2_with (first | (refine wpl_load Hx.out shU shI rfl _ rfl rfl ?_))
  with_reducible refine (RR.out _).mono ?_
  rintro e4 w5 ⟨rfl, hbq⟩
  have hp := Hp.out.below hbq Hp.out.lt
  clear Hp
  have Hp := Lib.hid hp
  clear hp
  have hx := Hx.out.below hbq Hx.out.lt
  clear Hx
  have Hx := Lib.hid hx
  clear hx
  have hB := HB.out.trans (hbq.mono HB.out.size)
  clear HB
  have HB := Lib.hid hB
  clear hB
  clear hbq
  go_upto_region 5 with fail
  have qp : ∀ y : Cls (Fresh w5), Blk y.w gp 30 (s.c A c) := fun y => Hp.out.below y.h Hp.out.lt
  have qx : ∀ y : Cls (Fresh w5), Blk y.w gx 46 sh.c := fun y => Hx.out.below y.h Hx.out.lt
  have hw5 : ∀ y : Cls (Fresh w5), Below w.heap.size w y.w := fun y => HB.out.trans (Below.mono y.h HB.out.size)
  have k1 : ∀ y : Cls (Fresh w5), Calls Try.prog 23 #[.agg (s.c A c), .agg sh.c] y.w fun e w'' => ∃ v, e = .returned v ∧ segT t [v] w'' ∧ Fresh w5 w'' ∧ Below y.w.heap.size y.w w'' := fun y => (OT.out y.w (hw5 y)).mono fun e1 w1 ⟨A', c', he, hr, hb⟩ => ⟨_, he, ⟨A', c', rfl, hr⟩, Fresh.below y.h hb, hb⟩
  have k2 : ∀ y : Cls (Fresh w5), Calls Try.prog 24 #[.agg (s.c A c), .agg sh.c] y.w fun e w'' => ∃ v, e = .returned v ∧ segT t [v] w'' ∧ Fresh w5 w'' ∧ Below y.w.heap.size y.w w'' := fun y => (RT.out y.w (hw5 y)).mono fun e1 w1 ⟨A', c', he, hr, hb⟩ => ⟨_, he, ⟨A', c', rfl, hr⟩, Fresh.below y.h hb, hb⟩
  have k3 : ∀ (y : Cls (Fresh w5)) (u1 u2 : Value), segT t [u1] y.w → segT t [u2] y.w → Calls Try.prog 16 #[u1, u2] y.w fun e w'' => e = .returned (.bool true) ∧ Fresh w5 w'' ∧ Below y.w.heap.size y.w w'' := by
    intro y u1 u2 h1 h2
    obtain ⟨A1, c1, rfl, b1⟩ := h1.is
    obtain ⟨A2, c2, rfl, b2⟩ := h2.is
    have := rpsame_any y.w t t A1 A2 c1 c2 b1 b2 Hm.out Hm.out
    rw [sameS_self] at this
    exact this.mono fun e1 w1 ⟨he, hb⟩ => ⟨he, Fresh.below y.h hb, hb⟩
  have k8 : ∀ y : Cls (Fresh w5), _ := fun y => (Hal.out y.w).mono fun e1 w1 ⟨he, hb⟩ => (⟨he, Fresh.below y.h hb, hb⟩ : e1 = _ ∧ Fresh w5 w1 ∧ Below y.w.heap.size y.w w1)
  have fTurned : ∀ (vals : Array Value) (w : World), (callFunc 23 vals).run Try.prog w = .ok (.enter 23 vals) w := fun _ _ => by kernel_rfl
  have frTurned : ∀ (vals : Array Value) (w : World), (callFunc 24 vals).run Try.prog w = .ok (.enter 24 vals) w := fun _ _ => by kernel_rfl
  have frSame : ∀ (vals : Array Value) (w : World), (callFunc 16 vals).run Try.prog w = .ok (.enter 16 vals) w := fun _ _ => by kernel_rfl
  have falive : ∀ (vals : Array Value) (w : World), (callFunc 10 vals).run Try.prog w = .ok (.enter 10 vals) w := fun _ _ => by kernel_rfl
  have hS0 : Fresh w5 w5.drew := Fresh.below (Below.refl _ _) (Below.drew (Below.refl _ _))
  have ne : Nonempty (Cls (Fresh w5)) := ⟨⟨w5, Below.refl _ _⟩⟩
  clear hw5
  have HS0 := Lib.hid hS0
  clear hS0
  have Qp := Lib.hid qp
  clear qp
  have Qx := Lib.hid qx
  clear qx
  have K1 := Lib.hid k1
  clear k1
  have K2 := Lib.hid k2
  clear k2
  have K3 := Lib.hid k3
  clear k3
  have K8 := Lib.hid k8
  clear k8
  have FTurned := Lib.hid fTurned
  clear fTurned
  have FrTurned := Lib.hid frTurned
  clear frTurned
  have FrSame := Lib.hid frSame
  clear frSame
  have Falive := Lib.hid falive
  clear falive
  refine wp_region_flow 20 (Fresh w5) (fun w w' => Below w.heap.size w w') (by kernel_rfl) (by kernel_rfl) (by kernel_rfl) (fun w => Below.refl _ _) HS0.out ?_
  simp only [List.take_succ_cons, List.take_zero, List.drop_succ_cons, List.drop_zero]
  repeat (first
    | (refine flow_load gp _ Qp.out segU segI rfl (fun w => Below.refl _ _) rfl rfl rfl w5 ?_; intro K hK; go_big_quiet_op; go_big_quiet_on)
    | (refine flow_load gx _ Qx.out shU shI rfl (fun w => Below.refl _ _) rfl rfl rfl w5 ?_; intro K hK; go_big_quiet_op; go_big_quiet_on)
    | (refine flow_quiet (fun w => Below.refl _ _) rfl rfl rfl rfl ?_; intro K hK; go_big_quiet_op; go_big_quiet_on)
    | (refine flow_callF (segT t) segT.of FTurned.out _ ?_ rfl K1.out rfl rfl w5 ?_; (focus (simp only [List.map_toArray, List.map_cons, List.map_nil]; rfl)); intro K hK; go_big_quiet_op; go_big_quiet_on)
    | (refine flow_callF (segT t) segT.of FrTurned.out _ ?_ rfl K2.out rfl rfl w5 ?_; (focus (simp only [List.map_toArray, List.map_cons, List.map_nil]; rfl)); intro K hK; go_big_quiet_op; go_big_quiet_on)
    | (refine flow_callZ FrSame.out (.bool true) (fun u1 u2 => #[u1, u2]) 1 0 rfl rfl rfl rfl (fun f => by rfl) K3.out rfl rfl w5 ?_; intro K hK; go_big_quiet_op; go_big_quiet_on)
    | (refine flow_call Falive.out #[] (by simp only [List.map_toArray, List.map_nil]) rfl rfl rfl _ K8.out w5 ?_; intro K hK; go_big_quiet_op; go_big_quiet_on))
  refine flow_nil ?_
  intro W5 f hW5 hF5
  clear hF5
  simp only [fillW, Act.put, List.setIfInBounds_toArray, List.set_cons_succ, List.set_cons_zero]
  generalize f 33 = v33
  generalize f 36 = v36
  have hB5 : Below w.heap.size w W5 := HB.out.trans (Below.mono hW5 HB.out.size)
  clear hW5 ne
  have HB5 := Lib.hid hB5
  clear hB5
  go_wp2
  go_ret
  exact ⟨rfl, HB5.out⟩
theorem own : ownKnob Try.prog.godebug = none := by kernel_rfl
theorem laidOut : laidOutB Try.prog = true := by kernel_rfl
set_option maxRecDepth 100000 in
theorem lifted (os : Os) (started : os.Started) (H : Type) (enc : TypeId × Value → H) :
    ReturnsInHanded {} Try.checked os 5 .any (Rows.pktTurnsSpec.pre6 enc Try.prog Try.f5 Rows.pktTurnsRow.domain false) (Rows.pktTurnsSpec.post enc Try.prog Try.f5 false true false false) := by
  refine returnsInHanded_of_change (C := Try.checked) own started (by kernel_rfl) Try.func5
    (ChangeSpec.witness6 (enc := enc) (C := Try.checked) false ⟨#[], #[.agg #[.int .u32 0, .int .u16 0, .int .u32 0, .int .u16 0, .int .u32 0, .int .u32 0, .int .u8 0, .int .u16 0, .int .u16 0, .int .i64 0, .bool false, .slice none 0 0, .bool false, .int .u32 0, .int .u32 0, .string ByteArray.empty], .string ByteArray.empty, .agg #[.int .u32 0, .int .u16 0, .int .u32 0, .int .u16 0, .int .u32 0, .int .u32 0, .int .u32 0, .int .u32 0, .int .i64 0, .int .i64 0]], []⟩ 8 (by kernel_rfl) (by kernel_rfl) (by kernel_rfl) (by kernel_rfl)) ?_
  intro W base args ds gs before hval0 hW hcnd _
  have hval : ∀ (j : Nat) t v, Try.f5.params[j]? = some t → args[j]? = some v → Value.okWide Try.prog W .any base t v := hval0
  have hW' := hW
  obtain ⟨p, q, hA0, hV, rfl, hfz, hnd⟩ := hW
  have hA : DataW.TrodAll enc Try.prog W 0 (fun _ => true) true Try.f5.params.toList args.toList ds p := hA0
  rw [Try.params5] at hA hval
  obtain ⟨v0, vs0, d0, ds0, p0, q0, hargs, rfl, rfl, h0, r0⟩ := trodAll_cons hA
  obtain ⟨v1, vs1, d1, ds1, p1, q1, rfl, rfl, rfl, h1, r1⟩ := trodAll_cons r0
  obtain ⟨v2, vs2, d2, ds2, p2, q2, rfl, rfl, rfl, h2, r2⟩ := trodAll_cons r1
  obtain ⟨rfl, rfl, rfl⟩ := trodAll_nil r2
  obtain rfl : args = #[v0, v1, v2] := by cases args; simp_all
  obtain ⟨rfl, rfl⟩ := trodVars_none hV
  have k0 := h0
  have lt0 : ∀ x ∈ p0, x.block < W.heap.size := by obtain ⟨m, hm⟩ := k0; exact DataW.trod_lt m _ _ _ hm
  obtain ⟨a0_0, a0_1, a0_2, rfl, w0⟩ := open_sg (hval 0 30 v0 rfl rfl) h0
  obtain ⟨a1, rfl, rfl, rfl, w1⟩ := open_string Try.underlying9 (hval 1 9 v1 rfl rfl) h1
  have k2 := h2
  have lt2 : ∀ x ∈ p2, x.block < W.heap.size := by obtain ⟨m, hm⟩ := k2; exact DataW.trod_lt m _ _ _ hm
  obtain ⟨a2_0, rfl, w2⟩ := open_sh (hval 2 46 v2 rfl rfl) h2
  clear hA0 hval0
  refine (walk a0_0 a0_1 a0_2 a1 a2_0 W w0 w1 w2).mono fun e W' ⟨he, bel⟩ => ?_
  subst he
  exact ⟨_, rfl, _, _, _, [], _, [], hW', trodAll_mk1 (shut_bool Try.underlying4 _), (trodAll_cons_mk (Below.trod laidOut (by kernel_rfl) (of_decide_eq_true (by kernel_rfl)) k0 bel lt0) (trodAll_cons_mk (shut_string Try.underlying9 w1) (trodAll_cons_mk (Below.trod laidOut (by kernel_rfl) (of_decide_eq_true (by kernel_rfl)) k2 bel lt2) trodAll_mk0))), rfl, bel.frame _, fun h => by cases h⟩
theorem over : Rows.pktTurnsRow.holds Try.pinned (OpenSpec.ofChange Rows.pktTurnsSpec) :=
  OpenClaim.holds_of_wide 5 Try.f5 rfl rfl rfl rfl rfl rfl rfl ⟨rfl, rfl, rfl, rfl, rfl⟩ rfl rfl rfl rfl rfl (by kernel_rfl) Try.func5 (by kernel_rfl)
    (of_decide_eq_true (by kernel_rfl)) (by unfold Func.isWrapper; first | (rw [if_pos (by decide +kernel)]; kernel_rfl) | (rw [if_neg (by decide +kernel)]; exact ⟨rfl, rfl⟩))
    (fun os started H enc _ => lifted os started H enc)
/-- THE STATEMENT -/
theorem proved : Rows.PktTurnsSaid := over
#print axioms proved
end Go.Proofs.Ytengegcnocdkoaa.pktTurns
