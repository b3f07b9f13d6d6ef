/- Layer 26 (shift): the examples that the document fixes. -/
import Derived.Test.YtgppkfdhfphoeaaShift3
import Derived.Test.YtgppkfdhfphoeaaShiftWin
import Derived.Test.YtgppkfdhfphoeaaFlowS
import Derived.Deep.DeepCutAuto
set_option linter.unusedVariables false
set_option linter.unusedSimpArgs false
namespace Go.Proofs.Ytgppkfdhfphoeaa
open Go.RowKit Go.BigFrame

theorem of_1 (w : World) : Calls Try.prog 9 #[.agg #[.int .u32 0, .int .u16 0, .int .u32 0, .int .u16 0, .int .u32 200, .int .u32 100, .int .u32 0, .int .u32 0, .int .i64 0, .int .i64 2], .agg #[.int .u32 0, .int .u16 2, .int .u32 0, .int .u16 1, .int .u32 1100, .int .u32 1200, .int .u32 0, .int .u32 0, .int .i64 0, .int .i64 0]] w fun e w' => e = .returned (.tuple #[.agg #[.int .u32 0, .int .u16 1, .int .u32 0, .int .u16 2, .int .u32 1000, .int .u32 1000, .int .u32 0, .int .u32 0, .int .i64 2, .int .i64 0], .int .i64 0]) ∧ Below w.heap.size w w' := by
  refine (of_any 0 0 0 0 200 100 0 0 0 2 0 2 0 1 1100 1200 0 0 0 0 w).mono ?_
  rintro e w' ⟨rfl, hb⟩
  exact ⟨by kernel_rfl, hb⟩
theorem of_2 (w : World) : Calls Try.prog 9 #[.agg #[.int .u32 0, .int .u16 0, .int .u32 0, .int .u16 0, .int .u32 0, .int .u32 0, .int .u32 0, .int .u32 0, .int .i64 15, .int .i64 0], .agg #[.int .u32 0, .int .u16 0, .int .u32 0, .int .u16 0, .int .u32 0, .int .u32 0, .int .u32 0, .int .u32 0, .int .i64 0, .int .i64 0]] w fun e w' => e = .returned (.tuple #[.agg #[.int .u32 0, .int .u16 0, .int .u32 0, .int .u16 0, .int .u32 0, .int .u32 0, .int .u32 0, .int .u32 0, .int .i64 0, .int .i64 0], .int .i64 2]) ∧ Below w.heap.size w w' := by
  refine (of_any 0 0 0 0 0 0 0 0 15 0 0 0 0 0 0 0 0 0 0 0 w).mono ?_
  rintro e w' ⟨rfl, hb⟩
  exact ⟨by kernel_rfl, hb⟩
theorem seg_ex (w : World) : Calls Try.prog 10 #[.agg #[.int .u32 0, .int .u16 1, .int .u32 0, .int .u16 2, .int .u32 1000, .int .u32 1000, .int .u32 0, .int .u32 0, .int .i64 2, .int .i64 0], .agg #[.int .u32 0, .int .u16 0, .int .u32 0, .int .u16 0, .int .u32 101, .int .u32 201, .int .u8 16, .int .u16 5, .int .u16 0, .int .i64 (-1), .bool false, .slice none 0 0, .bool false, .int .u32 0, .int .u32 0, .string ⟨#[]⟩]] w fun e w' => e = .returned (.tuple #[.agg #[.int .u32 0, .int .u16 1, .int .u32 0, .int .u16 2, .int .u32 1101, .int .u32 1201, .int .u8 16, .int .u16 20, .int .u16 0, .int .i64 (-1), .bool false, .slice none 0 0, .bool false, .int .u32 0, .int .u32 0, .string ⟨#[]⟩], .int .i64 0]) ∧ Below w.heap.size w w' := by
  refine (sseg_16 0 1 0 2 1000 1000 0 0 2 0 w).mono ?_
  rintro e w' ⟨rfl, hb⟩
  exact ⟨by kernel_rfl, hb⟩
theorem win_ex (w : World) : Calls Try.prog 6 #[.agg #[.int .u32 0, .int .u16 1, .int .u32 0, .int .u16 2, .int .u32 1000, .int .u32 1000, .int .u32 0, .int .u32 0, .int .i64 2, .int .i64 0], .int .u16 5] w fun e w' => e = .returned (.int .u16 20) ∧ Below w.heap.size w w' := by
  refine (window_any 0 1 0 2 1000 1000 0 0 2 0 5 w (by decide) (by decide)).mono ?_
  rintro e w' ⟨rfl, hb⟩
  exact ⟨by kernel_rfl, hb⟩
set_option maxRecDepth 100000 in
set_option maxHeartbeats 4000000 in
theorem alive26 (w : World) : Calls Try.prog 7 #[] w fun e w' => e = .returned (.bool true) ∧ Below w.heap.size w w' := by
  have hb0 : Below w.heap.size w w := Below.refl _ _
  have HB := Lib.hid hb0
  clear hb0
  go_enter Try.func7, Try.ntmps7
  go_wp2_with fail
  (with_reducible refine (of_1 _).mono ?_)
  rintro e w1 ⟨rfl, hbq⟩
  have hB := HB.out.trans (hbq.mono HB.out.size)
  clear HB
  have HB := Lib.hid hB
  clear hB
  clear hbq
  go_upto_region 2 with fail
  have hs1 := HB.out.size
  have hx := Blk.new w1 27 #[.int .u32 0, .int .u16 1, .int .u32 0, .int .u16 2, .int .u32 1000, .int .u32 1000, .int .u32 0, .int .u32 0, .int .i64 2, .int .i64 0]
  have hB := Below.alloc (HB.out) (Nat.le_trans HB.out.size (by simp <;> omega)) (.cells #[.int .u32 0, .int .u16 1, .int .u32 0, .int .u16 2, .int .u32 1000, .int .u32 1000, .int .u32 0, .int .u32 0, .int .i64 2, .int .i64 0] 27)
  clear HB
  obtain ⟨gx, hgex⟩ : ∃ g, g = w1.heap.size := ⟨_, rfl⟩
  rw [← hgex] at hx ⊢
  have hle_x : w1.heap.size ≤ gx := by omega
  clear hgex
  generalize w1.alloc _ = wn2 at *
  have Hx := Lib.hid hx
  clear hx
  have HB := Lib.hid hB
  clear hB
  generalize hWx : wn2 = Wx at *
  clear hWx
  have hx := Hx.out
  have hS0 : KeepS Wx gx 27 #[.int .u32 0, .int .u16 1, .int .u32 0, .int .u16 2, .int .u32 1000, .int .u32 1000, .int .u32 0, .int .u32 0, .int .i64 2, .int .i64 0] Wx := ⟨Below.refl _ _, hx⟩
  have ne : Nonempty (Cls (KeepS Wx gx 27 #[.int .u32 0, .int .u16 1, .int .u32 0, .int .u16 2, .int .u32 1000, .int .u32 1000, .int .u32 0, .int .u32 0, .int .i64 2, .int .i64 0])) := ⟨⟨Wx, hS0⟩⟩
  have k0 : ∀ y : Cls (KeepS Wx gx 27 #[.int .u32 0, .int .u16 1, .int .u32 0, .int .u16 2, .int .u32 1000, .int .u32 1000, .int .u32 0, .int .u32 0, .int .i64 2, .int .i64 0]), y.w.cell? ⟨gx, 0, none⟩ = some (.int .u32 0) := fun y => y.h.2.cell 0
  have k1 : ∀ y : Cls (KeepS Wx gx 27 #[.int .u32 0, .int .u16 1, .int .u32 0, .int .u16 2, .int .u32 1000, .int .u32 1000, .int .u32 0, .int .u32 0, .int .i64 2, .int .i64 0]), y.w.cell? ⟨gx, 1, none⟩ = some (.int .u16 1) := fun y => y.h.2.cell 1
  have k2 : ∀ y : Cls (KeepS Wx gx 27 #[.int .u32 0, .int .u16 1, .int .u32 0, .int .u16 2, .int .u32 1000, .int .u32 1000, .int .u32 0, .int .u32 0, .int .i64 2, .int .i64 0]), y.w.cell? ⟨gx, 2, none⟩ = some (.int .u32 0) := fun y => y.h.2.cell 2
  have k3 : ∀ y : Cls (KeepS Wx gx 27 #[.int .u32 0, .int .u16 1, .int .u32 0, .int .u16 2, .int .u32 1000, .int .u32 1000, .int .u32 0, .int .u32 0, .int .i64 2, .int .i64 0]), y.w.cell? ⟨gx, 3, none⟩ = some (.int .u16 2) := fun y => y.h.2.cell 3
  have k4 : ∀ y : Cls (KeepS Wx gx 27 #[.int .u32 0, .int .u16 1, .int .u32 0, .int .u16 2, .int .u32 1000, .int .u32 1000, .int .u32 0, .int .u32 0, .int .i64 2, .int .i64 0]), y.w.cell? ⟨gx, 4, none⟩ = some (.int .u32 1000) := fun y => y.h.2.cell 4
  have k5 : ∀ y : Cls (KeepS Wx gx 27 #[.int .u32 0, .int .u16 1, .int .u32 0, .int .u16 2, .int .u32 1000, .int .u32 1000, .int .u32 0, .int .u32 0, .int .i64 2, .int .i64 0]), y.w.cell? ⟨gx, 5, none⟩ = some (.int .u32 1000) := fun y => y.h.2.cell 5
  have k6 : ∀ y : Cls (KeepS Wx gx 27 #[.int .u32 0, .int .u16 1, .int .u32 0, .int .u16 2, .int .u32 1000, .int .u32 1000, .int .u32 0, .int .u32 0, .int .i64 2, .int .i64 0]), y.w.cell? ⟨gx, 6, none⟩ = some (.int .u32 0) := fun y => y.h.2.cell 6
  have k7 : ∀ y : Cls (KeepS Wx gx 27 #[.int .u32 0, .int .u16 1, .int .u32 0, .int .u16 2, .int .u32 1000, .int .u32 1000, .int .u32 0, .int .u32 0, .int .i64 2, .int .i64 0]), y.w.cell? ⟨gx, 7, none⟩ = some (.int .u32 0) := fun y => y.h.2.cell 7
  have k8 : ∀ y : Cls (KeepS Wx gx 27 #[.int .u32 0, .int .u16 1, .int .u32 0, .int .u16 2, .int .u32 1000, .int .u32 1000, .int .u32 0, .int .u32 0, .int .i64 2, .int .i64 0]), y.w.cell? ⟨gx, 8, none⟩ = some (.int .i64 2) := fun y => y.h.2.cell 8
  have k9 : ∀ y : Cls (KeepS Wx gx 27 #[.int .u32 0, .int .u16 1, .int .u32 0, .int .u16 2, .int .u32 1000, .int .u32 1000, .int .u32 0, .int .u32 0, .int .i64 2, .int .i64 0]), y.w.cell? ⟨gx, 9, none⟩ = some (.int .i64 0) := fun y => y.h.2.cell 9
  have cf1 : ∀ (vals : Array Value) (w : World), (callFunc 17 vals).run Try.prog w = .ok (.enter 17 vals) w := fun _ _ => by kernel_rfl
  have cf2 : ∀ (vals : Array Value) (w : World), (callFunc 10 vals).run Try.prog w = .ok (.enter 10 vals) w := fun _ _ => by kernel_rfl
  have m1 : ∀ y : Cls (KeepS Wx gx 27 #[.int .u32 0, .int .u16 1, .int .u32 0, .int .u16 2, .int .u32 1000, .int .u32 1000, .int .u32 0, .int .u32 0, .int .i64 2, .int .i64 0]), Calls Try.prog 17 #[] y.w fun e w'' => e = .returned (.agg #[.int .u16 0, .int .i64 (-1), .bool false, .slice none 0 0, .bool false, .int .u32 0, .int .u32 0]) ∧ KeepS Wx gx 27 #[.int .u32 0, .int .u16 1, .int .u32 0, .int .u16 2, .int .u32 1000, .int .u32 1000, .int .u32 0, .int .u32 0, .int .i64 2, .int .i64 0] w'' ∧ Lays Wx.heap.size 39 #[.int .u32 0, .int .u16 0, .int .u32 0, .int .u16 0, .int .u32 0, .int .u32 0, .int .u8 0, .int .u16 0, .int .u16 0, .int .i64 0, .bool false, .slice none 0 0, .bool false, .int .u32 0, .int .u32 0, .string ⟨#[]⟩] #[.int .u32 0, .int .u16 1, .int .u32 0, .int .u16 2, .int .u32 1101, .int .u32 1201, .int .u8 16, .int .u16 20, .int .u16 0, .int .i64 (-1), .bool false, .slice none 0 0, .bool false, .int .u32 0, .int .u32 0, .string ⟨#[]⟩] y.w w'' :=
    fun y => (none_opts y.w).mono fun e w' ⟨he, hb⟩ => ⟨he, KeepS.below _ _ y.h hb, Lays.of_below hb⟩
  have m2 : ∀ y : Cls (KeepS Wx gx 27 #[.int .u32 0, .int .u16 1, .int .u32 0, .int .u16 2, .int .u32 1000, .int .u32 1000, .int .u32 0, .int .u32 0, .int .i64 2, .int .i64 0]), Calls Try.prog 10 #[.agg #[.int .u32 0, .int .u16 1, .int .u32 0, .int .u16 2, .int .u32 1000, .int .u32 1000, .int .u32 0, .int .u32 0, .int .i64 2, .int .i64 0], .agg #[.int .u32 0, .int .u16 0, .int .u32 0, .int .u16 0, .int .u32 101, .int .u32 201, .int .u8 16, .int .u16 5, .int .u16 0, .int .i64 (-1), .bool false, .slice none 0 0, .bool false, .int .u32 0, .int .u32 0, .string ⟨#[]⟩]] y.w fun e w'' => e = .returned (.tuple #[.agg #[.int .u32 0, .int .u16 1, .int .u32 0, .int .u16 2, .int .u32 1101, .int .u32 1201, .int .u8 16, .int .u16 20, .int .u16 0, .int .i64 (-1), .bool false, .slice none 0 0, .bool false, .int .u32 0, .int .u32 0, .string ⟨#[]⟩], .int .i64 0]) ∧ KeepS Wx gx 27 #[.int .u32 0, .int .u16 1, .int .u32 0, .int .u16 2, .int .u32 1000, .int .u32 1000, .int .u32 0, .int .u32 0, .int .i64 2, .int .i64 0] w'' ∧ Lays Wx.heap.size 39 #[.int .u32 0, .int .u16 0, .int .u32 0, .int .u16 0, .int .u32 0, .int .u32 0, .int .u8 0, .int .u16 0, .int .u16 0, .int .i64 0, .bool false, .slice none 0 0, .bool false, .int .u32 0, .int .u32 0, .string ⟨#[]⟩] #[.int .u32 0, .int .u16 1, .int .u32 0, .int .u16 2, .int .u32 1101, .int .u32 1201, .int .u8 16, .int .u16 20, .int .u16 0, .int .i64 (-1), .bool false, .slice none 0 0, .bool false, .int .u32 0, .int .u32 0, .string ⟨#[]⟩] y.w w'' :=
    fun y => (seg_ex y.w).mono fun e w' ⟨he, hb⟩ => ⟨he, KeepS.below _ _ y.h hb, Lays.of_below hb⟩
  have r1 : ∀ W : World, (Instr.alloc 39 true (.tuple #[])).run Try.prog W = .ok (.pointer (some ⟨W.heap.size, 0, none⟩)) (W.alloc (.cells #[.int .u32 0, .int .u16 0, .int .u32 0, .int .u16 0, .int .u32 0, .int .u32 0, .int .u8 0, .int .u16 0, .int .u16 0, .int .i64 0, .bool false, .slice none 0 0, .bool false, .int .u32 0, .int .u32 0, .string ⟨#[]⟩] 39)) := fun _ => by kernel_rfl
  have z1 : ∀ W : World, (sizeOf 39).run Try.prog W = .ok 16 W := fun _ => by kernel_rfl
  have hgt : gx < Wx.heap.size := hx.lt
  have hSt : ∀ w w' b, KeepS Wx gx 27 #[.int .u32 0, .int .u16 1, .int .u32 0, .int .u16 2, .int .u32 1000, .int .u32 1000, .int .u32 0, .int .u32 0, .int .i64 2, .int .i64 0] w → Wx.heap.size ≤ b → b < w.heap.size → w.grownBy w' (some b) → KeepS Wx gx 27 #[.int .u32 0, .int .u16 1, .int .u32 0, .int .u16 2, .int .u32 1000, .int .u32 1000, .int .u32 0, .int .u32 0, .int .i64 2, .int .i64 0] w' := fun w w' b h hB hb hg =>
    ⟨below_only h.1 hg hB h.1.size, h.2.grown hg (by intro e; injection e with e; omega)⟩
  have Cf1 := Lib.hid cf1
  have Cf2 := Lib.hid cf2
  have M1 := Lib.hid m1
  have M2 := Lib.hid m2
  have R1 := Lib.hid r1
  have Z1 := Lib.hid z1
  have HSt := Lib.hid hSt
  clear cf1 cf2 m1 m2 r1 z1 hSt hx
  refine wp_region_flow 10 (KeepS Wx gx 27 #[.int .u32 0, .int .u16 1, .int .u32 0, .int .u16 2, .int .u32 1000, .int .u32 1000, .int .u32 0, .int .u32 0, .int .i64 2, .int .i64 0]) (Lays Wx.heap.size 39 #[.int .u32 0, .int .u16 0, .int .u32 0, .int .u16 0, .int .u32 0, .int .u32 0, .int .u8 0, .int .u16 0, .int .u16 0, .int .i64 0, .bool false, .slice none 0 0, .bool false, .int .u32 0, .int .u32 0, .string ⟨#[]⟩] #[.int .u32 0, .int .u16 1, .int .u32 0, .int .u16 2, .int .u32 1101, .int .u32 1201, .int .u8 16, .int .u16 20, .int .u16 0, .int .i64 (-1), .bool false, .slice none 0 0, .bool false, .int .u32 0, .int .u32 0, .string ⟨#[]⟩]) (by kernel_rfl) (by kernel_rfl) (by kernel_rfl) Lays.refl hS0.drew ?_
  simp only [List.take_succ_cons, List.take_zero, List.drop_succ_cons, List.drop_zero]
  repeat (first
    | (refine flow_quiet Lays.refl rfl rfl rfl rfl ?_; intro K hK; go_big_quiet_op; go_big_quiet_on)
    | (refine flow_call Cf1.out _ ?_ rfl rfl rfl _ M1.out Wx ?_; (focus (simp)); intro K hK; go_big_quiet_op; go_big_quiet_on)
    | (refine flow_call Cf2.out _ ?_ rfl rfl rfl _ M2.out Wx ?_; (focus (simp only [List.map_toArray, List.map_cons, List.map_nil]; rfl)); intro K hK; go_big_quiet_op; go_big_quiet_on))
  refine flow_alloc Wx.heap.size #[.int .u32 0, .int .u16 0, .int .u32 0, .int .u16 0, .int .u32 0, .int .u32 0, .int .u8 0, .int .u16 0, .int .u16 0, .int .i64 0, .bool false, .slice none 0 0, .bool false, .int .u32 0, .int .u32 0, .string ⟨#[]⟩] #[.int .u32 0, .int .u16 1, .int .u32 0, .int .u16 2, .int .u32 1101, .int .u32 1201, .int .u8 16, .int .u16 20, .int .u16 0, .int .i64 (-1), .bool false, .slice none 0 0, .bool false, .int .u32 0, .int .u32 0, .string ⟨#[]⟩] R1.out KeepS.below (fun w h => h.1.size) rfl rfl Wx ?_
  intro K hK; go_big_quiet_op; go_big_quiet_on
  refine flow_store Wx.heap.size #[.int .u32 0, .int .u16 0, .int .u32 0, .int .u16 0, .int .u32 0, .int .u32 0, .int .u8 0, .int .u16 0, .int .u16 0, .int .i64 0, .bool false, .slice none 0 0, .bool false, .int .u32 0, .int .u32 0, .string ⟨#[]⟩] #[.int .u32 0, .int .u16 1, .int .u32 0, .int .u16 2, .int .u32 1101, .int .u32 1201, .int .u8 16, .int .u16 20, .int .u16 0, .int .i64 (-1), .bool false, .slice none 0 0, .bool false, .int .u32 0, .int .u32 0, .string ⟨#[]⟩] #[.int .u32 0, .int .u16 1, .int .u32 0, .int .u16 2, .int .u32 1101, .int .u32 1201, .int .u8 16, .int .u16 20, .int .u16 0, .int .i64 (-1), .bool false, .slice none 0 0, .bool false, .int .u32 0, .int .u32 0, .string ⟨#[]⟩] 0 rfl rfl rfl (by simp) rfl (fun f => rfl) Z1.out rfl rfl (by decide) rfl rfl HSt.out rfl rfl ?_
  repeat (refine flow_quiet Lays.refl rfl rfl rfl rfl ?_; intro K hK; go_big_quiet_op; go_big_quiet_on)
  refine flow_nil ?_
  intro W f hW hF
  obtain ⟨gs, hgs, hge, hs⟩ := hF _ List.mem_cons_self
  simp only [fillW, Act.put, List.setIfInBounds_toArray, List.set_cons_succ, List.set_cons_zero]
  injection hgs with hgs
  rw [hgs]
  generalize f 3 = z3 at *
  clear hF hgs
  have hx := hW.2
  have hB := HB.out.trans (hW.1.mono HB.out.size)
  clear HB Hx hW hS0 ne k0 k1 k2 k3 k4 k5 k6 k7 k8 k9 Cf1 Cf2 M1 M2 R1 Z1 HSt hgt
  have Hx := Lib.hid hx
  clear hx
  have Hs := Lib.hid hs
  clear hs
  have HB := Lib.hid hB
  clear hB
  go_wp2_with fail
  (with_reducible refine (of_2 _).mono ?_)
  rintro e w5 ⟨rfl, hbq⟩
  have hx := Hx.out.below hbq Hx.out.lt
  clear Hx
  have Hx := Lib.hid hx
  clear hx
  have hs := Hs.out.below hbq Hs.out.lt
  clear Hs
  have Hs := Lib.hid hs
  clear hs
  have hB := HB.out.trans (hbq.mono HB.out.size)
  clear HB
  have HB := Lib.hid hB
  clear hB
  clear hbq
  go_upto_region 4 with fail
  have hd := Blk.new w5 27 #[.int .u32 0, .int .u16 0, .int .u32 0, .int .u16 0, .int .u32 0, .int .u32 0, .int .u32 0, .int .u32 0, .int .i64 0, .int .i64 0]
  have hx := Blk.alloc Hx.out (.cells #[.int .u32 0, .int .u16 0, .int .u32 0, .int .u16 0, .int .u32 0, .int .u32 0, .int .u32 0, .int .u32 0, .int .i64 0, .int .i64 0] 27)
  clear Hx
  have hs := Blk.alloc Hs.out (.cells #[.int .u32 0, .int .u16 0, .int .u32 0, .int .u16 0, .int .u32 0, .int .u32 0, .int .u32 0, .int .u32 0, .int .i64 0, .int .i64 0] 27)
  clear Hs
  have hB := HB.out.alloc HB.out.size (.cells #[.int .u32 0, .int .u16 0, .int .u32 0, .int .u16 0, .int .u32 0, .int .u32 0, .int .u32 0, .int .u32 0, .int .i64 0, .int .i64 0] 27)
  clear HB
  obtain ⟨gd, hge⟩ : ∃ g, g = w5.heap.size := ⟨_, rfl⟩
  rw [← hge] at hd ⊢
  clear hge
  generalize w5.alloc _ = w6 at *
  have Hx := Lib.hid hx
  clear hx
  have Hs := Lib.hid hs
  clear hs
  have Hd := Lib.hid hd
  clear hd
  have HB := Lib.hid hB
  clear hB
  have c0 := Hx.out.cell 0
  have c1 := Hx.out.cell 1
  have c2 := Hx.out.cell 2
  have c3 := Hx.out.cell 3
  have c4 := Hx.out.cell 4
  have c5 := Hx.out.cell 5
  have c6 := Hx.out.cell 6
  have c7 := Hx.out.cell 7
  have c8 := Hx.out.cell 8
  have c9 := Hx.out.cell 9
  simp at c0 c1 c2 c3 c4 c5 c6 c7 c8 c9
  go_wp2_with fail
  (with_reducible refine (sseg_255 0 1 0 2 1000 1000 0 0 2 0 _).mono ?_)
  rintro e w7 ⟨rfl, hbq⟩
  have hx := Hx.out.below hbq Hx.out.lt
  clear Hx
  have Hx := Lib.hid hx
  clear hx
  have hs := Hs.out.below hbq Hs.out.lt
  clear Hs
  have Hs := Lib.hid hs
  clear hs
  have hd := Hd.out.below hbq Hd.out.lt
  clear Hd
  have Hd := Lib.hid hd
  clear hd
  have hB := HB.out.trans (hbq.mono HB.out.size)
  clear HB
  have HB := Lib.hid hB
  clear hB
  clear hbq
  clear c0 c1 c2 c3 c4 c5 c6 c7 c8 c9
  go_upto_region 5 with fail
  have he := Blk.new w7 39 #[.int .u32 0, .int .u16 0, .int .u32 0, .int .u16 0, .int .u32 0, .int .u32 0, .int .u8 0, .int .u16 0, .int .u16 0, .int .i64 0, .bool false, .slice none 0 0, .bool false, .int .u32 0, .int .u32 0, .string ⟨#[]⟩]
  have hx := Blk.alloc Hx.out (.cells #[.int .u32 0, .int .u16 0, .int .u32 0, .int .u16 0, .int .u32 0, .int .u32 0, .int .u8 0, .int .u16 0, .int .u16 0, .int .i64 0, .bool false, .slice none 0 0, .bool false, .int .u32 0, .int .u32 0, .string ⟨#[]⟩] 39)
  clear Hx
  have hs := Blk.alloc Hs.out (.cells #[.int .u32 0, .int .u16 0, .int .u32 0, .int .u16 0, .int .u32 0, .int .u32 0, .int .u8 0, .int .u16 0, .int .u16 0, .int .i64 0, .bool false, .slice none 0 0, .bool false, .int .u32 0, .int .u32 0, .string ⟨#[]⟩] 39)
  clear Hs
  have hd := Blk.alloc Hd.out (.cells #[.int .u32 0, .int .u16 0, .int .u32 0, .int .u16 0, .int .u32 0, .int .u32 0, .int .u8 0, .int .u16 0, .int .u16 0, .int .i64 0, .bool false, .slice none 0 0, .bool false, .int .u32 0, .int .u32 0, .string ⟨#[]⟩] 39)
  clear Hd
  have hB := HB.out.alloc HB.out.size (.cells #[.int .u32 0, .int .u16 0, .int .u32 0, .int .u16 0, .int .u32 0, .int .u32 0, .int .u8 0, .int .u16 0, .int .u16 0, .int .i64 0, .bool false, .slice none 0 0, .bool false, .int .u32 0, .int .u32 0, .string ⟨#[]⟩] 39)
  clear HB
  obtain ⟨ge, hge⟩ : ∃ g, g = w7.heap.size := ⟨_, rfl⟩
  rw [← hge] at he ⊢
  clear hge
  generalize w7.alloc _ = w8 at *
  have Hx := Lib.hid hx
  clear hx
  have Hs := Lib.hid hs
  clear hs
  have Hd := Lib.hid hd
  clear hd
  have He := Lib.hid he
  clear he
  have HB := Lib.hid hB
  clear hB
  have c0 := Hx.out.cell 0
  have c1 := Hx.out.cell 1
  have c2 := Hx.out.cell 2
  have c3 := Hx.out.cell 3
  have c4 := Hx.out.cell 4
  have c5 := Hx.out.cell 5
  have c6 := Hx.out.cell 6
  have c7 := Hx.out.cell 7
  have c8 := Hx.out.cell 8
  have c9 := Hx.out.cell 9
  simp at c0 c1 c2 c3 c4 c5 c6 c7 c8 c9
  have q0 := Hs.out.cell 0
  have q1 := Hs.out.cell 1
  have q2 := Hs.out.cell 2
  have q3 := Hs.out.cell 3
  have q4 := Hs.out.cell 4
  have q5 := Hs.out.cell 5
  have q6 := Hs.out.cell 6
  have q7 := Hs.out.cell 7
  simp at q0 q1 q2 q3 q4 q5 q6 q7
  go_wp2_with fail
  (with_reducible refine (win_ex _).mono ?_)
  rintro e w9 ⟨rfl, hb9⟩
  have hB9 := HB.out.trans (hb9.mono HB.out.size)
  have HB := Lib.hid hB9
  clear hB9 hb9
  go_wp2
  go_ret
  exact ⟨rfl, HB.out⟩
end Go.Proofs.Ytgppkfdhfphoeaa
