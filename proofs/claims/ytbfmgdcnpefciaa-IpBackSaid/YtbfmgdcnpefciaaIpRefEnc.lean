/- Contracts of layer 5 (ip): the document's Encode; what is too long. -/
import Derived.Test.YtbfmgdcnpefciaaIpEnc
set_option linter.unusedVariables false
set_option linter.unusedSimpArgs false
namespace Go.Proofs.Ytbfmgdcnpefciaa
open Go.RowKit Go.BigFrame

theorem str_one (a : UInt8) (W : World) (g c : Nat) (h : Blk W g 5 #[u8v a]) : (convert 42 9 (.slice (some ⟨g, 0, none⟩) 1 c)).run Try.prog W = .ok (.string ⟨#[a]⟩) W :=
  run_bytes_back W ⟨g, 0, none⟩ 1 c [a] rfl (by
    intro j hj
    rw [add_plain, Nat.zero_add, h.cell j]
    match j, hj with
    | 0, _ => rfl)

set_option maxRecDepth 100000 in
set_option maxHeartbeats 4000000 in
theorem ref_head (h : IPh) (n sm : Nat) (w : World) (ho : h.ok) (hn : n < 65536) (hs : sm < 65536) :
    Calls Try.prog 32 #[.agg h.cells, .int .i64 (n : Int), .int .u16 (sm : Int)] w fun e w' => e = .returned (.string ⟨(headL h n sm).toArray⟩) ∧ Below w.heap.size w w' := by
  obtain ⟨src, dst, proto, ttl, tos, id, df⟩ := h
  obtain ⟨o1, o2, o3⟩ := ho
  simp only at o1 o2 o3
  unfold IPh.cells
  simp only
  have b1 := fun W => ref_bytes n W (by omega)
  have b2 := fun W => ref_bytes id W (by omega)
  have b5 := fun W => ref_bytes sm W (by omega)
  have b3 := fun W => ref_four src W (by omega)
  have b4 := fun W => ref_four dst W (by omega)
  have B1 := Lib.hid b1
  clear b1
  have B2 := Lib.hid b2
  clear b2
  have B3 := Lib.hid b3
  clear b3
  have B4 := Lib.hid b4
  clear b4
  have B5 := Lib.hid b5
  clear b5
  have hx := Blk.new w 48 #[.int .u32 (src : Int), .int .u32 (dst : Int), .int .u8 (proto.toNat : Int), .int .u8 (ttl.toNat : Int), .int .u8 (tos.toNat : Int), .int .u16 (id : Int), .bool df]
  have hb0 : Below w.heap.size w (w.alloc (.cells #[.int .u32 (src : Int), .int .u32 (dst : Int), .int .u8 (proto.toNat : Int), .int .u8 (ttl.toNat : Int), .int .u8 (tos.toNat : Int), .int .u16 (id : Int), .bool df] 48)) := (Below.refl _ _).alloc (Nat.le_refl _) _
  have Hx := Lib.hid hx
  clear hx
  have Hb0 := Lib.hid hb0
  clear hb0
  cases df
  · go_enter Try.func32, Try.ntmps32
    go_upto_region 4 with fail
    generalize w.alloc _ = W at *
    obtain ⟨x, hxe⟩ : ∃ x, x = w.heap.size := ⟨_, rfl⟩
    rw [← hxe] at Hx ⊢
    clear hxe
    have hS0 : KeepS w x 48 #[.int .u32 (src : Int), .int .u32 (dst : Int), .int .u8 (proto.toNat : Int), .int .u8 (ttl.toNat : Int), .int .u8 (tos.toNat : Int), .int .u16 (id : Int), .bool false] W := ⟨Hb0.out, Hx.out⟩
    have ne : Nonempty (Cls (KeepS w x 48 #[.int .u32 (src : Int), .int .u32 (dst : Int), .int .u8 (proto.toNat : Int), .int .u8 (ttl.toNat : Int), .int .u8 (tos.toNat : Int), .int .u16 (id : Int), .bool false])) := ⟨⟨W, hS0⟩⟩
    have k0 : ∀ y : Cls (KeepS w x 48 #[.int .u32 (src : Int), .int .u32 (dst : Int), .int .u8 (proto.toNat : Int), .int .u8 (ttl.toNat : Int), .int .u8 (tos.toNat : Int), .int .u16 (id : Int), .bool false]), y.w.cell? ⟨x, 0, none⟩ = some (.int .u32 (src : Int)) := fun y => y.h.2.cell 0
    have k1 : ∀ y : Cls (KeepS w x 48 #[.int .u32 (src : Int), .int .u32 (dst : Int), .int .u8 (proto.toNat : Int), .int .u8 (ttl.toNat : Int), .int .u8 (tos.toNat : Int), .int .u16 (id : Int), .bool false]), y.w.cell? ⟨x, 1, none⟩ = some (.int .u32 (dst : Int)) := fun y => y.h.2.cell 1
    have k2 : ∀ y : Cls (KeepS w x 48 #[.int .u32 (src : Int), .int .u32 (dst : Int), .int .u8 (proto.toNat : Int), .int .u8 (ttl.toNat : Int), .int .u8 (tos.toNat : Int), .int .u16 (id : Int), .bool false]), y.w.cell? ⟨x, 2, none⟩ = some (.int .u8 (proto.toNat : Int)) := fun y => y.h.2.cell 2
    have k3 : ∀ y : Cls (KeepS w x 48 #[.int .u32 (src : Int), .int .u32 (dst : Int), .int .u8 (proto.toNat : Int), .int .u8 (ttl.toNat : Int), .int .u8 (tos.toNat : Int), .int .u16 (id : Int), .bool false]), y.w.cell? ⟨x, 3, none⟩ = some (.int .u8 (ttl.toNat : Int)) := fun y => y.h.2.cell 3
    have k4 : ∀ y : Cls (KeepS w x 48 #[.int .u32 (src : Int), .int .u32 (dst : Int), .int .u8 (proto.toNat : Int), .int .u8 (ttl.toNat : Int), .int .u8 (tos.toNat : Int), .int .u16 (id : Int), .bool false]), y.w.cell? ⟨x, 4, none⟩ = some (.int .u8 (tos.toNat : Int)) := fun y => y.h.2.cell 4
    have k5 : ∀ y : Cls (KeepS w x 48 #[.int .u32 (src : Int), .int .u32 (dst : Int), .int .u8 (proto.toNat : Int), .int .u8 (ttl.toNat : Int), .int .u8 (tos.toNat : Int), .int .u16 (id : Int), .bool false]), y.w.cell? ⟨x, 5, none⟩ = some (.int .u16 (id : Int)) := fun y => y.h.2.cell 5
    have cf : ∀ (vals : Array Value) (w : World), (callFunc 39 vals).run Try.prog w = .ok (.enter 39 vals) w := fun _ _ => by kernel_rfl
    have cf4 : ∀ (vals : Array Value) (w : World), (callFunc 40 vals).run Try.prog w = .ok (.enter 40 vals) w := fun _ _ => by kernel_rfl
    have r1 : ∀ W : World, (Instr.buildSlice 42 1 #[(0, .int .u8 (tos.toNat : Int))]).run Try.prog W = .ok (.slice (some ⟨W.heap.size, 0, none⟩) 1 1) (W.alloc (.cells #[.int .u8 (tos.toNat : Int)] 5)) := fun _ => by kernel_rfl
    have r2 : ∀ W : World, (Instr.buildSlice 42 2 #[(0, .int .u8 (ttl.toNat : Int)), (1, .int .u8 (proto.toNat : Int))]).run Try.prog W = .ok (.slice (some ⟨W.heap.size, 0, none⟩) 2 2) (W.alloc (.cells #[.int .u8 (ttl.toNat : Int), .int .u8 (proto.toNat : Int)] 5)) := fun _ => by kernel_rfl
    have q1 : ∀ W u, isNew 5 #[.int .u8 (tos.toNat : Int)] 1 u W → (convert 42 9 u).run Try.prog W = .ok (.string ⟨#[tos]⟩) W := by
      rintro W u ⟨g, rfl, h⟩
      exact str_one tos W g 1 h
    have q2 : ∀ W u, isNew 5 #[.int .u8 (ttl.toNat : Int), .int .u8 (proto.toNat : Int)] 2 u W → (convert 42 9 u).run Try.prog W = .ok (.string ⟨#[ttl, proto]⟩) W := by
      rintro W u ⟨g, rfl, h⟩
      exact str_two ttl proto W g 2 h
    have Cf := Lib.hid cf
    clear cf
    have Cf4 := Lib.hid cf4
    clear cf4
    have R1 := Lib.hid r1
    clear r1
    have R2 := Lib.hid r2
    clear r2
    have Q1 := Lib.hid q1
    clear q1
    have Q2 := Lib.hid q2
    clear q2
    have z2 : ∀ n, (be2 n).length = 2 := fun _ => rfl
    have z4 : ∀ n, (be4 n).length = 4 := fun _ => rfl
    refine wp_region_flat (KeepS w x 48 #[.int .u32 (src : Int), .int .u32 (dst : Int), .int .u8 (proto.toNat : Int), .int .u8 (ttl.toNat : Int), .int .u8 (tos.toNat : Int), .int .u16 (id : Int), .bool false]) (fun w w' => Below w.heap.size w w') (by kernel_rfl) (by kernel_rfl) (fun w => Below.refl _ _) hS0.drew ?_
    clear hS0
    repeat (first
      | (refine flat_quiet (fun w => Below.refl _ _) rfl rfl rfl rfl ?_; intro K hK; go_big_quiet_op; go_big_quiet_on)
      | (refine flat_call Cf.out _ ?_ rfl rfl rfl _ (fun y => below_call KeepS.below y (B1.out _)) W ?_; (focus (simp only [List.map_toArray, List.map_cons, List.map_nil]; rfl)); intro K hK; go_big_quiet_op; go_big_quiet_on)
      | (refine flat_call Cf.out _ ?_ rfl rfl rfl _ (fun y => below_call KeepS.below y (B2.out _)) W ?_; (focus (simp only [List.map_toArray, List.map_cons, List.map_nil]; rfl)); intro K hK; go_big_quiet_op; go_big_quiet_on)
      | (refine flat_call Cf.out _ ?_ rfl rfl rfl _ (fun y => below_call KeepS.below y (B5.out _)) W ?_; (focus (simp only [List.map_toArray, List.map_cons, List.map_nil]; rfl)); intro K hK; go_big_quiet_op; go_big_quiet_on)
      | (refine flat_call Cf4.out _ ?_ rfl rfl rfl _ (fun y => below_call KeepS.below y (B3.out _)) W ?_; (focus (simp only [List.map_toArray, List.map_cons, List.map_nil]; rfl)); intro K hK; go_big_quiet_op; go_big_quiet_on)
      | (refine flat_call Cf4.out _ ?_ rfl rfl rfl _ (fun y => below_call KeepS.below y (B4.out _)) W ?_; (focus (simp only [List.map_toArray, List.map_cons, List.map_nil]; rfl)); intro K hK; go_big_quiet_op; go_big_quiet_on)
      | (refine flat_build (E := 5) _ ?_ _ R1.out KeepS.below rfl rfl rfl W ?_; (focus (simp only [List.map_toArray, List.map_cons, List.map_nil]; rfl)); intro K hK; go_big_quiet_op; go_big_quiet_on)
      | (refine flat_build (E := 5) _ ?_ _ R2.out KeepS.below rfl rfl rfl W ?_; (focus (simp only [List.map_toArray, List.map_cons, List.map_nil]; rfl)); intro K hK; go_big_quiet_op; go_big_quiet_on)
      | (refine flat_conv ?_ List.mem_cons_self _ Q1.out (fun w => Below.refl _ _) rfl rfl rfl W ?_; (focus (simp)); intro K hK; go_big_quiet_op; go_big_quiet_on)
      | (refine flat_conv ?_ List.mem_cons_self _ Q2.out (fun w => Below.refl _ _) rfl rfl rfl W ?_; (focus (simp)); intro K hK; go_big_quiet_op; go_big_quiet_on))
    refine flat_nil ?_
    intro W7 hW7 y1 _ y2 _
    simp only [endF, Act.put, List.setIfInBounds_toArray, List.set_cons_succ, List.set_cons_zero]
    have hall : (⟨#[69]⟩ : ByteArray) ++ ⟨#[tos]⟩ ++ ⟨(be2 n).toArray⟩ ++ ⟨(be2 id).toArray⟩ ++ ⟨#[0, 0]⟩ ++ ⟨#[ttl, proto]⟩ ++ ⟨(be2 sm).toArray⟩ ++ ⟨(be4 src).toArray⟩ ++ ⟨(be4 dst).toArray⟩ = ⟨(headL ⟨src, dst, proto, ttl, tos, id, false⟩ n sm).toArray⟩ := by
      rw [show (⟨#[69]⟩ : ByteArray) = ⟨[69].toArray⟩ from rfl, show (⟨#[tos]⟩ : ByteArray) = ⟨[tos].toArray⟩ from rfl, show (⟨#[0, 0]⟩ : ByteArray) = ⟨[0, 0].toArray⟩ from rfl, show (⟨#[ttl, proto]⟩ : ByteArray) = ⟨[ttl, proto].toArray⟩ from rfl]
      simp only [str_cat]
      rfl
    rw [hall]
    clear hall
    go_wp2
    go_ret
    exact ⟨rfl, hW7.1⟩
  · go_enter Try.func32, Try.ntmps32
    go_upto_region 4 with fail
    generalize w.alloc _ = W at *
    obtain ⟨x, hxe⟩ : ∃ x, x = w.heap.size := ⟨_, rfl⟩
    rw [← hxe] at Hx ⊢
    clear hxe
    have hS0 : KeepS w x 48 #[.int .u32 (src : Int), .int .u32 (dst : Int), .int .u8 (proto.toNat : Int), .int .u8 (ttl.toNat : Int), .int .u8 (tos.toNat : Int), .int .u16 (id : Int), .bool true] W := ⟨Hb0.out, Hx.out⟩
    have ne : Nonempty (Cls (KeepS w x 48 #[.int .u32 (src : Int), .int .u32 (dst : Int), .int .u8 (proto.toNat : Int), .int .u8 (ttl.toNat : Int), .int .u8 (tos.toNat : Int), .int .u16 (id : Int), .bool true])) := ⟨⟨W, hS0⟩⟩
    have k0 : ∀ y : Cls (KeepS w x 48 #[.int .u32 (src : Int), .int .u32 (dst : Int), .int .u8 (proto.toNat : Int), .int .u8 (ttl.toNat : Int), .int .u8 (tos.toNat : Int), .int .u16 (id : Int), .bool true]), y.w.cell? ⟨x, 0, none⟩ = some (.int .u32 (src : Int)) := fun y => y.h.2.cell 0
    have k1 : ∀ y : Cls (KeepS w x 48 #[.int .u32 (src : Int), .int .u32 (dst : Int), .int .u8 (proto.toNat : Int), .int .u8 (ttl.toNat : Int), .int .u8 (tos.toNat : Int), .int .u16 (id : Int), .bool true]), y.w.cell? ⟨x, 1, none⟩ = some (.int .u32 (dst : Int)) := fun y => y.h.2.cell 1
    have k2 : ∀ y : Cls (KeepS w x 48 #[.int .u32 (src : Int), .int .u32 (dst : Int), .int .u8 (proto.toNat : Int), .int .u8 (ttl.toNat : Int), .int .u8 (tos.toNat : Int), .int .u16 (id : Int), .bool true]), y.w.cell? ⟨x, 2, none⟩ = some (.int .u8 (proto.toNat : Int)) := fun y => y.h.2.cell 2
    have k3 : ∀ y : Cls (KeepS w x 48 #[.int .u32 (src : Int), .int .u32 (dst : Int), .int .u8 (proto.toNat : Int), .int .u8 (ttl.toNat : Int), .int .u8 (tos.toNat : Int), .int .u16 (id : Int), .bool true]), y.w.cell? ⟨x, 3, none⟩ = some (.int .u8 (ttl.toNat : Int)) := fun y => y.h.2.cell 3
    have k4 : ∀ y : Cls (KeepS w x 48 #[.int .u32 (src : Int), .int .u32 (dst : Int), .int .u8 (proto.toNat : Int), .int .u8 (ttl.toNat : Int), .int .u8 (tos.toNat : Int), .int .u16 (id : Int), .bool true]), y.w.cell? ⟨x, 4, none⟩ = some (.int .u8 (tos.toNat : Int)) := fun y => y.h.2.cell 4
    have k5 : ∀ y : Cls (KeepS w x 48 #[.int .u32 (src : Int), .int .u32 (dst : Int), .int .u8 (proto.toNat : Int), .int .u8 (ttl.toNat : Int), .int .u8 (tos.toNat : Int), .int .u16 (id : Int), .bool true]), y.w.cell? ⟨x, 5, none⟩ = some (.int .u16 (id : Int)) := fun y => y.h.2.cell 5
    have cf : ∀ (vals : Array Value) (w : World), (callFunc 39 vals).run Try.prog w = .ok (.enter 39 vals) w := fun _ _ => by kernel_rfl
    have cf4 : ∀ (vals : Array Value) (w : World), (callFunc 40 vals).run Try.prog w = .ok (.enter 40 vals) w := fun _ _ => by kernel_rfl
    have r1 : ∀ W : World, (Instr.buildSlice 42 1 #[(0, .int .u8 (tos.toNat : Int))]).run Try.prog W = .ok (.slice (some ⟨W.heap.size, 0, none⟩) 1 1) (W.alloc (.cells #[.int .u8 (tos.toNat : Int)] 5)) := fun _ => by kernel_rfl
    have r2 : ∀ W : World, (Instr.buildSlice 42 2 #[(0, .int .u8 (ttl.toNat : Int)), (1, .int .u8 (proto.toNat : Int))]).run Try.prog W = .ok (.slice (some ⟨W.heap.size, 0, none⟩) 2 2) (W.alloc (.cells #[.int .u8 (ttl.toNat : Int), .int .u8 (proto.toNat : Int)] 5)) := fun _ => by kernel_rfl
    have q1 : ∀ W u, isNew 5 #[.int .u8 (tos.toNat : Int)] 1 u W → (convert 42 9 u).run Try.prog W = .ok (.string ⟨#[tos]⟩) W := by
      rintro W u ⟨g, rfl, h⟩
      exact str_one tos W g 1 h
    have q2 : ∀ W u, isNew 5 #[.int .u8 (ttl.toNat : Int), .int .u8 (proto.toNat : Int)] 2 u W → (convert 42 9 u).run Try.prog W = .ok (.string ⟨#[ttl, proto]⟩) W := by
      rintro W u ⟨g, rfl, h⟩
      exact str_two ttl proto W g 2 h
    have Cf := Lib.hid cf
    clear cf
    have Cf4 := Lib.hid cf4
    clear cf4
    have R1 := Lib.hid r1
    clear r1
    have R2 := Lib.hid r2
    clear r2
    have Q1 := Lib.hid q1
    clear q1
    have Q2 := Lib.hid q2
    clear q2
    have z2 : ∀ n, (be2 n).length = 2 := fun _ => rfl
    have z4 : ∀ n, (be4 n).length = 4 := fun _ => rfl
    refine wp_region_flat (KeepS w x 48 #[.int .u32 (src : Int), .int .u32 (dst : Int), .int .u8 (proto.toNat : Int), .int .u8 (ttl.toNat : Int), .int .u8 (tos.toNat : Int), .int .u16 (id : Int), .bool true]) (fun w w' => Below w.heap.size w w') (by kernel_rfl) (by kernel_rfl) (fun w => Below.refl _ _) hS0.drew ?_
    clear hS0
    repeat (first
      | (refine flat_quiet (fun w => Below.refl _ _) rfl rfl rfl rfl ?_; intro K hK; go_big_quiet_op; go_big_quiet_on)
      | (refine flat_call Cf.out _ ?_ rfl rfl rfl _ (fun y => below_call KeepS.below y (B1.out _)) W ?_; (focus (simp only [List.map_toArray, List.map_cons, List.map_nil]; rfl)); intro K hK; go_big_quiet_op; go_big_quiet_on)
      | (refine flat_call Cf.out _ ?_ rfl rfl rfl _ (fun y => below_call KeepS.below y (B2.out _)) W ?_; (focus (simp only [List.map_toArray, List.map_cons, List.map_nil]; rfl)); intro K hK; go_big_quiet_op; go_big_quiet_on)
      | (refine flat_call Cf.out _ ?_ rfl rfl rfl _ (fun y => below_call KeepS.below y (B5.out _)) W ?_; (focus (simp only [List.map_toArray, List.map_cons, List.map_nil]; rfl)); intro K hK; go_big_quiet_op; go_big_quiet_on)
      | (refine flat_call Cf4.out _ ?_ rfl rfl rfl _ (fun y => below_call KeepS.below y (B3.out _)) W ?_; (focus (simp only [List.map_toArray, List.map_cons, List.map_nil]; rfl)); intro K hK; go_big_quiet_op; go_big_quiet_on)
      | (refine flat_call Cf4.out _ ?_ rfl rfl rfl _ (fun y => below_call KeepS.below y (B4.out _)) W ?_; (focus (simp only [List.map_toArray, List.map_cons, List.map_nil]; rfl)); intro K hK; go_big_quiet_op; go_big_quiet_on)
      | (refine flat_build (E := 5) _ ?_ _ R1.out KeepS.below rfl rfl rfl W ?_; (focus (simp only [List.map_toArray, List.map_cons, List.map_nil]; rfl)); intro K hK; go_big_quiet_op; go_big_quiet_on)
      | (refine flat_build (E := 5) _ ?_ _ R2.out KeepS.below rfl rfl rfl W ?_; (focus (simp only [List.map_toArray, List.map_cons, List.map_nil]; rfl)); intro K hK; go_big_quiet_op; go_big_quiet_on)
      | (refine flat_conv ?_ List.mem_cons_self _ Q1.out (fun w => Below.refl _ _) rfl rfl rfl W ?_; (focus (simp)); intro K hK; go_big_quiet_op; go_big_quiet_on)
      | (refine flat_conv ?_ List.mem_cons_self _ Q2.out (fun w => Below.refl _ _) rfl rfl rfl W ?_; (focus (simp)); intro K hK; go_big_quiet_op; go_big_quiet_on))
    refine flat_nil ?_
    intro W7 hW7 y1 _ y2 _
    simp only [endF, Act.put, List.setIfInBounds_toArray, List.set_cons_succ, List.set_cons_zero]
    have hall : (⟨#[69]⟩ : ByteArray) ++ ⟨#[tos]⟩ ++ ⟨(be2 n).toArray⟩ ++ ⟨(be2 id).toArray⟩ ++ ⟨#[64, 0]⟩ ++ ⟨#[ttl, proto]⟩ ++ ⟨(be2 sm).toArray⟩ ++ ⟨(be4 src).toArray⟩ ++ ⟨(be4 dst).toArray⟩ = ⟨(headL ⟨src, dst, proto, ttl, tos, id, true⟩ n sm).toArray⟩ := by
      rw [show (⟨#[69]⟩ : ByteArray) = ⟨[69].toArray⟩ from rfl, show (⟨#[tos]⟩ : ByteArray) = ⟨[tos].toArray⟩ from rfl, show (⟨#[64, 0]⟩ : ByteArray) = ⟨[64, 0].toArray⟩ from rfl, show (⟨#[ttl, proto]⟩ : ByteArray) = ⟨[ttl, proto].toArray⟩ from rfl]
      simp only [str_cat]
      rfl
    rw [hall]
    clear hall
    go_wp2
    go_ret
    exact ⟨rfl, hW7.1⟩

set_option maxHeartbeats 1000000 in
theorem enc_long (h : IPh) (load : ByteArray) (w : World) (hl : 65535 < 20 + load.size) (hm : load.size ≤ 131072) :
    Calls Try.prog 24 #[.agg h.cells, .string load] w fun e w' => e = .returned (.tuple #[.string ⟨#[]⟩, .int .i64 4]) ∧ Below w.heap.size w w' := by
  obtain ⟨src, dst, proto, ttl, tos, id, df⟩ := h
  unfold IPh.cells
  simp only
  have i1 : (65535 : Int) < 20 + (load.size : Int) := by omega
  have i2 : (load.size : Int) ≤ 131072 := by omega
  go_enter Try.func24, Try.ntmps24
  go_wp2
  go_ret2
  exact ⟨rfl, (Below.refl _ _).alloc (Nat.le_refl _) _⟩
set_option maxHeartbeats 1000000 in
theorem ref_enc_long (h : IPh) (load : ByteArray) (w : World) (hl : 65535 < 20 + load.size) (hm : load.size ≤ 131072) :
    Calls Try.prog 25 #[.agg h.cells, .string load] w fun e w' => e = .returned (.tuple #[.string ⟨#[]⟩, .int .i64 4]) ∧ Below w.heap.size w w' := by
  obtain ⟨src, dst, proto, ttl, tos, id, df⟩ := h
  unfold IPh.cells
  simp only
  have i1 : (65535 : Int) < 20 + (load.size : Int) := by omega
  have i2 : (load.size : Int) ≤ 131072 := by omega
  go_enter Try.func25, Try.ntmps25
  go_wp2
  go_ret2
  exact ⟨rfl, (Below.refl _ _).alloc (Nat.le_refl _) _⟩
set_option maxRecDepth 100000 in
set_option maxHeartbeats 4000000 in
theorem ref_enc_ok (h : IPh) (load : ByteArray) (w : World) (ho : h.ok) (hl : 20 + load.size ≤ 65535) :
    Calls Try.prog 25 #[.agg h.cells, .string load] w fun e w' => e = .returned (.tuple #[.string ⟨(encL h load.data.toList).toArray⟩, .int .i64 0]) ∧ Below w.heap.size w w' := by
  obtain ⟨n, hn⟩ : ∃ n, n = 20 + load.size := ⟨_, rfl⟩
  have e1 : (20 : Int) + (load.size : Int) = (n : Int) := by omega
  have hn2 : n ≤ 65535 := by omega
  have i1 : (load.size : Int) ≤ 65515 := by omega
  have b1 := fun W => ref_head h n 0 W ho (by omega) (by omega)
  have b2 := fun W => ref_head h n (sumL h n) W ho (by omega) (sumL_lt h n)
  have b3 := fun W => (ref_of ⟨(headL h n 0).toArray⟩ W (by show (headL h n 0).length ≤ _; rw [headL_length]; decide)).mono fun e w' (hh : e = .returned _ ∧ W = w') => And.intro hh.1 (show Below W.heap.size W w' by rw [← hh.2]; exact Below.refl _ _)
  have e3 : ofL (⟨(headL h n 0).toArray⟩ : ByteArray).data.toList = sumL h n := by rw [← sumL_head h n]
  simp only [e3] at b3
  have z20 : ∀ s, (headL h n s).length = 20 := fun s => headL_length h n s
  obtain ⟨src, dst, proto, ttl, tos, id, df⟩ := h
  unfold IPh.cells at *
  simp only at *
  have B1 := Lib.hid b1
  clear b1
  have B2 := Lib.hid b2
  clear b2
  have B3 := Lib.hid b3
  clear b3
  have Hn := Lib.hid hn
  clear hn
  have hx := Blk.new w 48 #[.int .u32 (src : Int), .int .u32 (dst : Int), .int .u8 (proto.toNat : Int), .int .u8 (ttl.toNat : Int), .int .u8 (tos.toNat : Int), .int .u16 (id : Int), .bool df]
  have hb0 : Below w.heap.size w (w.alloc (.cells #[.int .u32 (src : Int), .int .u32 (dst : Int), .int .u8 (proto.toNat : Int), .int .u8 (ttl.toNat : Int), .int .u8 (tos.toNat : Int), .int .u16 (id : Int), .bool df] 48)) := (Below.refl _ _).alloc (Nat.le_refl _) _
  have Hx := Lib.hid hx
  clear hx
  have Hb0 := Lib.hid hb0
  clear hb0
  clear e3 ho
  have el : load = ⟨load.data.toList.toArray⟩ := by simp
  have hfin : (⟨(headL ⟨src, dst, proto, ttl, tos, id, df⟩ n (sumL ⟨src, dst, proto, ttl, tos, id, df⟩ n)).toArray⟩ : ByteArray) ++ load = ⟨(encL ⟨src, dst, proto, ttl, tos, id, df⟩ load.data.toList).toArray⟩ := by
    have hl : load.data.toList.length = load.size := rfl
    unfold encL
    rw [hl, ← Hn.out, ← str_cat]
  have Hfin := Lib.hid hfin
  clear hfin
  clear el
  go_enter Try.func25, Try.ntmps25
  go_upto_region 4 with fail
  generalize w.alloc _ = W at *
  obtain ⟨x, hxe⟩ : ∃ x, x = w.heap.size := ⟨_, rfl⟩
  rw [← hxe] at Hx ⊢
  clear hxe
  have hS0 : KeepS w x 48 #[.int .u32 (src : Int), .int .u32 (dst : Int), .int .u8 (proto.toNat : Int), .int .u8 (ttl.toNat : Int), .int .u8 (tos.toNat : Int), .int .u16 (id : Int), .bool df] W := ⟨Hb0.out, Hx.out⟩
  have ne : Nonempty (Cls (KeepS w x 48 #[.int .u32 (src : Int), .int .u32 (dst : Int), .int .u8 (proto.toNat : Int), .int .u8 (ttl.toNat : Int), .int .u8 (tos.toNat : Int), .int .u16 (id : Int), .bool df])) := ⟨⟨W, hS0⟩⟩
  have k0 : ∀ y : Cls (KeepS w x 48 #[.int .u32 (src : Int), .int .u32 (dst : Int), .int .u8 (proto.toNat : Int), .int .u8 (ttl.toNat : Int), .int .u8 (tos.toNat : Int), .int .u16 (id : Int), .bool df]), y.w.cell? ⟨x, 0, none⟩ = some (.int .u32 (src : Int)) := fun y => y.h.2.cell 0
  have k1 : ∀ y : Cls (KeepS w x 48 #[.int .u32 (src : Int), .int .u32 (dst : Int), .int .u8 (proto.toNat : Int), .int .u8 (ttl.toNat : Int), .int .u8 (tos.toNat : Int), .int .u16 (id : Int), .bool df]), y.w.cell? ⟨x, 1, none⟩ = some (.int .u32 (dst : Int)) := fun y => y.h.2.cell 1
  have k2 : ∀ y : Cls (KeepS w x 48 #[.int .u32 (src : Int), .int .u32 (dst : Int), .int .u8 (proto.toNat : Int), .int .u8 (ttl.toNat : Int), .int .u8 (tos.toNat : Int), .int .u16 (id : Int), .bool df]), y.w.cell? ⟨x, 2, none⟩ = some (.int .u8 (proto.toNat : Int)) := fun y => y.h.2.cell 2
  have k3 : ∀ y : Cls (KeepS w x 48 #[.int .u32 (src : Int), .int .u32 (dst : Int), .int .u8 (proto.toNat : Int), .int .u8 (ttl.toNat : Int), .int .u8 (tos.toNat : Int), .int .u16 (id : Int), .bool df]), y.w.cell? ⟨x, 3, none⟩ = some (.int .u8 (ttl.toNat : Int)) := fun y => y.h.2.cell 3
  have k4 : ∀ y : Cls (KeepS w x 48 #[.int .u32 (src : Int), .int .u32 (dst : Int), .int .u8 (proto.toNat : Int), .int .u8 (ttl.toNat : Int), .int .u8 (tos.toNat : Int), .int .u16 (id : Int), .bool df]), y.w.cell? ⟨x, 4, none⟩ = some (.int .u8 (tos.toNat : Int)) := fun y => y.h.2.cell 4
  have k5 : ∀ y : Cls (KeepS w x 48 #[.int .u32 (src : Int), .int .u32 (dst : Int), .int .u8 (proto.toNat : Int), .int .u8 (ttl.toNat : Int), .int .u8 (tos.toNat : Int), .int .u16 (id : Int), .bool df]), y.w.cell? ⟨x, 5, none⟩ = some (.int .u16 (id : Int)) := fun y => y.h.2.cell 5
  have k6 : ∀ y : Cls (KeepS w x 48 #[.int .u32 (src : Int), .int .u32 (dst : Int), .int .u8 (proto.toNat : Int), .int .u8 (ttl.toNat : Int), .int .u8 (tos.toNat : Int), .int .u16 (id : Int), .bool df]), y.w.cell? ⟨x, 6, none⟩ = some (.bool df) := fun y => y.h.2.cell 6
  have cf : ∀ (vals : Array Value) (w : World), (callFunc 32 vals).run Try.prog w = .ok (.enter 32 vals) w := fun _ _ => by kernel_rfl
  have cf3 : ∀ (vals : Array Value) (w : World), (callFunc 33 vals).run Try.prog w = .ok (.enter 33 vals) w := fun _ _ => by kernel_rfl
  have Cf := Lib.hid cf
  clear cf
  have Cf3 := Lib.hid cf3
  clear cf3
  refine wp_region_flat (KeepS w x 48 #[.int .u32 (src : Int), .int .u32 (dst : Int), .int .u8 (proto.toNat : Int), .int .u8 (ttl.toNat : Int), .int .u8 (tos.toNat : Int), .int .u16 (id : Int), .bool df]) (fun w w' => Below w.heap.size w w') (by kernel_rfl) (by kernel_rfl) (fun w => Below.refl _ _) hS0.drew ?_
  clear hS0
  repeat (first
    | (refine flat_quiet (fun w => Below.refl _ _) rfl rfl rfl rfl ?_; intro K hK; go_big_quiet_op; go_big_quiet_on)
    | (refine flat_call Cf.out _ ?_ rfl rfl rfl _ (fun y => below_call KeepS.below y (B1.out _)) W ?_; (focus (simp only [List.map_toArray, List.map_cons, List.map_nil]; rfl)); intro K hK; go_big_quiet_op; go_big_quiet_on)
    | (refine flat_call Cf.out _ ?_ rfl rfl rfl _ (fun y => below_call KeepS.below y (B2.out _)) W ?_; (focus (simp only [List.map_toArray, List.map_cons, List.map_nil]; rfl)); intro K hK; go_big_quiet_op; go_big_quiet_on)
    | (refine flat_call Cf3.out _ ?_ rfl rfl rfl _ (fun y => below_call KeepS.below y (B3.out _)) W ?_; (focus (simp only [List.map_toArray, List.map_cons, List.map_nil]; rfl)); intro K hK; go_big_quiet_op; go_big_quiet_on))
  refine flat_nil ?_
  intro W7 hW7
  simp only [endF]
  rw [Hfin.out]
  go_wp2
  go_ret2
  exact ⟨rfl, hW7.1⟩
end Go.Proofs.Ytbfmgdcnpefciaa
