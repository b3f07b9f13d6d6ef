/- Contracts of layer 6 (tcp): the document's raw, Sum. -/
import Derived.Test.YtpmcdpbolcmhgaaTcpEnc
set_option linter.unusedVariables false
set_option linter.unusedSimpArgs false
namespace Go.Proofs.Ytpmcdpbolcmhgaa
open Go.RowKit Go.BigFrame

set_option maxRecDepth 100000 in
set_option maxHeartbeats 4000000 in
theorem ref_raw (h : TCPh) (data : ByteArray) (sm : Nat) (w : World) (ho : h.ok) (hm2 : h.opts.size ≤ 40) (hl : 20 + h.opts.size + data.size ≤ 65515) (hsm : sm < 65536) :
    Calls Try.prog 29 #[.agg h.cells, .string data, .int .u16 (sm : Int)] w fun e w' => e = .returned (.string ⟨(rawL h data.data.toList sm).toArray⟩) ∧ Below w.heap.size w w' := by
  obtain ⟨src, dst, seq, ack, flags, window, urgent, opts⟩ := h
  obtain ⟨o1, o2, o3, o4, o5, o6⟩ := ho
  simp only at o1 o2 o3 o4 o5 o6 hm2 hl
  unfold TCPh.cells
  simp only
  obtain ⟨n, hn⟩ : ∃ n, n = 20 + opts.size := ⟨_, rfl⟩
  have e1 : (20 : Int) + (opts.size : Int) = (n : Int) := by omega
  have hn2 : n ≤ 60 := by omega
  have b1 := fun W => ref_bytes src W o1
  have b2 := fun W => ref_bytes dst W o2
  have b3 := fun W => ref_four seq W o3
  have b4 := fun W => ref_four ack W o4
  have b5 := fun W => ref_bytes window W o5
  have b6 := fun W => ref_bytes urgent W o6
  have b7 := fun W => ref_bytes sm W hsm
  have B1 := Lib.hid b1
  clear b1
  have B2 := Lib.hid b2
  clear b2
  have B3 := Lib.hid b3
  clear b3
  have B4 := Lib.hid b4
  clear b4
  have B5 := Lib.hid b5
  clear b5
  have B6 := Lib.hid b6
  clear b6
  have B7 := Lib.hid b7
  clear b7
  have Hn := Lib.hid hn
  clear hn
  have ob : ((offB n).toNat : Int) = (n : Int) / 4 * 16 := by unfold offB; rw [u8b]; omega
  have wr1 : IntKind.i64.wrap ((n : Int) / 4) = (n : Int) / 4 := by rw [IntKind.wrap_i64]; omega
  have wr2 : IntKind.i64.wrap ((n : Int) / 4 * 16) = (n : Int) / 4 * 16 := by rw [IntKind.wrap_i64]; omega
  have wr3 : IntKind.u8.wrap ((n : Int) / 4 * 16) = ((offB n).toNat : Int) := by rw [IntKind.wrap_u8, ob]; omega
  have hx := Blk.new w 25 #[.int .u16 (src : Int), .int .u16 (dst : Int), .int .u32 (seq : Int), .int .u32 (ack : Int), .int .u8 (flags.toNat : Int), .int .u16 (window : Int), .int .u16 (urgent : Int), .string opts]
  have hb0 : Below w.heap.size w (w.alloc (.cells #[.int .u16 (src : Int), .int .u16 (dst : Int), .int .u32 (seq : Int), .int .u32 (ack : Int), .int .u8 (flags.toNat : Int), .int .u16 (window : Int), .int .u16 (urgent : Int), .string opts] 25)) := (Below.refl _ _).alloc (Nat.le_refl _) _
  have moff : ((n : Int) / 4 * 16) % 256 = ((offB n).toNat : Int) := by rw [ob]; omega
  have moff2 : ((n : Int) / 4 * 16) = ((offB n).toNat : Int) := by rw [ob]
  have Hx := Lib.hid hx
  clear hx
  have Hb0 := Lib.hid hb0
  clear hb0
  have Moff := Lib.hid moff
  clear moff
  have Moff2 := Lib.hid moff2
  clear moff2
  go_enter Try.func29, Try.ntmps29
  go_upto_region 2 with fail
  rw [Moff2.out]
  clear wr1 wr2 wr3 Moff Moff2
  generalize w.alloc _ = W at *
  obtain ⟨x, hxe⟩ : ∃ x, x = w.heap.size := ⟨_, rfl⟩
  rw [← hxe] at Hx ⊢
  clear hxe
  obtain ⟨cs, hcs⟩ : ∃ cs : Array Value, cs = #[.int .u16 (src : Int), .int .u16 (dst : Int), .int .u32 (seq : Int), .int .u32 (ack : Int), .int .u8 (flags.toNat : Int), .int .u16 (window : Int), .int .u16 (urgent : Int), .string opts] := ⟨_, rfl⟩
  rw [← hcs] at Hx
  have hS0 : KeepS w x 25 cs W := ⟨Hb0.out, Hx.out⟩
  have ne : Nonempty (Cls (KeepS w x 25 cs)) := ⟨⟨W, hS0⟩⟩
  have k0 : ∀ y : Cls (KeepS w x 25 cs), y.w.cell? ⟨x, 0, none⟩ = some (.int .u16 (src : Int)) := fun y => (y.h.2.cell 0).trans (by rw [hcs]; rfl)
  have k1 : ∀ y : Cls (KeepS w x 25 cs), y.w.cell? ⟨x, 1, none⟩ = some (.int .u16 (dst : Int)) := fun y => (y.h.2.cell 1).trans (by rw [hcs]; rfl)
  have k2 : ∀ y : Cls (KeepS w x 25 cs), y.w.cell? ⟨x, 2, none⟩ = some (.int .u32 (seq : Int)) := fun y => (y.h.2.cell 2).trans (by rw [hcs]; rfl)
  have k3 : ∀ y : Cls (KeepS w x 25 cs), y.w.cell? ⟨x, 3, none⟩ = some (.int .u32 (ack : Int)) := fun y => (y.h.2.cell 3).trans (by rw [hcs]; rfl)
  have k4 : ∀ y : Cls (KeepS w x 25 cs), y.w.cell? ⟨x, 4, none⟩ = some (.int .u8 (flags.toNat : Int)) := fun y => (y.h.2.cell 4).trans (by rw [hcs]; rfl)
  have k5 : ∀ y : Cls (KeepS w x 25 cs), y.w.cell? ⟨x, 5, none⟩ = some (.int .u16 (window : Int)) := fun y => (y.h.2.cell 5).trans (by rw [hcs]; rfl)
  have k6 : ∀ y : Cls (KeepS w x 25 cs), y.w.cell? ⟨x, 6, none⟩ = some (.int .u16 (urgent : Int)) := fun y => (y.h.2.cell 6).trans (by rw [hcs]; rfl)
  have k7 : ∀ y : Cls (KeepS w x 25 cs), y.w.cell? ⟨x, 7, none⟩ = some (.string opts) := fun y => (y.h.2.cell 7).trans (by rw [hcs]; rfl)
  clear hcs
  have cf : ∀ (vals : Array Value) (w : World), (callFunc 47 vals).run Try.prog w = .ok (.enter 47 vals) w := fun _ _ => by kernel_rfl
  have cf4 : ∀ (vals : Array Value) (w : World), (callFunc 48 vals).run Try.prog w = .ok (.enter 48 vals) w := fun _ _ => by kernel_rfl
  have r1 : ∀ W : World, (Instr.buildSlice 38 2 #[(0, .int .u8 ((offB n).toNat : Int)), (1, .int .u8 (flags.toNat : Int))]).run Try.prog W = .ok (.slice (some ⟨W.heap.size, 0, none⟩) 2 2) (W.alloc (.cells #[.int .u8 ((offB n).toNat : Int), .int .u8 (flags.toNat : Int)] 5)) := fun _ => by kernel_rfl
  have q1 : ∀ W u, isNew 5 #[.int .u8 ((offB n).toNat : Int), .int .u8 (flags.toNat : Int)] 2 u W → (convert 38 9 u).run Try.prog W = .ok (.string ⟨#[offB n, flags]⟩) W := by
    rintro W u ⟨g, rfl, h⟩
    exact str_two (offB n) flags W g 2 h
  have Cf := Lib.hid cf
  clear cf
  have Cf4 := Lib.hid cf4
  clear cf4
  have R1 := Lib.hid r1
  clear r1
  have Q1 := Lib.hid q1
  clear q1
  have Ob := Lib.hid ob
  clear ob
  have z2 : ∀ n, (be2 n).length = 2 := fun _ => rfl
  have z4 : ∀ n, (be4 n).length = 4 := fun _ => rfl
  refine wp_region_flat (KeepS w x 25 cs) (fun w w' => Below w.heap.size w w') (by kernel_rfl) (by kernel_rfl) (fun w => Below.refl _ _) hS0.drew ?_
  clear hS0
  repeat (first
    | (refine flat_quiet (fun w => Below.refl _ _) rfl rfl rfl rfl ?_; intro K hK; go_big_quiet_op; go_big_quiet_on)
    | (refine flat_call Cf.out _ ?_ rfl rfl rfl _ (fun y => below_call KeepS.below y (B1.out _)) W ?_; (focus (simp only [List.map_toArray, List.map_cons, List.map_nil]; rfl)); intro K hK; go_big_quiet_op; go_big_quiet_on)
    | (refine flat_call Cf.out _ ?_ rfl rfl rfl _ (fun y => below_call KeepS.below y (B2.out _)) W ?_; (focus (simp only [List.map_toArray, List.map_cons, List.map_nil]; rfl)); intro K hK; go_big_quiet_op; go_big_quiet_on)
    | (refine flat_call Cf4.out _ ?_ rfl rfl rfl _ (fun y => below_call KeepS.below y (B3.out _)) W ?_; (focus (simp only [List.map_toArray, List.map_cons, List.map_nil]; rfl)); intro K hK; go_big_quiet_op; go_big_quiet_on)
    | (refine flat_call Cf4.out _ ?_ rfl rfl rfl _ (fun y => below_call KeepS.below y (B4.out _)) W ?_; (focus (simp only [List.map_toArray, List.map_cons, List.map_nil]; rfl)); intro K hK; go_big_quiet_op; go_big_quiet_on)
    | (refine flat_call Cf.out _ ?_ rfl rfl rfl _ (fun y => below_call KeepS.below y (B5.out _)) W ?_; (focus (simp only [List.map_toArray, List.map_cons, List.map_nil]; rfl)); intro K hK; go_big_quiet_op; go_big_quiet_on)
    | (refine flat_call Cf.out _ ?_ rfl rfl rfl _ (fun y => below_call KeepS.below y (B6.out _)) W ?_; (focus (simp only [List.map_toArray, List.map_cons, List.map_nil]; rfl)); intro K hK; go_big_quiet_op; go_big_quiet_on)
    | (refine flat_call Cf.out _ ?_ rfl rfl rfl _ (fun y => below_call KeepS.below y (B7.out _)) W ?_; (focus (simp only [List.map_toArray, List.map_cons, List.map_nil]; rfl)); intro K hK; go_big_quiet_op; go_big_quiet_on)
    | (refine flat_build (E := 5) _ ?_ _ R1.out KeepS.below rfl rfl rfl W ?_; (focus (simp only [List.map_toArray, List.map_cons, List.map_nil]; rfl)); intro K hK; go_big_quiet_op; go_big_quiet_on)
    | (refine flat_conv ?_ List.mem_cons_self _ Q1.out (fun w => Below.refl _ _) rfl rfl rfl W ?_; (focus (simp)); intro K hK; go_big_quiet_op; go_big_quiet_on))
  refine flat_nil ?_
  intro W7 hW7 x19 _
  simp only [endF, Act.put, List.setIfInBounds_toArray, List.set_cons_succ, List.set_cons_zero]
  go_wp2
  go_ret
  refine ⟨?_, hW7.1⟩
  have hall : (⟨(be2 src).toArray⟩ : ByteArray) ++ ⟨(be2 dst).toArray⟩ ++ ⟨(be4 seq).toArray⟩ ++ ⟨(be4 ack).toArray⟩ ++ ⟨#[offB n, flags]⟩ ++ ⟨(be2 window).toArray⟩ ++ ⟨(be2 sm).toArray⟩ ++ ⟨(be2 urgent).toArray⟩ ++ opts ++ data = ⟨(rawL ⟨src, dst, seq, ack, flags, window, urgent, opts⟩ data.data.toList sm).toArray⟩ := by
    conv => lhs; rw [str_of opts, str_of data]
    rw [show (⟨#[offB n, flags]⟩ : ByteArray) = ⟨[offB n, flags].toArray⟩ from rfl]
    simp only [str_cat]
    rw [Hn.out]
    unfold rawL frontL backL
    simp only [List.append_assoc]
  rw [← hall]
  rfl
end Go.Proofs.Ytpmcdpbolcmhgaa
