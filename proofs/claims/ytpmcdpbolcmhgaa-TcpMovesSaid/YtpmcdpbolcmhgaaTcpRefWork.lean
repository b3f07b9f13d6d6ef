/- Contracts of layer 6 (tcp): the document's Encode. -/
import Derived.Test.YtpmcdpbolcmhgaaTcpErr
import Derived.Test.YtpmcdpbolcmhgaaTcpRefSum
set_option linter.unusedVariables false
set_option linter.unusedSimpArgs false
namespace Go.Proofs.Ytpmcdpbolcmhgaa
open Go.RowKit Go.BigFrame

set_option maxRecDepth 100000 in
set_option maxHeartbeats 4000000 in
theorem ref_enc_ok (s d : Nat) (h : TCPh) (data : ByteArray) (w : World) (hs : s < 4294967296) (hd : d < 4294967296) (ho : h.ok) (hm : h.opts.size % 4 = 0) (hm2 : h.opts.size ≤ 40) (hf : h.flags.toNat < 64) (hl : 20 + h.opts.size + data.size ≤ 65515) :
    Calls Try.prog 12 #[.int .u32 (s : Int), .int .u32 (d : Int), .agg h.cells, .string data] w fun e w' => e = .returned (.tuple #[.string ⟨(encL s d h data.data.toList).toArray⟩, .int .i64 0]) ∧ Below w.heap.size w w' := by
  have b1 := fun W => ref_raw h data 0 W ho hm2 hl (by omega)
  have b2 := fun W => ref_raw h data (sumL s d h data.data.toList) W ho hm2 hl (sumL_lt _ _ _ _)
  have hz : (⟨(rawL h data.data.toList 0).toArray⟩ : ByteArray).size = 20 + h.opts.size + data.size := by
    show (rawL h data.data.toList 0).length = _
    rw [rawL_length]; rfl
  have b3 := fun W => ref_sum s d ⟨(rawL h data.data.toList 0).toArray⟩ W hs hd (by rw [hz]; omega)
  have e3 : ofL (aheadL s d (⟨(rawL h data.data.toList 0).toArray⟩ : ByteArray).size ++ (⟨(rawL h data.data.toList 0).toArray⟩ : ByteArray).data.toList) = sumL s d h data.data.toList := by rw [hz, ← sumL_raw s d h]; rfl
  simp only [e3] at b3
  have hfin : encL s d h data.data.toList = rawL h data.data.toList (sumL s d h data.data.toList) := rfl
  rw [hfin]
  clear hfin e3 hz ho
  obtain ⟨X0, hX0⟩ : ∃ X, X = (⟨(rawL h data.data.toList 0).toArray⟩ : ByteArray) := ⟨_, rfl⟩
  obtain ⟨X1, hX1⟩ : ∃ X, X = (⟨(rawL h data.data.toList (sumL s d h data.data.toList)).toArray⟩ : ByteArray) := ⟨_, rfl⟩
  obtain ⟨sm, hsm⟩ : ∃ X, X = sumL s d h data.data.toList := ⟨_, rfl⟩
  rw [← hX0] at b1 b3
  rw [← hX1] at b2 ⊢
  rw [← hsm] at b2 b3
  clear hX0 hX1 hsm
  obtain ⟨src, dst, seq, ack, flags, window, urgent, opts⟩ := h
  simp only at hm hm2 hf hl
  unfold TCPh.cells at *
  simp only at *
  have i1 : (opts.size : Int) % 4 = 0 := by omega
  have i2 : (opts.size : Int) ≤ 40 := by omega
  have i3 : (flags.toNat : Int) < 64 := by omega
  have i4 : (20 : Int) + (opts.size : Int) + (data.size : Int) ≤ 65515 := by omega
  have B1 := Lib.hid b1
  clear b1
  have B2 := Lib.hid b2
  clear b2
  have B3 := Lib.hid b3
  clear b3
  have hx := Blk.new w 25 #[.int .u16 (src : Int), .int .u16 (dst : Int), .int .u32 (seq : Int), .int .u32 (ack : Int), .int .u8 (flags.toNat : Int), .int .u16 (window : Int), .int .u16 (urgent : Int), .string opts]
  have hb0 : Below w.heap.size w (w.alloc (.cells #[.int .u16 (src : Int), .int .u16 (dst : Int), .int .u32 (seq : Int), .int .u32 (ack : Int), .int .u8 (flags.toNat : Int), .int .u16 (window : Int), .int .u16 (urgent : Int), .string opts] 25)) := (Below.refl _ _).alloc (Nat.le_refl _) _
  have Hx := Lib.hid hx
  clear hx
  have Hb0 := Lib.hid hb0
  clear hb0
  go_enter Try.func12, Try.ntmps12
  go_upto_region 5 with fail
  generalize w.alloc _ = W at *
  obtain ⟨x, hxe⟩ : ∃ x, x = w.heap.size := ⟨_, rfl⟩
  rw [← hxe] at Hx ⊢
  clear hxe
  obtain ⟨cs, hcs⟩ : ∃ cs : Array Value, cs = #[.int .u16 (src : Int), .int .u16 (dst : Int), .int .u32 (seq : Int), .int .u32 (ack : Int), .int .u8 (flags.toNat : Int), .int .u16 (window : Int), .int .u16 (urgent : Int), .string opts] := ⟨_, rfl⟩
  rw [← hcs] at Hx
  have hS0 : KeepS w x 25 cs W := ⟨Hb0.out, Hx.out⟩
  have ne : Nonempty (Cls (KeepS w x 25 cs)) := ⟨⟨W, hS0⟩⟩
  have k0 : ∀ y : Cls (KeepS w x 25 cs), y.w.cell? ⟨x, 0, none⟩ = some (.int .u16 (src : Int)) := fun y => (y.h.2.cell 0).trans (by rw [hcs]; rfl)
  have k1 : ∀ y : Cls (KeepS w x 25 cs), y.w.cell? ⟨x, 1, none⟩ = some (.int .u16 (dst : Int)) := fun y => (y.h.2.cell 1).trans (by rw [hcs]; rfl)
  have k2 : ∀ y : Cls (KeepS w x 25 cs), y.w.cell? ⟨x, 2, none⟩ = some (.int .u32 (seq : Int)) := fun y => (y.h.2.cell 2).trans (by rw [hcs]; rfl)
  have k3 : ∀ y : Cls (KeepS w x 25 cs), y.w.cell? ⟨x, 3, none⟩ = some (.int .u32 (ack : Int)) := fun y => (y.h.2.cell 3).trans (by rw [hcs]; rfl)
  have k4 : ∀ y : Cls (KeepS w x 25 cs), y.w.cell? ⟨x, 4, none⟩ = some (.int .u8 (flags.toNat : Int)) := fun y => (y.h.2.cell 4).trans (by rw [hcs]; rfl)
  have k5 : ∀ y : Cls (KeepS w x 25 cs), y.w.cell? ⟨x, 5, none⟩ = some (.int .u16 (window : Int)) := fun y => (y.h.2.cell 5).trans (by rw [hcs]; rfl)
  have k6 : ∀ y : Cls (KeepS w x 25 cs), y.w.cell? ⟨x, 6, none⟩ = some (.int .u16 (urgent : Int)) := fun y => (y.h.2.cell 6).trans (by rw [hcs]; rfl)
  have k7 : ∀ y : Cls (KeepS w x 25 cs), y.w.cell? ⟨x, 7, none⟩ = some (.string opts) := fun y => (y.h.2.cell 7).trans (by rw [hcs]; rfl)
  clear hcs
  have cf : ∀ (vals : Array Value) (w : World), (callFunc 29 vals).run Try.prog w = .ok (.enter 29 vals) w := fun _ _ => by kernel_rfl
  have cf3 : ∀ (vals : Array Value) (w : World), (callFunc 30 vals).run Try.prog w = .ok (.enter 30 vals) w := fun _ _ => by kernel_rfl
  have Cf := Lib.hid cf
  clear cf
  have Cf3 := Lib.hid cf3
  clear cf3
  refine wp_region_flat (KeepS w x 25 cs) (fun w w' => Below w.heap.size w w') (by kernel_rfl) (by kernel_rfl) (fun w => Below.refl _ _) hS0.drew ?_
  clear hS0
  repeat (first
    | (refine flat_quiet (fun w => Below.refl _ _) rfl rfl rfl rfl ?_; intro K hK; go_big_quiet_op; go_big_quiet_on)
    | (refine flat_call Cf.out _ ?_ rfl rfl rfl _ (fun y => below_call KeepS.below y (B1.out _)) W ?_; (focus (simp only [List.map_toArray, List.map_cons, List.map_nil]; rfl)); intro K hK; go_big_quiet_op; go_big_quiet_on)
    | (refine flat_call Cf.out _ ?_ rfl rfl rfl _ (fun y => below_call KeepS.below y (B2.out _)) W ?_; (focus (simp only [List.map_toArray, List.map_cons, List.map_nil]; rfl)); intro K hK; go_big_quiet_op; go_big_quiet_on)
    | (refine flat_call Cf3.out _ ?_ rfl rfl rfl _ (fun y => below_call KeepS.below y (B3.out _)) W ?_; (focus (simp only [List.map_toArray, List.map_cons, List.map_nil]; rfl)); intro K hK; go_big_quiet_op; go_big_quiet_on))
  refine flat_nil ?_
  intro W7 hW7
  simp only [endF]
  go_wp2
  go_ret2
  exact ⟨rfl, hW7.1⟩

set_option maxHeartbeats 1000000 in
theorem ref_enc_long (s d : Nat) (h : TCPh) (data : ByteArray) (w : World) (hm : h.opts.size % 4 = 0) (hm2 : h.opts.size ≤ 40) (hf : h.flags.toNat < 64) (hl : 65515 < 20 + h.opts.size + data.size) (hd : data.size ≤ 131072) :
    Calls Try.prog 12 #[.int .u32 (s : Int), .int .u32 (d : Int), .agg h.cells, .string data] w fun e w' => e = .returned (.tuple #[.string ⟨#[]⟩, .int .i64 4]) ∧ Below w.heap.size w w' := by
  obtain ⟨src, dst, seq, ack, flags, window, urgent, opts⟩ := h
  simp only at hm hm2 hf hl
  unfold TCPh.cells
  simp only
  have i1 : (opts.size : Int) % 4 = 0 := by omega
  have i2 : (opts.size : Int) ≤ 40 := by omega
  have i3 : (flags.toNat : Int) < 64 := by omega
  have i4 : (65515 : Int) < 20 + (opts.size : Int) + (data.size : Int) := by omega
  have i5 : (data.size : Int) ≤ 131072 := by omega
  go_enter Try.func12, Try.ntmps12
  go_wp2
  go_ret2
  exact ⟨rfl, (Below.refl _ _).alloc (Nat.le_refl _) _⟩
set_option maxHeartbeats 1000000 in
theorem ref_enc_arg (s d : Nat) (h : TCPh) (data : ByteArray) (w : World) (hm : ¬ (h.opts.size % 4 = 0 ∧ h.opts.size ≤ 40 ∧ h.flags.toNat < 64)) (hd : h.opts.size ≤ 131072) :
    Calls Try.prog 12 #[.int .u32 (s : Int), .int .u32 (d : Int), .agg h.cells, .string data] w fun e w' => e = .returned (.tuple #[.string ⟨#[]⟩, .int .i64 2]) ∧ Below w.heap.size w w' := by
  obtain ⟨src, dst, seq, ack, flags, window, urgent, opts⟩ := h
  simp only at hm hd
  unfold TCPh.cells
  simp only
  by_cases i1 : opts.size % 4 = 0
  · by_cases i2 : opts.size ≤ 40
    · have i3 : (64 : Int) ≤ (flags.toNat : Int) := by omega
      have i1 : (opts.size : Int) % 4 = 0 := by omega
      have i2 : (opts.size : Int) ≤ 40 := by omega
      have Hm := Lib.hid hm
      clear hm
      go_enter Try.func12, Try.ntmps12
      go_wp2
      go_ret2
      exact ⟨rfl, (Below.refl _ _).alloc (Nat.le_refl _) _⟩
    · have i1 : (opts.size : Int) % 4 = 0 := by omega
      have i2 : (40 : Int) < (opts.size : Int) := by omega
      have Hm := Lib.hid hm
      clear hm
      go_enter Try.func12, Try.ntmps12
      go_wp2
      go_ret2
      exact ⟨rfl, (Below.refl _ _).alloc (Nat.le_refl _) _⟩
  · have i1 : ((opts.size : Int) % 4 != 0) = true := by rw [bne_iff_ne]; omega
    have Hm := Lib.hid hm
    clear hm
    go_enter Try.func12, Try.ntmps12
    go_wp2
    go_ret2
    exact ⟨rfl, (Below.refl _ _).alloc (Nat.le_refl _) _⟩
end Go.Proofs.Ytpmcdpbolcmhgaa
