/- Contracts and plain lemmas: PTcpRefEnc, PTcpRefSum, PTcpRefWork, PTcpDecPlain, PTcpDec, PTcpDecAny, PTcpLaws, PTcpAlive. -/
import Derived.Test.YtengegcnocdkoaaRb3
section
set_option linter.unusedVariables false
set_option linter.unusedSimpArgs false
namespace Go.Proofs.Ytengegcnocdkoaa.T
open Go.RowKit Go.BigFrame
set_option maxRecDepth 100000 in
set_option maxHeartbeats 4000000 in
theorem ref_raw (h : TCPh) (data : ByteArray) (sm : Nat) (w : World) (ho : h.ok) (hm2 : h.opts.size ≤ 40) (hl : 20 + h.opts.size + data.size ≤ 65515) (hsm : sm < 65536) :
    Calls Try.prog 66 #[.agg h.cells, .string data, .int .u16 (sm : Int)] w fun e w' => e = .returned (.string ⟨(rawL h data.data.toList sm).toArray⟩) ∧ Below w.heap.size w w' := by
  obtain ⟨src, dst, seq, ack, flags, window, urgent, opts⟩ := h
  obtain ⟨o1, o2, o3, o4, o5, o6⟩ := ho
  simp only at o1 o2 o3 o4 o5 o6 hm2 hl
  unfold TCPh.cells
  simp only
  obtain ⟨n, hn⟩ : ∃ n, n = 20 + opts.size := ⟨_, rfl⟩
  have e1 : (20 : Int) + (opts.size : Int) = (n : Int) := by omega
  have hn2 : n ≤ 60 := by omega
  have b1 := fun W => ref_bytes src W o1
  have b2 := fun W => ref_bytes dst W o2
  have b3 := fun W => ref_four seq W o3
  have b4 := fun W => ref_four ack W o4
  have b5 := fun W => ref_bytes window W o5
  have b6 := fun W => ref_bytes urgent W o6
  have b7 := fun W => ref_bytes sm W hsm
  have B1 := Lib.hid b1
  clear b1
  have B2 := Lib.hid b2
  clear b2
  have B3 := Lib.hid b3
  clear b3
  have B4 := Lib.hid b4
  clear b4
  have B5 := Lib.hid b5
  clear b5
  have B6 := Lib.hid b6
  clear b6
  have B7 := Lib.hid b7
  clear b7
  have Hn := Lib.hid hn
  clear hn
  have ob : ((offB n).toNat : Int) = (n : Int) / 4 * 16 := by unfold offB; rw [u8b]; omega
  have wr1 : IntKind.i64.wrap ((n : Int) / 4) = (n : Int) / 4 := by rw [IntKind.wrap_i64]; omega
  have wr2 : IntKind.i64.wrap ((n : Int) / 4 * 16) = (n : Int) / 4 * 16 := by rw [IntKind.wrap_i64]; omega
  have wr3 : IntKind.u8.wrap ((n : Int) / 4 * 16) = ((offB n).toNat : Int) := by rw [IntKind.wrap_u8, ob]; omega
  have hx := Blk.new w 60 #[.int .u16 (src : Int), .int .u16 (dst : Int), .int .u32 (seq : Int), .int .u32 (ack : Int), .int .u8 (flags.toNat : Int), .int .u16 (window : Int), .int .u16 (urgent : Int), .string opts]
  have hb0 : Below w.heap.size w (w.alloc (.cells #[.int .u16 (src : Int), .int .u16 (dst : Int), .int .u32 (seq : Int), .int .u32 (ack : Int), .int .u8 (flags.toNat : Int), .int .u16 (window : Int), .int .u16 (urgent : Int), .string opts] 60)) := (Below.refl _ _).alloc (Nat.le_refl _) _
  have moff : ((n : Int) / 4 * 16) % 256 = ((offB n).toNat : Int) := by rw [ob]; omega
  have moff2 : ((n : Int) / 4 * 16) = ((offB n).toNat : Int) := by rw [ob]
  have Hx := Lib.hid hx
  clear hx
  have Hb0 := Lib.hid hb0
  clear hb0
  have Moff := Lib.hid moff
  clear moff
  have Moff2 := Lib.hid moff2
  clear moff2
  go_enter Try.func66, Try.ntmps66
  go_upto_region 2 with fail
  rw [Moff2.out]
  clear wr1 wr2 wr3 Moff Moff2
  generalize w.alloc _ = W at *
  obtain ⟨x, hxe⟩ : ∃ x, x = w.heap.size := ⟨_, rfl⟩
  rw [← hxe] at Hx ⊢
  clear hxe
  obtain ⟨cs, hcs⟩ : ∃ cs : Array Value, cs = #[.int .u16 (src : Int), .int .u16 (dst : Int), .int .u32 (seq : Int), .int .u32 (ack : Int), .int .u8 (flags.toNat : Int), .int .u16 (window : Int), .int .u16 (urgent : Int), .string opts] := ⟨_, rfl⟩
  rw [← hcs] at Hx
  have hS0 : KeepS w x 60 cs W := ⟨Hb0.out, Hx.out⟩
  have ne : Nonempty (Cls (KeepS w x 60 cs)) := ⟨⟨W, hS0⟩⟩
  have k0 : ∀ y : Cls (KeepS w x 60 cs), y.w.cell? ⟨x, 0, none⟩ = some (.int .u16 (src : Int)) := fun y => (y.h.2.cell 0).trans (by rw [hcs]; rfl)
  have k1 : ∀ y : Cls (KeepS w x 60 cs), y.w.cell? ⟨x, 1, none⟩ = some (.int .u16 (dst : Int)) := fun y => (y.h.2.cell 1).trans (by rw [hcs]; rfl)
  have k2 : ∀ y : Cls (KeepS w x 60 cs), y.w.cell? ⟨x, 2, none⟩ = some (.int .u32 (seq : Int)) := fun y => (y.h.2.cell 2).trans (by rw [hcs]; rfl)
  have k3 : ∀ y : Cls (KeepS w x 60 cs), y.w.cell? ⟨x, 3, none⟩ = some (.int .u32 (ack : Int)) := fun y => (y.h.2.cell 3).trans (by rw [hcs]; rfl)
  have k4 : ∀ y : Cls (KeepS w x 60 cs), y.w.cell? ⟨x, 4, none⟩ = some (.int .u8 (flags.toNat : Int)) := fun y => (y.h.2.cell 4).trans (by rw [hcs]; rfl)
  have k5 : ∀ y : Cls (KeepS w x 60 cs), y.w.cell? ⟨x, 5, none⟩ = some (.int .u16 (window : Int)) := fun y => (y.h.2.cell 5).trans (by rw [hcs]; rfl)
  have k6 : ∀ y : Cls (KeepS w x 60 cs), y.w.cell? ⟨x, 6, none⟩ = some (.int .u16 (urgent : Int)) := fun y => (y.h.2.cell 6).trans (by rw [hcs]; rfl)
  have k7 : ∀ y : Cls (KeepS w x 60 cs), y.w.cell? ⟨x, 7, none⟩ = some (.string opts) := fun y => (y.h.2.cell 7).trans (by rw [hcs]; rfl)
  clear hcs
  have cf : ∀ (vals : Array Value) (w : World), (callFunc 55 vals).run Try.prog w = .ok (.enter 55 vals) w := fun _ _ => by kernel_rfl
  have cf4 : ∀ (vals : Array Value) (w : World), (callFunc 88 vals).run Try.prog w = .ok (.enter 88 vals) w := fun _ _ => by kernel_rfl
  have r1 : ∀ W : World, (Instr.buildSlice 51 2 #[(0, .int .u8 ((offB n).toNat : Int)), (1, .int .u8 (flags.toNat : Int))]).run Try.prog W = .ok (.slice (some ⟨W.heap.size, 0, none⟩) 2 2) (W.alloc (.cells #[.int .u8 ((offB n).toNat : Int), .int .u8 (flags.toNat : Int)] 5)) := fun _ => by kernel_rfl
  have q1 : ∀ W u, isNew 5 #[.int .u8 ((offB n).toNat : Int), .int .u8 (flags.toNat : Int)] 2 u W → (convert 51 9 u).run Try.prog W = .ok (.string ⟨#[offB n, flags]⟩) W := by
    rintro W u ⟨g, rfl, h⟩
    exact str_two (offB n) flags W g 2 h
  have Cf := Lib.hid cf
  clear cf
  have Cf4 := Lib.hid cf4
  clear cf4
  have R1 := Lib.hid r1
  clear r1
  have Q1 := Lib.hid q1
  clear q1
  have Ob := Lib.hid ob
  clear ob
  have z2 : ∀ n, (be2 n).length = 2 := fun _ => rfl
  have z4 : ∀ n, (be4 n).length = 4 := fun _ => rfl
  refine wp_region_flat (KeepS w x 60 cs) (fun w w' => Below w.heap.size w w') (by kernel_rfl) (by kernel_rfl) (fun w => Below.refl _ _) hS0.drew ?_
  clear hS0
  repeat (first
    | (refine flat_quiet (fun w => Below.refl _ _) rfl rfl rfl rfl ?_; intro K hK; go_big_quiet_op; go_big_quiet_on)
    | (refine flat_call Cf.out _ ?_ rfl rfl rfl _ (fun y => below_call KeepS.below y (B1.out _)) W ?_; (focus (simp only [List.map_toArray, List.map_cons, List.map_nil]; rfl)); intro K hK; go_big_quiet_op; go_big_quiet_on)
    | (refine flat_call Cf.out _ ?_ rfl rfl rfl _ (fun y => below_call KeepS.below y (B2.out _)) W ?_; (focus (simp only [List.map_toArray, List.map_cons, List.map_nil]; rfl)); intro K hK; go_big_quiet_op; go_big_quiet_on)
    | (refine flat_call Cf4.out _ ?_ rfl rfl rfl _ (fun y => below_call KeepS.below y (B3.out _)) W ?_; (focus (simp only [List.map_toArray, List.map_cons, List.map_nil]; rfl)); intro K hK; go_big_quiet_op; go_big_quiet_on)
    | (refine flat_call Cf4.out _ ?_ rfl rfl rfl _ (fun y => below_call KeepS.below y (B4.out _)) W ?_; (focus (simp only [List.map_toArray, List.map_cons, List.map_nil]; rfl)); intro K hK; go_big_quiet_op; go_big_quiet_on)
    | (refine flat_call Cf.out _ ?_ rfl rfl rfl _ (fun y => below_call KeepS.below y (B5.out _)) W ?_; (focus (simp only [List.map_toArray, List.map_cons, List.map_nil]; rfl)); intro K hK; go_big_quiet_op; go_big_quiet_on)
    | (refine flat_call Cf.out _ ?_ rfl rfl rfl _ (fun y => below_call KeepS.below y (B6.out _)) W ?_; (focus (simp only [List.map_toArray, List.map_cons, List.map_nil]; rfl)); intro K hK; go_big_quiet_op; go_big_quiet_on)
    | (refine flat_call Cf.out _ ?_ rfl rfl rfl _ (fun y => below_call KeepS.below y (B7.out _)) W ?_; (focus (simp only [List.map_toArray, List.map_cons, List.map_nil]; rfl)); intro K hK; go_big_quiet_op; go_big_quiet_on)
    | (refine flat_build (E := 5) _ ?_ _ R1.out KeepS.below rfl rfl rfl W ?_; (focus (simp only [List.map_toArray, List.map_cons, List.map_nil]; rfl)); intro K hK; go_big_quiet_op; go_big_quiet_on)
    | (refine flat_conv ?_ List.mem_cons_self _ Q1.out (fun w => Below.refl _ _) rfl rfl rfl W ?_; (focus (simp)); intro K hK; go_big_quiet_op; go_big_quiet_on))
  refine flat_nil ?_
  intro W7 hW7 x19 _
  simp only [endF, Act.put, List.setIfInBounds_toArray, List.set_cons_succ, List.set_cons_zero]
  go_wp2
  go_ret
  refine ⟨?_, hW7.1⟩
  have hall : (⟨(be2 src).toArray⟩ : ByteArray) ++ ⟨(be2 dst).toArray⟩ ++ ⟨(be4 seq).toArray⟩ ++ ⟨(be4 ack).toArray⟩ ++ ⟨#[offB n, flags]⟩ ++ ⟨(be2 window).toArray⟩ ++ ⟨(be2 sm).toArray⟩ ++ ⟨(be2 urgent).toArray⟩ ++ opts ++ data = ⟨(rawL ⟨src, dst, seq, ack, flags, window, urgent, opts⟩ data.data.toList sm).toArray⟩ := by
    conv => lhs; rw [str_of opts, str_of data]
    rw [show (⟨#[offB n, flags]⟩ : ByteArray) = ⟨[offB n, flags].toArray⟩ from rfl]
    simp only [str_cat]
    rw [Hn.out]
    unfold rawL frontL backL
    simp only [List.append_assoc]
  rw [← hall]
  rfl
end Go.Proofs.Ytengegcnocdkoaa.T
end
section
set_option linter.unusedVariables false
set_option linter.unusedSimpArgs false
namespace Go.Proofs.Ytengegcnocdkoaa.T
open Go.RowKit Go.BigFrame
set_option maxHeartbeats 2000000 in
theorem ref_sum (s d : Nat) (t : ByteArray) (w : World) (hs : s < 4294967296) (hd : d < 4294967296) (ht : t.size < 65536) :
    Calls Try.prog 67 #[.int .u32 (s : Int), .int .u32 (d : Int), .string t] w fun e w' => e = .returned (.int .u16 ((ofL (aheadL s d t.size ++ t.data.toList) : Nat) : Int)) ∧ Below w.heap.size w w' := by
  obtain ⟨m, hm⟩ : ∃ m, m = t.size := ⟨_, rfl⟩
  have e1 : (t.size : Int) = (m : Int) := by omega
  have hm2 : m < 65536 := by omega
  have z2 : ∀ n, (be2 n).length = 2 := fun _ => rfl
  have z4 : ∀ n, (be4 n).length = 4 := fun _ => rfl
  obtain ⟨X, hX⟩ : ∃ X : ByteArray, X = (⟨(be4 s).toArray⟩ : ByteArray) ++ ⟨(be4 d).toArray⟩ ++ ⟨#[0, 6]⟩ ++ ⟨(be2 m).toArray⟩ ++ t := ⟨_, rfl⟩
  have eX : X = ⟨(aheadL s d m ++ t.data.toList).toArray⟩ := by
    rw [hX]
    conv => lhs; rw [str_of t]
    rw [show (⟨#[0, 6]⟩ : ByteArray) = ⟨[0, 6].toArray⟩ from rfl]
    simp only [str_cat]
    rfl
  have b := fun W => ref_of X W (by rw [eX]; show (aheadL s d m ++ t.data.toList).length ≤ _; rw [List.length_append, aheadL_length, Array.length_toList]; show 12 + t.size ≤ 1099511627776; omega)
  rw [← hm]
  have b' : ∀ W : World, Calls Try.prog 69 #[.string ((⟨(be4 s).toArray⟩ : ByteArray) ++ ⟨(be4 d).toArray⟩ ++ ⟨#[0, 6]⟩ ++ ⟨(be2 m).toArray⟩ ++ t)] W fun e w' => e = .returned (.int .u16 ((ofL (aheadL s d m ++ t.data.toList) : Nat) : Int)) ∧ W = w' := by
    intro W
    have := b W
    rw [show ofL X.data.toList = ofL (aheadL s d m ++ t.data.toList) by rw [eX]] at this
    rw [← hX]
    exact this
  clear b
  have B' := Lib.hid b'
  clear b'
  have HX := Lib.hid hX
  clear hX
  have Hm := Lib.hid hm
  clear hm
  have EX := Lib.hid eX
  clear eX
  go_enter Try.func67, Try.ntmps67
  go_wp2_with fail
  with_reducible refine (ref_four s _ hs).mono ?_
  rintro e w1 ⟨rfl, hb1⟩
  go_wp2_with fail
  with_reducible refine (ref_four d _ hd).mono ?_
  rintro e w2 ⟨rfl, hb2⟩
  go_wp2_with fail
  with_reducible refine (ref_bytes m _ hm2).mono ?_
  rintro e w3 ⟨rfl, hb3⟩
  go_wp2_with fail
  with_reducible refine (B'.out _).mono ?_
  rintro e w4 ⟨rfl, rfl⟩
  go_wp2
  go_ret
  exact ⟨rfl, hb1.trans ((hb2.trans (hb3.mono hb2.size)).mono hb1.size)⟩
end Go.Proofs.Ytengegcnocdkoaa.T
end
section
set_option linter.unusedVariables false
set_option linter.unusedSimpArgs false
namespace Go.Proofs.Ytengegcnocdkoaa.T
open Go.RowKit Go.BigFrame
set_option maxRecDepth 100000 in
set_option maxHeartbeats 4000000 in
theorem ref_enc_ok (s d : Nat) (h : TCPh) (data : ByteArray) (w : World) (hs : s < 4294967296) (hd : d < 4294967296) (ho : h.ok) (hm : h.opts.size % 4 = 0) (hm2 : h.opts.size ≤ 40) (hf : h.flags.toNat < 64) (hl : 20 + h.opts.size + data.size ≤ 65515) :
    Calls Try.prog 31 #[.int .u32 (s : Int), .int .u32 (d : Int), .agg h.cells, .string data] w fun e w' => e = .returned (.tuple #[.string ⟨(encL s d h data.data.toList).toArray⟩, .int .i64 0]) ∧ Below w.heap.size w w' := by
  have b1 := fun W => ref_raw h data 0 W ho hm2 hl (by omega)
  have b2 := fun W => ref_raw h data (sumL s d h data.data.toList) W ho hm2 hl (sumL_lt _ _ _ _)
  have hz : (⟨(rawL h data.data.toList 0).toArray⟩ : ByteArray).size = 20 + h.opts.size + data.size := by
    show (rawL h data.data.toList 0).length = _
    rw [rawL_length]; rfl
  have b3 := fun W => ref_sum s d ⟨(rawL h data.data.toList 0).toArray⟩ W hs hd (by rw [hz]; omega)
  have e3 : ofL (aheadL s d (⟨(rawL h data.data.toList 0).toArray⟩ : ByteArray).size ++ (⟨(rawL h data.data.toList 0).toArray⟩ : ByteArray).data.toList) = sumL s d h data.data.toList := by rw [hz, ← sumL_raw s d h]; rfl
  simp only [e3] at b3
  have hfin : encL s d h data.data.toList = rawL h data.data.toList (sumL s d h data.data.toList) := rfl
  rw [hfin]
  clear hfin e3 hz ho
  obtain ⟨X0, hX0⟩ : ∃ X, X = (⟨(rawL h data.data.toList 0).toArray⟩ : ByteArray) := ⟨_, rfl⟩
  obtain ⟨X1, hX1⟩ : ∃ X, X = (⟨(rawL h data.data.toList (sumL s d h data.data.toList)).toArray⟩ : ByteArray) := ⟨_, rfl⟩
  obtain ⟨sm, hsm⟩ : ∃ X, X = sumL s d h data.data.toList := ⟨_, rfl⟩
  rw [← hX0] at b1 b3
  rw [← hX1] at b2 ⊢
  rw [← hsm] at b2 b3
  clear hX0 hX1 hsm
  obtain ⟨src, dst, seq, ack, flags, window, urgent, opts⟩ := h
  simp only at hm hm2 hf hl
  unfold TCPh.cells at *
  simp only at *
  have i1 : (opts.size : Int) % 4 = 0 := by omega
  have i2 : (opts.size : Int) ≤ 40 := by omega
  have i3 : (flags.toNat : Int) < 64 := by omega
  have i4 : (20 : Int) + (opts.size : Int) + (data.size : Int) ≤ 65515 := by omega
  have B1 := Lib.hid b1
  clear b1
  have B2 := Lib.hid b2
  clear b2
  have B3 := Lib.hid b3
  clear b3
  have hx := Blk.new w 60 #[.int .u16 (src : Int), .int .u16 (dst : Int), .int .u32 (seq : Int), .int .u32 (ack : Int), .int .u8 (flags.toNat : Int), .int .u16 (window : Int), .int .u16 (urgent : Int), .string opts]
  have hb0 : Below w.heap.size w (w.alloc (.cells #[.int .u16 (src : Int), .int .u16 (dst : Int), .int .u32 (seq : Int), .int .u32 (ack : Int), .int .u8 (flags.toNat : Int), .int .u16 (window : Int), .int .u16 (urgent : Int), .string opts] 60)) := (Below.refl _ _).alloc (Nat.le_refl _) _
  have Hx := Lib.hid hx
  clear hx
  have Hb0 := Lib.hid hb0
  clear hb0
  go_enter Try.func31, Try.ntmps31
  go_upto_region 5 with fail
  generalize w.alloc _ = W at *
  obtain ⟨x, hxe⟩ : ∃ x, x = w.heap.size := ⟨_, rfl⟩
  rw [← hxe] at Hx ⊢
  clear hxe
  obtain ⟨cs, hcs⟩ : ∃ cs : Array Value, cs = #[.int .u16 (src : Int), .int .u16 (dst : Int), .int .u32 (seq : Int), .int .u32 (ack : Int), .int .u8 (flags.toNat : Int), .int .u16 (window : Int), .int .u16 (urgent : Int), .string opts] := ⟨_, rfl⟩
  rw [← hcs] at Hx
  have hS0 : KeepS w x 60 cs W := ⟨Hb0.out, Hx.out⟩
  have ne : Nonempty (Cls (KeepS w x 60 cs)) := ⟨⟨W, hS0⟩⟩
  have k0 : ∀ y : Cls (KeepS w x 60 cs), y.w.cell? ⟨x, 0, none⟩ = some (.int .u16 (src : Int)) := fun y => (y.h.2.cell 0).trans (by rw [hcs]; rfl)
  have k1 : ∀ y : Cls (KeepS w x 60 cs), y.w.cell? ⟨x, 1, none⟩ = some (.int .u16 (dst : Int)) := fun y => (y.h.2.cell 1).trans (by rw [hcs]; rfl)
  have k2 : ∀ y : Cls (KeepS w x 60 cs), y.w.cell? ⟨x, 2, none⟩ = some (.int .u32 (seq : Int)) := fun y => (y.h.2.cell 2).trans (by rw [hcs]; rfl)
  have k3 : ∀ y : Cls (KeepS w x 60 cs), y.w.cell? ⟨x, 3, none⟩ = some (.int .u32 (ack : Int)) := fun y => (y.h.2.cell 3).trans (by rw [hcs]; rfl)
  have k4 : ∀ y : Cls (KeepS w x 60 cs), y.w.cell? ⟨x, 4, none⟩ = some (.int .u8 (flags.toNat : Int)) := fun y => (y.h.2.cell 4).trans (by rw [hcs]; rfl)
  have k5 : ∀ y : Cls (KeepS w x 60 cs), y.w.cell? ⟨x, 5, none⟩ = some (.int .u16 (window : Int)) := fun y => (y.h.2.cell 5).trans (by rw [hcs]; rfl)
  have k6 : ∀ y : Cls (KeepS w x 60 cs), y.w.cell? ⟨x, 6, none⟩ = some (.int .u16 (urgent : Int)) := fun y => (y.h.2.cell 6).trans (by rw [hcs]; rfl)
  have k7 : ∀ y : Cls (KeepS w x 60 cs), y.w.cell? ⟨x, 7, none⟩ = some (.string opts) := fun y => (y.h.2.cell 7).trans (by rw [hcs]; rfl)
  clear hcs
  have cf : ∀ (vals : Array Value) (w : World), (callFunc 66 vals).run Try.prog w = .ok (.enter 66 vals) w := fun _ _ => by kernel_rfl
  have cf3 : ∀ (vals : Array Value) (w : World), (callFunc 67 vals).run Try.prog w = .ok (.enter 67 vals) w := fun _ _ => by kernel_rfl
  have Cf := Lib.hid cf
  clear cf
  have Cf3 := Lib.hid cf3
  clear cf3
  refine wp_region_flat (KeepS w x 60 cs) (fun w w' => Below w.heap.size w w') (by kernel_rfl) (by kernel_rfl) (fun w => Below.refl _ _) hS0.drew ?_
  clear hS0
  repeat (first
    | (refine flat_quiet (fun w => Below.refl _ _) rfl rfl rfl rfl ?_; intro K hK; go_big_quiet_op; go_big_quiet_on)
    | (refine flat_call Cf.out _ ?_ rfl rfl rfl _ (fun y => below_call KeepS.below y (B1.out _)) W ?_; (focus (simp only [List.map_toArray, List.map_cons, List.map_nil]; rfl)); intro K hK; go_big_quiet_op; go_big_quiet_on)
    | (refine flat_call Cf.out _ ?_ rfl rfl rfl _ (fun y => below_call KeepS.below y (B2.out _)) W ?_; (focus (simp only [List.map_toArray, List.map_cons, List.map_nil]; rfl)); intro K hK; go_big_quiet_op; go_big_quiet_on)
    | (refine flat_call Cf3.out _ ?_ rfl rfl rfl _ (fun y => below_call KeepS.below y (B3.out _)) W ?_; (focus (simp only [List.map_toArray, List.map_cons, List.map_nil]; rfl)); intro K hK; go_big_quiet_op; go_big_quiet_on))
  refine flat_nil ?_
  intro W7 hW7
  simp only [endF]
  go_wp2
  go_ret2
  exact ⟨rfl, hW7.1⟩
set_option maxHeartbeats 1000000 in
theorem ref_enc_long (s d : Nat) (h : TCPh) (data : ByteArray) (w : World) (hm : h.opts.size % 4 = 0) (hm2 : h.opts.size ≤ 40) (hf : h.flags.toNat < 64) (hl : 65515 < 20 + h.opts.size + data.size) (hd : data.size ≤ 131072) :
    Calls Try.prog 31 #[.int .u32 (s : Int), .int .u32 (d : Int), .agg h.cells, .string data] w fun e w' => e = .returned (.tuple #[.string ⟨#[]⟩, .int .i64 4]) ∧ Below w.heap.size w w' := by
  obtain ⟨src, dst, seq, ack, flags, window, urgent, opts⟩ := h
  simp only at hm hm2 hf hl
  unfold TCPh.cells
  simp only
  have i1 : (opts.size : Int) % 4 = 0 := by omega
  have i2 : (opts.size : Int) ≤ 40 := by omega
  have i3 : (flags.toNat : Int) < 64 := by omega
  have i4 : (65515 : Int) < 20 + (opts.size : Int) + (data.size : Int) := by omega
  have i5 : (data.size : Int) ≤ 131072 := by omega
  go_enter Try.func31, Try.ntmps31
  go_wp2
  go_ret2
  exact ⟨rfl, (Below.refl _ _).alloc (Nat.le_refl _) _⟩
set_option maxHeartbeats 1000000 in
theorem ref_enc_arg (s d : Nat) (h : TCPh) (data : ByteArray) (w : World) (hm : ¬ (h.opts.size % 4 = 0 ∧ h.opts.size ≤ 40 ∧ h.flags.toNat < 64)) (hd : h.opts.size ≤ 131072) :
    Calls Try.prog 31 #[.int .u32 (s : Int), .int .u32 (d : Int), .agg h.cells, .string data] w fun e w' => e = .returned (.tuple #[.string ⟨#[]⟩, .int .i64 2]) ∧ Below w.heap.size w w' := by
  obtain ⟨src, dst, seq, ack, flags, window, urgent, opts⟩ := h
  simp only at hm hd
  unfold TCPh.cells
  simp only
  by_cases i1 : opts.size % 4 = 0
  · by_cases i2 : opts.size ≤ 40
    · have i3 : (64 : Int) ≤ (flags.toNat : Int) := by omega
      have i1 : (opts.size : Int) % 4 = 0 := by omega
      have i2 : (opts.size : Int) ≤ 40 := by omega
      have Hm := Lib.hid hm
      clear hm
      go_enter Try.func31, Try.ntmps31
      go_wp2
      go_ret2
      exact ⟨rfl, (Below.refl _ _).alloc (Nat.le_refl _) _⟩
    · have i1 : (opts.size : Int) % 4 = 0 := by omega
      have i2 : (40 : Int) < (opts.size : Int) := by omega
      have Hm := Lib.hid hm
      clear hm
      go_enter Try.func31, Try.ntmps31
      go_wp2
      go_ret2
      exact ⟨rfl, (Below.refl _ _).alloc (Nat.le_refl _) _⟩
  · have i1 : ((opts.size : Int) % 4 != 0) = true := by rw [bne_iff_ne]; omega
    have Hm := Lib.hid hm
    clear hm
    go_enter Try.func31, Try.ntmps31
    go_wp2
    go_ret2
    exact ⟨rfl, (Below.refl _ _).alloc (Nat.le_refl _) _⟩
end Go.Proofs.Ytengegcnocdkoaa.T
end
section
set_option linter.unusedVariables false
set_option linter.unusedSimpArgs false
namespace Go.Proofs.Ytengegcnocdkoaa.T
open Go.RowKit
def at0 (l : List UInt8) (i : Nat) : Nat := (l.getD i 0).toNat
/-- what is wrong with bytes (0: nothing) -/
def decE (s d : Nat) (l : List UInt8) : Nat :=
  if l.length < 20 then 50 else if 65515 < l.length then 4 else if ofL (aheadL s d l.length ++ l) ≠ 0 then 55
  else if at0 l 12 / 16 * 4 < 20 ∨ l.length < at0 l 12 / 16 * 4 then 60 else if at0 l 12 % 16 ≠ 0 ∨ 64 ≤ at0 l 13 then 61 else 0
def endN (l : List UInt8) : Nat := at0 l 12 / 16 * 4
def sub (l : List UInt8) (i j : Nat) : List UInt8 := (l.drop i).take (j - i)
def decH (l : List UInt8) : TCPh := ⟨numL (sub l 0 2) % 65536, numL (sub l 2 4) % 65536, numL (sub l 4 8), numL (sub l 8 12), l.getD 13 0, numL (sub l 14 16) % 65536, numL (sub l 18 20) % 65536, ⟨(sub l 20 (endN l)).toArray⟩⟩
def zeroC : Array Value := #[.int .u16 0, .int .u16 0, .int .u32 0, .int .u32 0, .int .u8 0, .int .u16 0, .int .u16 0, .string ⟨#[]⟩]
def badV (e : Nat) : Value := .tuple #[.agg zeroC, .string ⟨#[]⟩, .int .i64 (e : Int)]
def decV (s d : Nat) (l : List UInt8) : Value := if decE s d l = 0 then .tuple #[.agg (decH l).cells, .string ⟨(l.drop (endN l)).toArray⟩, .int .i64 0] else badV (decE s d l)
theorem decV_bad {s d : Nat} {l : List UInt8} {e : Nat} (h : decE s d l = e) (h0 : e ≠ 0) : decV s d l = badV e := by
  unfold decV
  rw [h, if_neg h0]
theorem decV_ok {s d : Nat} {l : List UInt8} (h : decE s d l = 0) : decV s d l = .tuple #[.agg (decH l).cells, .string ⟨(l.drop (endN l)).toArray⟩, .int .i64 0] := by
  unfold decV
  rw [if_pos h]
theorem at0_get (s : ByteArray) (i : Nat) (h : i < s.size) : at0 s.data.toList i = (s[i]'h).toNat := by
  unfold at0
  have hl : i < s.data.toList.length := h
  simp only [List.getD, List.getElem?_eq_getElem hl, Option.getD_some]
  rfl
theorem getD_get (s : ByteArray) (i : Nat) (h : i < s.size) : s.data.toList.getD i 0 = s[i]'h := by
  have hl : i < s.data.toList.length := h
  simp only [List.getD, List.getElem?_eq_getElem hl, Option.getD_some]
  rfl
theorem str_sub (s : ByteArray) (i j : Nat) : (s.extract i j).data.toList = sub s.data.toList i j := by
  unfold sub
  rw [ByteArray.data_extract, Array.toList_extract, List.extract_eq_take_drop]
theorem str_sub' (s : ByteArray) (i j : Nat) : (⟨(sub s.data.toList i j).toArray⟩ : ByteArray) = s.extract i j := by
  rw [← str_sub]
theorem str_drop (s : ByteArray) (i : Nat) : (⟨(s.data.toList.drop i).toArray⟩ : ByteArray) = s.extract i s.size := by
  apply ByteArray.ext
  apply Array.toList_inj.1
  rw [ByteArray.data_extract, Array.toList_extract, List.extract_eq_take_drop]
  exact (List.take_of_length_le (by simp)).symm
theorem num_ext (s : ByteArray) (i j : Nat) : numL (s.extract i j).data.toList = numL (sub s.data.toList i j) := by rw [str_sub]
theorem decV_done (s d : Nat) (t : ByteArray) (h20 : 20 ≤ t.size) (h : decE s d t.data.toList = 0) {u1 u2 u3 u4 u5 u6 n : Nat} (h1 : u1 = numL (t.extract 0 2).data.toList % 65536) (h2 : u2 = numL (t.extract 2 4).data.toList % 65536) (h3 : u3 = numL (t.extract 4 8).data.toList)
    (h4 : u4 = numL (t.extract 8 12).data.toList) (h5 : u5 = numL (t.extract 14 16).data.toList % 65536) (h6 : u6 = numL (t.extract 18 20).data.toList % 65536) (hn : n = (t[12]'(by omega)).toNat / 16 * 4) :
    decV s d t.data.toList = .tuple #[.agg #[.int .u16 (u1 : Int), .int .u16 (u2 : Int), .int .u32 (u3 : Int), .int .u32 (u4 : Int), .int .u8 ((t[13]'(by omega)).toNat : Int), .int .u16 (u5 : Int), .int .u16 (u6 : Int), .string (t.extract 20 n)], .string (t.extract n t.size), .int .i64 0] := by
  rw [decV_ok h]
  have e : endN t.data.toList = n := by
    unfold endN
    rw [at0_get t 12 (by omega), hn]
  unfold decH TCPh.cells
  simp only [getD_get t 13 (by omega)]
  rw [e, str_drop, str_sub', h1, h2, h3, h4, h5, h6, num_ext, num_ext, num_ext, num_ext, num_ext, num_ext]
theorem below_set8 {B x : Nat} {w W : World} (h : Below B w W) (hx : B ≤ x) (v0 v1 v2 v3 v4 v5 v6 v7 : Value) :
    Below B w ((((((((W.setCell ⟨x, 0, none⟩ v0).setCell ⟨x, 1, none⟩ v1).setCell ⟨x, 2, none⟩ v2).setCell ⟨x, 3, none⟩ v3).setCell ⟨x, 4, none⟩ v4).setCell ⟨x, 5, none⟩ v5).setCell ⟨x, 6, none⟩ v6).setCell ⟨x, 7, none⟩ v7) :=
  ((((((((h.setCell hx v0).setCell hx v1).setCell hx v2).setCell hx v3).setCell hx v4).setCell hx v5).setCell hx v6).setCell hx v7)
theorem blk_set8 {W : World} {x : Nat} {T : TypeId} {a0 a1 a2 a3 a4 a5 a6 a7 : Value} (h : Blk W x T #[a0, a1, a2, a3, a4, a5, a6, a7]) (v0 v1 v2 v3 v4 v5 v6 v7 : Value) :
    Blk ((((((((W.setCell ⟨x, 0, none⟩ v0).setCell ⟨x, 1, none⟩ v1).setCell ⟨x, 2, none⟩ v2).setCell ⟨x, 3, none⟩ v3).setCell ⟨x, 4, none⟩ v4).setCell ⟨x, 5, none⟩ v5).setCell ⟨x, 6, none⟩ v6).setCell ⟨x, 7, none⟩ v7) x T #[v0, v1, v2, v3, v4, v5, v6, v7] := by
  have := ((((((((h.set_ 0 v0).set_ 1 v1).set_ 2 v2).set_ 3 v3).set_ 4 v4).set_ 5 v5).set_ 6 v6).set_ 7 v7)
  simpa using this
end Go.Proofs.Ytengegcnocdkoaa.T
end
section
set_option linter.unusedVariables false
set_option linter.unusedSimpArgs false
namespace Go.Proofs.Ytengegcnocdkoaa.T
open Go.RowKit Go.BigFrame
set_option maxHeartbeats 1000000 in
theorem dec_short (s d : Nat) (t : ByteArray) (w : World) (h20 : t.size < 20) :
    Calls Try.prog 41 #[.int .u32 (s : Int), .int .u32 (d : Int), .string t] w fun e w' => e = .returned (decV s d t.data.toList) ∧ Below w.heap.size w w' := by
  have hE : decE s d t.data.toList = 50 := by
    unfold decE
    rw [if_pos (show t.data.toList.length < 20 from h20)]
  have hV := decV_bad hE (by decide)
  have HV := Lib.hid hV
  clear hV hE
  have i1 : (t.size : Int) < 20 := by omega
  go_enter Try.func41, Try.ntmps41
  go_wp2
  rw [HV.out]
  exact bodyPost_ret (v := badV 50) (by simp [results, Try.results41, go_sem, badV, zeroC]) rfl ⟨rfl, by first | exact ((Below.refl _ _).alloc (Nat.le_refl _) _) | exact Below.alloc (Below.refl _ _) (by simp) _⟩
set_option maxHeartbeats 1000000 in
theorem dec_long (s d : Nat) (t : ByteArray) (w : World) (h : 65515 < t.size) (hs : t.size ≤ 131072) :
    Calls Try.prog 41 #[.int .u32 (s : Int), .int .u32 (d : Int), .string t] w fun e w' => e = .returned (decV s d t.data.toList) ∧ Below w.heap.size w w' := by
  have hE : decE s d t.data.toList = 4 := by
    have hl : t.data.toList.length = t.size := rfl
    unfold decE
    rw [if_neg (by omega), if_pos (by omega)]
  have hV := decV_bad hE (by decide)
  have HV := Lib.hid hV
  clear hV hE
  have i1 : (65515 : Int) < (t.size : Int) := by omega
  have i2 : (t.size : Int) ≤ 131072 := by omega
  go_enter Try.func41, Try.ntmps41
  go_wp2
  rw [HV.out]
  exact bodyPost_ret (v := badV 4) (by simp [results, Try.results41, go_sem, badV, zeroC]) rfl ⟨rfl, by first | exact ((Below.refl _ _).alloc (Nat.le_refl _) _) | exact Below.alloc (Below.refl _ _) (by simp) _⟩
end Go.Proofs.Ytengegcnocdkoaa.T
end
section
set_option linter.unusedVariables false
set_option linter.unusedSimpArgs false
namespace Go.Proofs.Ytengegcnocdkoaa.T
open Go.RowKit Go.BigFrame
set_option maxRecDepth 100000 in
set_option maxHeartbeats 4000000 in
theorem dec_any (s d : Nat) (t : ByteArray) (w : World) (hs : s < 4294967296) (hd : d < 4294967296) (h20 : 20 ≤ t.size) (hl : t.size ≤ 65515) :
    Calls Try.prog 41 #[.int .u32 (s : Int), .int .u32 (d : Int), .string t] w fun e w' => e = .returned (decV s d t.data.toList) ∧ Below w.heap.size w w' := by
  obtain ⟨m, hm⟩ : ∃ m, m = t.size := ⟨_, rfl⟩
  have e1 : (t.size : Int) = (m : Int) := by omega
  have hm1 : 20 ≤ m := by omega
  have hm2 : m ≤ 65515 := by omega
  have b7 := fun W => ahead_ok s d m W hs hd (by omega)
  obtain ⟨ah, hah⟩ : ∃ ah : List UInt8, ah = aheadL s d m := ⟨_, rfl⟩
  have za : ah.length = 12 := by rw [hah]; rfl
  rw [← hah] at b7
  have hcat : catS [⟨ah.toArray⟩, t] = ah ++ t.data.toList := by simp [catS]
  obtain ⟨ok, hok⟩ : ∃ ok : Bool, ((ofL (ah ++ t.data.toList) : Int) == 0) = ok := ⟨_, rfl⟩
  have rl := fun W g (h : Blk W g 9 #[.string ⟨ah.toArray⟩, .string t]) => right_lit [⟨ah.toArray⟩, t] ok (by rw [hcat]; exact hok) (by
    intro x hx
    simp only [List.mem_cons, List.not_mem_nil, or_false] at hx
    rcases hx with rfl | rfl
    · show ah.length ≤ maxLen; rw [za]; decide
    · have : x.size ≤ 65515 := by omega
      exact Nat.le_trans this (by decide)) g 2 2 W rfl (by omega) h
  clear hcat
  have hbx := Blk.new w 60 zeroC
  have hb0 : Below w.heap.size w (w.alloc (.cells zeroC 60)) := (Below.refl _ _).alloc (Nat.le_refl _) _
  unfold zeroC at hbx hb0
  have j12 : 12 < t.size := by omega
  have j13 : 13 < t.size := by omega
  have l12 := (t[12]'j12).toNat_lt
  have l13 := (t[13]'j13).toNat_lt
  have k12 : ((t[12]'j12).toNat : Int) < 256 := by omega
  have k13 : ((t[13]'j13).toNat : Int) < 256 := by omega
  have i12 : (12 : Int) < (m : Int) := by omega
  have i13 : (13 : Int) < (m : Int) := by omega
  have B7 := Lib.hid b7
  clear b7
  have Rl := Lib.hid rl
  clear rl
  have Hok := Lib.hid hok
  clear hok
  have Hah := Lib.hid hah
  clear hah
  have Hm := Lib.hid hm
  clear hm
  have Hbx := Lib.hid hbx
  clear hbx
  have Hb0 := Lib.hid hb0
  clear hb0
  go_enter Try.func41, Try.ntmps41
  go_wp2_with fail
  generalize hW : w.alloc _ = W at *
  obtain ⟨x, hx⟩ : ∃ x, x = w.heap.size := ⟨_, rfl⟩
  rw [← hx] at Hbx ⊢
  have hxw : w.heap.size ≤ x := by omega
  have Hxw := Lib.hid hxw
  clear hxw
  clear hW hx
  with_reducible refine (B7.out _).mono ?_
  rintro e w1 ⟨rfl, hb1⟩
  go_wp2_with fail
  with_reducible refine (Rl.out _ _ (Blk.new _ _ _)).mono ?_
  rintro e w2 ⟨rfl, hb2⟩
  have hS : Below W.heap.size W w2 := hb1.trans ((((Below.refl _ _).alloc (Nat.le_refl _) _).trans (hb2.mono (by simp))).mono hb1.size)
  have hx2 := Hbx.out.below hS Hbx.out.lt
  have hbw : Below w.heap.size w w2 := Hb0.out.trans (hS.mono Hb0.out.size)
  clear hb1 hb2 hS Hb0 Hbx Rl B7
  have x0 := hx2.cell 0
  have x1 := hx2.cell 1
  have x2 := hx2.cell 2
  have x3 := hx2.cell 3
  have x4 := hx2.cell 4
  have x5 := hx2.cell 5
  have x6 := hx2.cell 6
  have x7 := hx2.cell 7
  simp at x0 x1 x2 x3 x4 x5 x6 x7
  have xf := hx2.frozen
  have Hx2 := Lib.hid hx2
  clear hx2
  have Hbw := Lib.hid hbw
  clear hbw
  have hlen : t.data.toList.length = t.size := rfl
  cases ok
  · have hE : decE s d t.data.toList = 55 := by
      have h55 : ofL (aheadL s d t.data.toList.length ++ t.data.toList) ≠ 0 := by
        have := Hok.out
        rw [hlen, ← Hm.out, ← Hah.out]
        intro h0
        rw [h0] at this
        cases this
      unfold decE
      rw [if_neg (by omega), if_neg (by omega), if_pos h55]
    have hV := decV_bad hE (by decide)
    have HV := Lib.hid hV
    clear hV
    clear hE hlen
    go_wp2
    rw [HV.out]
    clear x0 x1 x2 x3 x4 x5 x6 x7 xf
    generalize hWf : World.setCell _ _ _ = Wf
    have hf : Blk Wf x 60 zeroC := by
      rw [← hWf]
      exact blk_set8 Hx2.out _ _ _ _ _ _ _ _
    have hbf : Below w.heap.size w Wf := by
      rw [← hWf]
      exact below_set8 Hbw.out Hxw.out _ _ _ _ _ _ _ _
    clear hWf
    have x0 := hf.cell 0
    have x1 := hf.cell 1
    have x2 := hf.cell 2
    have x3 := hf.cell 3
    have x4 := hf.cell 4
    have x5 := hf.cell 5
    have x6 := hf.cell 6
    have x7 := hf.cell 7
    simp [zeroC] at x0 x1 x2 x3 x4 x5 x6 x7
    exact bodyPost_ret (v := badV 55) (by simp [results, Try.results41, go_sem, badV, zeroC, x0, x1, x2, x3, x4, x5, x6, x7]) rfl ⟨rfl, hbf⟩
  have h0 : ofL (aheadL s d t.data.toList.length ++ t.data.toList) = 0 := by
    have := Hok.out
    rw [hlen, ← Hm.out, ← Hah.out]
    have h1 := beq_iff_eq.1 this
    exact_mod_cast h1
  have hE : decE s d t.data.toList = if (t[12]'j12).toNat / 16 * 4 < 20 ∨ m < (t[12]'j12).toNat / 16 * 4 then 60 else if (t[12]'j12).toNat % 16 ≠ 0 ∨ 64 ≤ (t[13]'j13).toNat then 61 else 0 := by
    unfold decE
    rw [if_neg (by omega), if_neg (by omega), if_neg (by rw [h0]; simp), at0_get t 12 j12, at0_get t 13 j13, hlen, ← Hm.out]
  clear h0 hlen
  obtain ⟨c, hc⟩ : ∃ c, c = (t[12]'j12).toNat := ⟨_, rfl⟩
  obtain ⟨c3, hc3⟩ : ∃ c, c = (t[13]'j13).toNat := ⟨_, rfl⟩
  rw [← hc] at hE l12
  rw [← hc3] at hE l13
  by_cases ho : c / 16 * 4 < 20 ∨ m < c / 16 * 4
  · rw [if_pos ho] at hE
    have hV := decV_bad hE (by decide)
    have HV := Lib.hid hV
    clear hV
    clear hE
    by_cases ho1 : c / 16 * 4 < 20
    · have i5 : ((t[12]'j12).toNat : Int) / 16 * 4 < 20 := by omega
      have Ho := Lib.hid ho
      clear ho
      have Hc := Lib.hid hc
      clear hc
      have Hc3 := Lib.hid hc3
      clear hc3
      go_wp2
      rw [HV.out]
      clear x0 x1 x2 x3 x4 x5 x6 x7 xf
      generalize hWf : World.setCell _ _ _ = Wf
      have hf : Blk Wf x 60 zeroC := by
        rw [← hWf]
        exact blk_set8 Hx2.out _ _ _ _ _ _ _ _
      have hbf : Below w.heap.size w Wf := by
        rw [← hWf]
        exact below_set8 Hbw.out Hxw.out _ _ _ _ _ _ _ _
      clear hWf
      have x0 := hf.cell 0
      have x1 := hf.cell 1
      have x2 := hf.cell 2
      have x3 := hf.cell 3
      have x4 := hf.cell 4
      have x5 := hf.cell 5
      have x6 := hf.cell 6
      have x7 := hf.cell 7
      simp [zeroC] at x0 x1 x2 x3 x4 x5 x6 x7
      exact bodyPost_ret (v := badV 60) (by simp [results, Try.results41, go_sem, badV, zeroC, x0, x1, x2, x3, x4, x5, x6, x7]) rfl ⟨rfl, hbf⟩
    · have i5 : (20 : Int) ≤ ((t[12]'j12).toNat : Int) / 16 * 4 := by omega
      have i6 : (m : Int) < ((t[12]'j12).toNat : Int) / 16 * 4 := by omega
      have Ho := Lib.hid ho
      clear ho
      have Hc := Lib.hid hc
      clear hc
      have Hc3 := Lib.hid hc3
      clear hc3
      go_wp2
      rw [HV.out]
      clear x0 x1 x2 x3 x4 x5 x6 x7 xf
      generalize hWf : World.setCell _ _ _ = Wf
      have hf : Blk Wf x 60 zeroC := by
        rw [← hWf]
        exact blk_set8 Hx2.out _ _ _ _ _ _ _ _
      have hbf : Below w.heap.size w Wf := by
        rw [← hWf]
        exact below_set8 Hbw.out Hxw.out _ _ _ _ _ _ _ _
      clear hWf
      have x0 := hf.cell 0
      have x1 := hf.cell 1
      have x2 := hf.cell 2
      have x3 := hf.cell 3
      have x4 := hf.cell 4
      have x5 := hf.cell 5
      have x6 := hf.cell 6
      have x7 := hf.cell 7
      simp [zeroC] at x0 x1 x2 x3 x4 x5 x6 x7
      exact bodyPost_ret (v := badV 60) (by simp [results, Try.results41, go_sem, badV, zeroC, x0, x1, x2, x3, x4, x5, x6, x7]) rfl ⟨rfl, hbf⟩
  · rw [if_neg ho] at hE
    have i5 : (20 : Int) ≤ ((t[12]'j12).toNat : Int) / 16 * 4 := by omega
    have i6 : ((t[12]'j12).toNat : Int) / 16 * 4 ≤ (m : Int) := by omega
    by_cases hr1 : c % 16 ≠ 0
    · have hV := decV_bad (hE.trans (if_pos (.inl hr1))) (by decide)
      have HV := Lib.hid hV
      clear hV
      clear hE
      have q1 : (((t[12]'j12).toNat : Int) % 16 != 0) = true := by rw [bne_iff_ne]; omega
      have Ho := Lib.hid ho
      clear ho
      have Hc := Lib.hid hc
      clear hc
      have Hc3 := Lib.hid hc3
      clear hc3
      have Hr1 := Lib.hid hr1
      clear hr1
      go_wp2
      rw [HV.out]
      clear x0 x1 x2 x3 x4 x5 x6 x7 xf
      generalize hWf : World.setCell _ _ _ = Wf
      have hf : Blk Wf x 60 zeroC := by
        rw [← hWf]
        exact blk_set8 Hx2.out _ _ _ _ _ _ _ _
      have hbf : Below w.heap.size w Wf := by
        rw [← hWf]
        exact below_set8 Hbw.out Hxw.out _ _ _ _ _ _ _ _
      clear hWf
      have x0 := hf.cell 0
      have x1 := hf.cell 1
      have x2 := hf.cell 2
      have x3 := hf.cell 3
      have x4 := hf.cell 4
      have x5 := hf.cell 5
      have x6 := hf.cell 6
      have x7 := hf.cell 7
      simp [zeroC] at x0 x1 x2 x3 x4 x5 x6 x7
      exact bodyPost_ret (v := badV 61) (by simp [results, Try.results41, go_sem, badV, zeroC, x0, x1, x2, x3, x4, x5, x6, x7]) rfl ⟨rfl, hbf⟩
    have q1 : (((t[12]'j12).toNat : Int) % 16 != 0) = false := by rw [bne_eq_false_iff_eq]; omega
    by_cases hr2 : 64 ≤ c3
    · have hV := decV_bad (hE.trans (if_pos (.inr hr2))) (by decide)
      have HV := Lib.hid hV
      clear hV
      clear hE
      have q2 : (((t[13]'j13).toNat : Int) / 64 != 0) = true := by rw [bne_iff_ne]; omega
      have Ho := Lib.hid ho
      clear ho
      have Hc := Lib.hid hc
      clear hc
      have Hc3 := Lib.hid hc3
      clear hc3
      have Hr1 := Lib.hid hr1
      clear hr1
      have Hr2 := Lib.hid hr2
      clear hr2
      go_wp2
      rw [HV.out]
      clear x0 x1 x2 x3 x4 x5 x6 x7 xf
      generalize hWf : World.setCell _ _ _ = Wf
      have hf : Blk Wf x 60 zeroC := by
        rw [← hWf]
        exact blk_set8 Hx2.out _ _ _ _ _ _ _ _
      have hbf : Below w.heap.size w Wf := by
        rw [← hWf]
        exact below_set8 Hbw.out Hxw.out _ _ _ _ _ _ _ _
      clear hWf
      have x0 := hf.cell 0
      have x1 := hf.cell 1
      have x2 := hf.cell 2
      have x3 := hf.cell 3
      have x4 := hf.cell 4
      have x5 := hf.cell 5
      have x6 := hf.cell 6
      have x7 := hf.cell 7
      simp [zeroC] at x0 x1 x2 x3 x4 x5 x6 x7
      exact bodyPost_ret (v := badV 61) (by simp [results, Try.results41, go_sem, badV, zeroC, x0, x1, x2, x3, x4, x5, x6, x7]) rfl ⟨rfl, hbf⟩
    have q2 : (((t[13]'j13).toNat : Int) / 64 != 0) = false := by rw [bne_eq_false_iff_eq]; omega
    have h0E := hE.trans (if_neg (by rintro (h | h); exact hr1 h; exact hr2 (by omega)))
    obtain ⟨n, hn⟩ : ∃ n : Nat, n = (t[12]'j12).toNat / 16 * 4 := ⟨_, rfl⟩
    have hnI : ((t[12]'j12).toNat : Int) / 16 * 4 = (n : Int) := by omega
    have i7 : (20 : Int) ≤ (n : Int) := by omega
    have i8 : (n : Int) ≤ (m : Int) := by omega
    have m1 := fun W => number16 (t.extract 0 2) W (by simp [maxLen]; omega)
    have m2 := fun W => number16 (t.extract 2 4) W (by simp [maxLen]; omega)
    have m3 := fun W => number_any (t.extract 4 8) W (by simp [maxLen]; omega)
    have m4 := fun W => number_any (t.extract 8 12) W (by simp [maxLen]; omega)
    have m5 := fun W => number16 (t.extract 14 16) W (by simp [maxLen]; omega)
    have m6 := fun W => number16 (t.extract 18 20) W (by simp [maxLen]; omega)
    obtain ⟨u1, hu1⟩ : ∃ u, u = numL (t.extract 0 2).data.toList % 65536 := ⟨_, rfl⟩
    obtain ⟨u2, hu2⟩ : ∃ u, u = numL (t.extract 2 4).data.toList % 65536 := ⟨_, rfl⟩
    obtain ⟨u3, hu3⟩ : ∃ u, u = numL (t.extract 4 8).data.toList := ⟨_, rfl⟩
    obtain ⟨u4, hu4⟩ : ∃ u, u = numL (t.extract 8 12).data.toList := ⟨_, rfl⟩
    obtain ⟨u5, hu5⟩ : ∃ u, u = numL (t.extract 14 16).data.toList % 65536 := ⟨_, rfl⟩
    obtain ⟨u6, hu6⟩ : ∃ u, u = numL (t.extract 18 20).data.toList % 65536 := ⟨_, rfl⟩
    rw [← hu1] at m1
    rw [← hu2] at m2
    rw [← hu3] at m3
    rw [← hu4] at m4
    rw [← hu5] at m5
    rw [← hu6] at m6
    have cf : ∀ (vals : Array Value) (w : World), (callFunc 73 vals).run Try.prog w = .ok (.enter 73 vals) w := fun _ _ => by kernel_rfl
    have cg : ∀ (vals : Array Value) (w : World), (callFunc 74 vals).run Try.prog w = .ok (.enter 74 vals) w := fun _ _ => by kernel_rfl
    have t2 : (2 : Int) ≤ (m : Int) := by omega
    have t4 : (4 : Int) ≤ (m : Int) := by omega
    have t8 : (8 : Int) ≤ (m : Int) := by omega
    have t12 : (12 : Int) ≤ (m : Int) := by omega
    have t16 : (16 : Int) ≤ (m : Int) := by omega
    have t20 : (20 : Int) ≤ (m : Int) := by omega
    have hdone := decV_done s d t h20 h0E hu1 hu2 hu3 hu4 hu5 hu6 hn
    have Ho := Lib.hid ho
    clear ho
    have Hc := Lib.hid hc
    clear hc
    have Hc3 := Lib.hid hc3
    clear hc3
    have Hr1 := Lib.hid hr1
    clear hr1
    have Hr2 := Lib.hid hr2
    clear hr2
    have Hu1 := Lib.hid hu1
    clear hu1
    have Hu2 := Lib.hid hu2
    clear hu2
    have Hu3 := Lib.hid hu3
    clear hu3
    have Hu4 := Lib.hid hu4
    clear hu4
    have Hu5 := Lib.hid hu5
    clear hu5
    have Hu6 := Lib.hid hu6
    clear hu6
    have M1 := Lib.hid m1
    clear m1
    have M2 := Lib.hid m2
    clear m2
    have M3 := Lib.hid m3
    clear m3
    have M4 := Lib.hid m4
    clear m4
    have M5 := Lib.hid m5
    clear m5
    have M6 := Lib.hid m6
    clear m6
    have Cf := Lib.hid cf
    clear cf
    have Cg := Lib.hid cg
    clear cg
    have Hdone := Lib.hid hdone
    clear hdone
    have Hn := Lib.hid hn
    clear hn
    clear hE h0E
    go_upto_region 12 with fail
    clear x0 x1 x2 x3 x4 x5 x6 x7 xf
    have hS0 : KeepS w2 x 60 zeroC w2 := ⟨Below.refl _ _, Hx2.out⟩
    have ne : Nonempty (Cls (KeepS w2 x 60 zeroC)) := ⟨⟨w2, hS0⟩⟩
    refine wp_region_flat1 24 (KeepS w2 x 60 zeroC) (fun w w' => Below w.heap.size w w') (by kernel_rfl) (by kernel_rfl) (by kernel_rfl) (fun w => Below.refl _ _) hS0.drew ?_
    simp only [List.take_succ_cons, List.take_zero, List.drop_succ_cons, List.drop_zero]
    repeat (first
      | (refine flat_quiet (fun w => Below.refl _ _) rfl rfl rfl rfl ?_; intro K hK; go_big_quiet_op; go_big_quiet_on)
      | (refine flat_call Cf.out _ ?_ rfl rfl rfl _ (fun y => below_call KeepS.below y (M1.out _)) w2 ?_; (focus (simp only [List.map_toArray, List.map_cons, List.map_nil]; rfl)); intro K hK; go_big_quiet_op; go_big_quiet_on)
      | (refine flat_call Cf.out _ ?_ rfl rfl rfl _ (fun y => below_call KeepS.below y (M2.out _)) w2 ?_; (focus (simp only [List.map_toArray, List.map_cons, List.map_nil]; rfl)); intro K hK; go_big_quiet_op; go_big_quiet_on)
      | (refine flat_call Cg.out _ ?_ rfl rfl rfl _ (fun y => below_call KeepS.below y (M3.out _)) w2 ?_; (focus (simp only [List.map_toArray, List.map_cons, List.map_nil]; rfl)); intro K hK; go_big_quiet_op; go_big_quiet_on)
      | (refine flat_call Cg.out _ ?_ rfl rfl rfl _ (fun y => below_call KeepS.below y (M4.out _)) w2 ?_; (focus (simp only [List.map_toArray, List.map_cons, List.map_nil]; rfl)); intro K hK; go_big_quiet_op; go_big_quiet_on)
      | (refine flat_call Cf.out _ ?_ rfl rfl rfl _ (fun y => below_call KeepS.below y (M5.out _)) w2 ?_; (focus (simp only [List.map_toArray, List.map_cons, List.map_nil]; rfl)); intro K hK; go_big_quiet_op; go_big_quiet_on)
      | (refine flat_call Cf.out _ ?_ rfl rfl rfl _ (fun y => below_call KeepS.below y (M6.out _)) w2 ?_; (focus (simp only [List.map_toArray, List.map_cons, List.map_nil]; rfl)); intro K hK; go_big_quiet_op; go_big_quiet_on))
    refine flat_nil ?_
    intro W9 hW9
    simp only [endF]
    clear ne hS0
    have x0 := hW9.2.cell 0
    have x1 := hW9.2.cell 1
    have x2 := hW9.2.cell 2
    have x3 := hW9.2.cell 3
    have x4 := hW9.2.cell 4
    have x5 := hW9.2.cell 5
    have x6 := hW9.2.cell 6
    have x7 := hW9.2.cell 7
    simp [zeroC] at x0 x1 x2 x3 x4 x5 x6 x7
    have xf := hW9.2.frozen
    go_upto_region 13 with fail
    generalize hWt : World.setCell _ _ _ = Wt
    have ht : Blk Wt x 60 #[.int .u16 (u1 : Int), .int .u16 (u2 : Int), .int .u32 (u3 : Int), .int .u32 (u4 : Int), .int .u8 ((t[13]'j13).toNat : Int), .int .u16 (u5 : Int), .int .u16 (u6 : Int), .string (t.extract 20 n)] := by
      rw [← hWt]
      exact blk_set8 hW9.2 _ _ _ _ _ _ _ _
    have hbt : Below w.heap.size w Wt := by
      rw [← hWt]
      exact below_set8 (Hbw.out.trans (hW9.1.mono Hbw.out.size)) Hxw.out _ _ _ _ _ _ _ _
    clear hWt hW9 x0 x1 x2 x3 x4 x5 x6 x7 xf
    have x0 := ht.cell 0
    have x1 := ht.cell 1
    have x2 := ht.cell 2
    have x3 := ht.cell 3
    have x4 := ht.cell 4
    have x5 := ht.cell 5
    have x6 := ht.cell 6
    have x7 := ht.cell 7
    simp at x0 x1 x2 x3 x4 x5 x6 x7
    have xf := ht.frozen
    have Ht := Lib.hid ht
    clear ht
    have Hbt := Lib.hid hbt
    clear hbt
    go_region
    go_wp2
    clear x0 x1 x2 x3 x4 x5 x6 x7 xf
    generalize hWf : World.drew _ = Wf
    have hf : Blk Wf x 60 #[.int .u16 (u1 : Int), .int .u16 (u2 : Int), .int .u32 (u3 : Int), .int .u32 (u4 : Int), .int .u8 ((t[13]'j13).toNat : Int), .int .u16 (u5 : Int), .int .u16 (u6 : Int), .string (t.extract 20 n)] := by
      rw [← hWf]
      exact Blk.drew (blk_set8 Ht.out _ _ _ _ _ _ _ _)
    have hbf : Below w.heap.size w Wf := by
      rw [← hWf]
      exact Below.drew (below_set8 Hbt.out Hxw.out _ _ _ _ _ _ _ _)
    clear hWf
    have x0 := hf.cell 0
    have x1 := hf.cell 1
    have x2 := hf.cell 2
    have x3 := hf.cell 3
    have x4 := hf.cell 4
    have x5 := hf.cell 5
    have x6 := hf.cell 6
    have x7 := hf.cell 7
    simp at x0 x1 x2 x3 x4 x5 x6 x7
    rw [Hdone.out]
    exact bodyPost_ret (v := .tuple #[.agg #[.int .u16 (u1 : Int), .int .u16 (u2 : Int), .int .u32 (u3 : Int), .int .u32 (u4 : Int), .int .u8 ((t[13]'j13).toNat : Int), .int .u16 (u5 : Int), .int .u16 (u6 : Int), .string (t.extract 20 n)], .string (t.extract n t.size), .int .i64 0]) (by simp [results, Try.results41, go_sem, x0, x1, x2, x3, x4, x5, x6, x7]) rfl ⟨rfl, hbf⟩
end Go.Proofs.Ytengegcnocdkoaa.T
end
section
set_option linter.unusedVariables false
set_option linter.unusedSimpArgs false
namespace Go.Proofs.Ytengegcnocdkoaa.T
open Go.RowKit
theorem nrm_full (s : Nat) : nrm (s + (65535 - nrm s)) = 65535 := by
  unfold nrm
  split
  · subst_vars; rfl
  · rw [if_neg (by omega)]
    omega
theorem wordsL_be2 (s : Nat) (hs : s < 65536) : wordsL (be2 s) = [s] := by
  simp only [be2, wordsL, UInt8.toNat_ofNat']
  congr 1
  omega
theorem numL_be2 (n : Nat) (hn : n < 65536) : numL (be2 n) = n := by
  simp only [numL, be2, List.foldl_cons, List.foldl_nil, UInt8.toNat_ofNat']
  omega
theorem numL_be4 (n : Nat) (hn : n < 4294967296) : numL (be4 n) = n := by
  simp only [numL, be4, List.foldl_cons, List.foldl_nil, UInt8.toNat_ofNat']
  omega
/-- the words of what stands beside the checksum -/
def restW (s d : Nat) (h : TCPh) (data : List UInt8) : Nat := (wordsL (aheadL s d (20 + h.opts.size + data.length))).sum + ((wordsL (frontL h)).sum + (wordsL (backL h data)).sum)
theorem sumL_rest (s d : Nat) (h : TCPh) (data : List UInt8) : sumL s d h data = 65535 - nrm (restW s d h data) := by
  unfold sumL restW ofL
  rw [List.append_assoc, wordsL_app _ _ (by rw [aheadL_length]), wordsL_app _ _ (by rw [frontL_length]), List.sum_append, List.sum_append]
theorem raw_sum (s d : Nat) (h : TCPh) (data : List UInt8) (q : Nat) (hq : q < 65536) : (wordsL (aheadL s d (20 + h.opts.size + data.length) ++ rawL h data q)).sum = restW s d h data + q := by
  unfold rawL restW
  rw [wordsL_app _ _ (by rw [aheadL_length]), List.append_assoc, wordsL_app _ _ (by rw [frontL_length]), wordsL_app (be2 _) _ (by simp [be2]), wordsL_be2 _ hq, List.sum_append, List.sum_append, List.sum_append]
  simp
  omega
theorem enc_len (s d : Nat) (h : TCPh) (data : List UInt8) : (encL s d h data).length = 20 + h.opts.size + data.length := rawL_length _ _ _
theorem enc_sum (s d : Nat) (h : TCPh) (data : List UInt8) : ofL (aheadL s d (encL s d h data).length ++ encL s d h data) = 0 := by
  rw [enc_len]
  unfold encL ofL
  rw [raw_sum _ _ _ _ _ (sumL_lt s d h data), sumL_rest, nrm_full]
section
variable (s d : Nat) (h : TCPh) (data : List UInt8)
theorem enc_12 : at0 (encL s d h data) 12 = (offB (20 + h.opts.size)).toNat := rfl
theorem enc_13 : at0 (encL s d h data) 13 = h.flags.toNat := rfl
theorem enc_d20 : (encL s d h data).drop 20 = h.opts.data.toList ++ data := rfl
end
/-- may a head be written? -/
def TCPh.may (h : TCPh) : Prop := h.opts.size % 4 = 0 ∧ h.opts.size ≤ 40 ∧ h.flags.toNat < 64
theorem off_eq {m : Nat} (h4 : m % 4 = 0) (h40 : m ≤ 40) : (offB (20 + m)).toNat / 16 * 4 = 20 + m ∧ (offB (20 + m)).toNat % 16 = 0 := by
  unfold offB
  rw [UInt8.toNat_ofNat']
  omega
theorem endN_enc {s d : Nat} {h : TCPh} {data : List UInt8} (hm : h.may) : endN (encL s d h data) = 20 + h.opts.size := by
  unfold endN
  rw [enc_12, (off_eq hm.1 hm.2.1).1]
theorem decE_enc {s d : Nat} {h : TCPh} {data : List UInt8} (hm : h.may) (hl : 20 + h.opts.size + data.length ≤ 65515) : decE s d (encL s d h data) = 0 := by
  have ho := off_eq hm.1 hm.2.1
  have hs := enc_sum s d h data
  have hm3 := hm.2.2
  unfold decE
  rw [if_neg (by rw [enc_len]; omega), if_neg (by rw [enc_len]; omega), if_neg (by rw [hs]; simp), enc_12, enc_13, enc_len, if_neg (by omega), if_neg (by omega)]
theorem opts_len (h : TCPh) : h.opts.data.toList.length = h.opts.size := rfl
theorem decH_enc {s d : Nat} {h : TCPh} {data : List UInt8} (ho : h.ok) (hm : h.may) : decH (encL s d h data) = h := by
  have e9 : sub (encL s d h data) 20 (endN (encL s d h data)) = h.opts.data.toList := by
    unfold sub
    rw [endN_enc hm, enc_d20, show 20 + h.opts.size - 20 = h.opts.data.toList.length by rw [opts_len]; omega, List.take_left]
  unfold decH
  rw [e9]
  obtain ⟨src, dst, seq, ack, flags, window, urgent, opts⟩ := h
  obtain ⟨o1, o2, o3, o4, o5, o6⟩ := ho
  simp only at o1 o2 o3 o4 o5 o6
  generalize hE : encL s d ⟨src, dst, seq, ack, flags, window, urgent, opts⟩ data = E
  have e1 : sub E 0 2 = be2 src := by rw [← hE]; rfl
  have e2 : sub E 2 4 = be2 dst := by rw [← hE]; rfl
  have e3 : sub E 4 8 = be4 seq := by rw [← hE]; rfl
  have e4 : sub E 8 12 = be4 ack := by rw [← hE]; rfl
  have e5 : E.getD 13 0 = flags := by rw [← hE]; rfl
  have e6 : sub E 14 16 = be2 window := by rw [← hE]; rfl
  have e7 : sub E 18 20 = be2 urgent := by rw [← hE]; rfl
  rw [e1, e2, e3, e4, e5, e6, e7, numL_be2 _ o1, numL_be2 _ o2, numL_be4 _ o3, numL_be4 _ o4, numL_be2 _ o5, numL_be2 _ o6, Nat.mod_eq_of_lt o1, Nat.mod_eq_of_lt o2, Nat.mod_eq_of_lt o5, Nat.mod_eq_of_lt o6]
theorem drop_enc {s d : Nat} {h : TCPh} {data : List UInt8} (hm : h.may) : (encL s d h data).drop (endN (encL s d h data)) = data := by
  rw [endN_enc hm, ← List.drop_drop, enc_d20, ← opts_len, List.drop_left]
end Go.Proofs.Ytengegcnocdkoaa.T
end
section
set_option linter.unusedVariables false
set_option linter.unusedSimpArgs false
namespace Go.Proofs.Ytengegcnocdkoaa.T
open Go.RowKit
theorem dec_all (s d : Nat) (t : ByteArray) (w : World) (hs : s < 4294967296) (hd : d < 4294967296) (ht : t.size ≤ 131072) : Calls Try.prog 41 #[.int .u32 (s : Int), .int .u32 (d : Int), .string t] w fun e w' => e = .returned (decV s d t.data.toList) ∧ Below w.heap.size w w' := by
  rcases Nat.lt_or_ge t.size 20 with h | h
  · exact dec_short s d t w h
  · rcases Nat.lt_or_ge 65515 t.size with h2 | h2
    · exact dec_long s d t w h2 ht
    · exact dec_any s d t w hs hd h h2
instance (h : TCPh) : Decidable h.may := by unfold TCPh.may; infer_instance
/-- what Encode answers -/
def encS (s d : Nat) (h : TCPh) (data : ByteArray) : ByteArray := if h.may ∧ 20 + h.opts.size + data.size ≤ 65515 then ⟨(encL s d h data.data.toList).toArray⟩ else ⟨#[]⟩
def encE (h : TCPh) (data : ByteArray) : Int := if h.may then if 20 + h.opts.size + data.size ≤ 65515 then 0 else 4 else 2
def encV (s d : Nat) (h : TCPh) (data : ByteArray) : Value := .tuple #[.string (encS s d h data), .int .i64 (encE h data)]
theorem enc_all (s d : Nat) (h : TCPh) (data : ByteArray) (w : World) (hs : s < 4294967296) (hd : d < 4294967296) (ho : h.ok) (hz : h.opts.size ≤ 131072) (hm : data.size ≤ 131072) :
    Calls Try.prog 28 #[.int .u32 (s : Int), .int .u32 (d : Int), .agg h.cells, .string data] w fun e w' => e = .returned (encV s d h data) ∧ Below w.heap.size w w' := by
  unfold encV encS encE
  by_cases h1 : h.may
  · by_cases h2 : 20 + h.opts.size + data.size ≤ 65515
    · rw [if_pos ⟨h1, h2⟩, if_pos h1, if_pos h2]; exact enc_ok s d h data w hs hd ho h1.1 h1.2.1 h1.2.2 h2
    · rw [if_neg (fun q => h2 q.2), if_pos h1, if_neg h2]; exact enc_long s d h data w h1.1 h1.2.1 h1.2.2 (by omega) hm
  · rw [if_neg (fun q => h1 q.1), if_neg h1]; exact enc_arg s d h data w h1 hz
theorem ref_enc_all (s d : Nat) (h : TCPh) (data : ByteArray) (w : World) (hs : s < 4294967296) (hd : d < 4294967296) (ho : h.ok) (hz : h.opts.size ≤ 131072) (hm : data.size ≤ 131072) :
    Calls Try.prog 31 #[.int .u32 (s : Int), .int .u32 (d : Int), .agg h.cells, .string data] w fun e w' => e = .returned (encV s d h data) ∧ Below w.heap.size w w' := by
  unfold encV encS encE
  by_cases h1 : h.may
  · by_cases h2 : 20 + h.opts.size + data.size ≤ 65515
    · rw [if_pos ⟨h1, h2⟩, if_pos h1, if_pos h2]; exact ref_enc_ok s d h data w hs hd ho h1.1 h1.2.1 h1.2.2 h2
    · rw [if_neg (fun q => h2 q.2), if_pos h1, if_neg h2]; exact ref_enc_long s d h data w h1.1 h1.2.1 h1.2.2 (by omega) hm
  · rw [if_neg (fun q => h1 q.1), if_neg h1]; exact ref_enc_arg s d h data w h1 hz
end Go.Proofs.Ytengegcnocdkoaa.T
end
