/- Contracts of layer 6 (tcp): Encode. -/
import Derived.Test.YtpmcdpbolcmhgaaTcpAhead
set_option linter.unusedVariables false
set_option linter.unusedSimpArgs false
namespace Go.Proofs.Ytpmcdpbolcmhgaa
open Go.RowKit Go.BigFrame

set_option maxRecDepth 100000 in
set_option maxHeartbeats 4000000 in
theorem enc_ok (s d : Nat) (h : TCPh) (data : ByteArray) (w : World) (hs : s < 4294967296) (hd : d < 4294967296) (ho : h.ok) (hm : h.opts.size % 4 = 0) (hm2 : h.opts.size ≤ 40) (hf : h.flags.toNat < 64) (hl : 20 + h.opts.size + data.size ≤ 65515) :
    Calls Try.prog 11 #[.int .u32 (s : Int), .int .u32 (d : Int), .agg h.cells, .string data] w fun e w' => e = .returned (.tuple #[.string ⟨(encL s d h data.data.toList).toArray⟩, .int .i64 0]) ∧ Below w.heap.size w w' := by
  obtain ⟨src, dst, seq, ack, flags, window, urgent, opts⟩ := h
  obtain ⟨o1, o2, o3, o4, o5, o6⟩ := ho
  simp only at o1 o2 o3 o4 o5 o6 hm hm2 hf hl
  unfold TCPh.cells
  simp only
  obtain ⟨n, hn⟩ : ∃ n, n = 20 + opts.size := ⟨_, rfl⟩
  have e1 : (20 : Int) + (opts.size : Int) = (n : Int) := by omega
  obtain ⟨m, hmm⟩ : ∃ m, m = n + data.size := ⟨_, rfl⟩
  have e2 : (n : Int) + (data.size : Int) = (m : Int) := by omega
  have hm3 : m ≤ 65515 := by omega
  have i1 : (n : Int) % 4 = 0 := by omega
  have i2 : (opts.size : Int) ≤ 40 := by omega
  have i3 : (flags.toNat : Int) / 64 = 0 := by omega
  have i4 : (m : Int) ≤ 65515 := by omega
  have b1 := fun W => high16 src W o1
  have b2 := fun W => high16 dst W o2
  have b3 := fun W => high32 seq W o3
  have b4 := fun W => high32 ack W o4
  have b5 := fun W => high16 window W o5
  have b6 := fun W => high16 urgent W o6
  have b7 := fun W => ahead_ok s d m W hs hd (by omega)
  have B1 := Lib.hid b1
  clear b1
  have B2 := Lib.hid b2
  clear b2
  have B3 := Lib.hid b3
  clear b3
  have B4 := Lib.hid b4
  clear b4
  have B5 := Lib.hid b5
  clear b5
  have B6 := Lib.hid b6
  clear b6
  have B7 := Lib.hid b7
  clear b7
  have Hn := Lib.hid hn
  clear hn
  have Hmm := Lib.hid hmm
  clear hmm
  have hx := Blk.new w 25 #[.int .u16 (src : Int), .int .u16 (dst : Int), .int .u32 (seq : Int), .int .u32 (ack : Int), .int .u8 (flags.toNat : Int), .int .u16 (window : Int), .int .u16 (urgent : Int), .string opts]
  have hb0 : Below w.heap.size w (w.alloc (.cells #[.int .u16 (src : Int), .int .u16 (dst : Int), .int .u32 (seq : Int), .int .u32 (ack : Int), .int .u8 (flags.toNat : Int), .int .u16 (window : Int), .int .u16 (urgent : Int), .string opts] 25)) := (Below.refl _ _).alloc (Nat.le_refl _) _
  have Hx := Lib.hid hx
  clear hx
  have Hb0 := Lib.hid hb0
  clear hb0
  go_enter Try.func11, Try.ntmps11
  go_upto_region 6 with fail
  generalize w.alloc _ = W at *
  obtain ⟨x, hxe⟩ : ∃ x, x = w.heap.size := ⟨_, rfl⟩
  rw [← hxe] at Hx ⊢
  clear hxe
  obtain ⟨cs, hcs⟩ : ∃ cs : Array Value, cs = #[.int .u16 (src : Int), .int .u16 (dst : Int), .int .u32 (seq : Int), .int .u32 (ack : Int), .int .u8 (flags.toNat : Int), .int .u16 (window : Int), .int .u16 (urgent : Int), .string opts] := ⟨_, rfl⟩
  rw [← hcs] at Hx
  have hS0 : KeepS w x 25 cs W := ⟨Hb0.out, Hx.out⟩
  have ne : Nonempty (Cls (KeepS w x 25 cs)) := ⟨⟨W, hS0⟩⟩
  have k0 : ∀ y : Cls (KeepS w x 25 cs), y.w.cell? ⟨x, 0, none⟩ = some (.int .u16 (src : Int)) := fun y => (y.h.2.cell 0).trans (by rw [hcs]; rfl)
  have k1 : ∀ y : Cls (KeepS w x 25 cs), y.w.cell? ⟨x, 1, none⟩ = some (.int .u16 (dst : Int)) := fun y => (y.h.2.cell 1).trans (by rw [hcs]; rfl)
  have k2 : ∀ y : Cls (KeepS w x 25 cs), y.w.cell? ⟨x, 2, none⟩ = some (.int .u32 (seq : Int)) := fun y => (y.h.2.cell 2).trans (by rw [hcs]; rfl)
  have k3 : ∀ y : Cls (KeepS w x 25 cs), y.w.cell? ⟨x, 3, none⟩ = some (.int .u32 (ack : Int)) := fun y => (y.h.2.cell 3).trans (by rw [hcs]; rfl)
  have k4 : ∀ y : Cls (KeepS w x 25 cs), y.w.cell? ⟨x, 4, none⟩ = some (.int .u8 (flags.toNat : Int)) := fun y => (y.h.2.cell 4).trans (by rw [hcs]; rfl)
  have k5 : ∀ y : Cls (KeepS w x 25 cs), y.w.cell? ⟨x, 5, none⟩ = some (.int .u16 (window : Int)) := fun y => (y.h.2.cell 5).trans (by rw [hcs]; rfl)
  have k6 : ∀ y : Cls (KeepS w x 25 cs), y.w.cell? ⟨x, 6, none⟩ = some (.int .u16 (urgent : Int)) := fun y => (y.h.2.cell 6).trans (by rw [hcs]; rfl)
  have k7 : ∀ y : Cls (KeepS w x 25 cs), y.w.cell? ⟨x, 7, none⟩ = some (.string opts) := fun y => (y.h.2.cell 7).trans (by rw [hcs]; rfl)
  clear hcs
  have cf : ∀ (vals : Array Value) (w : World), (callFunc 25 vals).run Try.prog w = .ok (.enter 25 vals) w := fun _ _ => by kernel_rfl
  have cf4 : ∀ (vals : Array Value) (w : World), (callFunc 26 vals).run Try.prog w = .ok (.enter 26 vals) w := fun _ _ => by kernel_rfl
  have ob : ((offB n).toNat : Int) = (n : Int) / 4 * 16 := by unfold offB; rw [u8b]; have := Hn.out; omega
  have wr1 : IntKind.i64.wrap ((n : Int) / 4) = (n : Int) / 4 := by rw [IntKind.wrap_i64]; omega
  have wr2 : IntKind.i64.wrap ((n : Int) / 4 * 16) = (n : Int) / 4 * 16 := by rw [IntKind.wrap_i64]; omega
  have wr3 : IntKind.u8.wrap ((n : Int) / 4 * 16) = ((offB n).toNat : Int) := by rw [IntKind.wrap_u8, ob]; omega
  have r1 : ∀ W : World, (Instr.buildSlice 38 2 #[(0, .int .u8 ((offB n).toNat : Int)), (1, .int .u8 (flags.toNat : Int))]).run Try.prog W = .ok (.slice (some ⟨W.heap.size, 0, none⟩) 2 2) (W.alloc (.cells #[.int .u8 ((offB n).toNat : Int), .int .u8 (flags.toNat : Int)] 5)) := fun _ => by kernel_rfl
  have q1 : ∀ W u, isNew 5 #[.int .u8 ((offB n).toNat : Int), .int .u8 (flags.toNat : Int)] 2 u W → (convert 38 9 u).run Try.prog W = .ok (.string ⟨#[offB n, flags]⟩) W := by
    rintro W u ⟨g, rfl, h⟩
    exact str_two (offB n) flags W g 2 h
  have Cf := Lib.hid cf
  clear cf
  have Cf4 := Lib.hid cf4
  clear cf4
  have R1 := Lib.hid r1
  clear r1
  have Q1 := Lib.hid q1
  clear q1
  have Ob := Lib.hid ob
  clear ob
  have z2 : ∀ n, (be2 n).length = 2 := fun _ => rfl
  have z4 : ∀ n, (be4 n).length = 4 := fun _ => rfl
  refine wp_region_flat (KeepS w x 25 cs) (fun w w' => Below w.heap.size w w') (by kernel_rfl) (by kernel_rfl) (fun w => Below.refl _ _) hS0.drew ?_
  clear hS0
  repeat (first
    | (refine flat_quiet (fun w => Below.refl _ _) rfl rfl rfl rfl ?_; intro K hK; go_big_quiet_op; go_big_quiet_on)
    | (refine flat_call Cf.out _ ?_ rfl rfl rfl _ (fun y => below_call KeepS.below y (B1.out _)) W ?_; (focus (simp only [List.map_toArray, List.map_cons, List.map_nil]; rfl)); intro K hK; go_big_quiet_op; go_big_quiet_on)
    | (refine flat_call Cf.out _ ?_ rfl rfl rfl _ (fun y => below_call KeepS.below y (B2.out _)) W ?_; (focus (simp only [List.map_toArray, List.map_cons, List.map_nil]; rfl)); intro K hK; go_big_quiet_op; go_big_quiet_on)
    | (refine flat_call Cf4.out _ ?_ rfl rfl rfl _ (fun y => below_call KeepS.below y (B3.out _)) W ?_; (focus (simp only [List.map_toArray, List.map_cons, List.map_nil]; rfl)); intro K hK; go_big_quiet_op; go_big_quiet_on)
    | (refine flat_call Cf4.out _ ?_ rfl rfl rfl _ (fun y => below_call KeepS.below y (B4.out _)) W ?_; (focus (simp only [List.map_toArray, List.map_cons, List.map_nil]; rfl)); intro K hK; go_big_quiet_op; go_big_quiet_on)
    | (refine flat_call Cf.out _ ?_ rfl rfl rfl _ (fun y => below_call KeepS.below y (B5.out _)) W ?_; (focus (simp only [List.map_toArray, List.map_cons, List.map_nil]; rfl)); intro K hK; go_big_quiet_op; go_big_quiet_on)
    | (refine flat_build (E := 5) _ ?_ _ R1.out KeepS.below rfl rfl rfl W ?_; (focus (simp only [List.map_toArray, List.map_cons, List.map_nil]; rfl)); intro K hK; go_big_quiet_op; go_big_quiet_on)
    | (refine flat_conv ?_ List.mem_cons_self _ Q1.out (fun w => Below.refl _ _) rfl rfl rfl W ?_; (focus (simp)); intro K hK; go_big_quiet_op; go_big_quiet_on))
  refine flat_nil ?_
  intro W7 hW7 x19 _
  simp only [endF, Act.put, List.setIfInBounds_toArray, List.set_cons_succ, List.set_cons_zero]
  have hfront : (⟨(be2 src).toArray⟩ : ByteArray) ++ ⟨(be2 dst).toArray⟩ ++ ⟨(be4 seq).toArray⟩ ++ ⟨(be4 ack).toArray⟩ ++ ⟨#[offB n, flags]⟩ ++ ⟨(be2 window).toArray⟩ = ⟨(frontL ⟨src, dst, seq, ack, flags, window, urgent, opts⟩).toArray⟩ := by
    rw [show (⟨#[offB n, flags]⟩ : ByteArray) = ⟨[offB n, flags].toArray⟩ from rfl, str_cat, str_cat, str_cat, str_cat, str_cat, Hn.out]
    rfl
  rw [hfront]
  clear hfront
  obtain ⟨fr, hfr⟩ : ∃ fr : List UInt8, fr = frontL ⟨src, dst, seq, ack, flags, window, urgent, opts⟩ := ⟨_, rfl⟩
  rw [← hfr]
  have zf : fr.length = 16 := by rw [hfr]; rfl
  have Hfr := Lib.hid hfr
  clear hfr
  clear k0 k1 k2 k3 k4 k5
  go_upto_region 7 with fail
  refine wp_region_flat (KeepS w x 25 cs) (fun w w' => Below w.heap.size w w') (by kernel_rfl) (by kernel_rfl) (fun w => Below.refl _ _) hW7.drew ?_
  repeat (first
    | (refine flat_quiet (fun w => Below.refl _ _) rfl rfl rfl rfl ?_; intro K hK; go_big_quiet_op; go_big_quiet_on)
    | (refine flat_call Cf.out _ ?_ rfl rfl rfl _ (fun y => below_call KeepS.below y (B6.out _)) W ?_; (focus (simp only [List.map_toArray, List.map_cons, List.map_nil]; rfl)); intro K hK; go_big_quiet_op; go_big_quiet_on))
  refine flat_nil ?_
  intro W8 hW8
  simp only [endF]
  have hback : (⟨(be2 urgent).toArray⟩ : ByteArray) ++ opts ++ data = ⟨(backL ⟨src, dst, seq, ack, flags, window, urgent, opts⟩ data.data.toList).toArray⟩ := by
    conv => lhs; rw [str_of opts, str_of data]
    rw [str_cat, str_cat]; rfl
  rw [hback]
  clear hback
  obtain ⟨bk, hbk⟩ : ∃ bk : List UInt8, bk = backL ⟨src, dst, seq, ack, flags, window, urgent, opts⟩ data.data.toList := ⟨_, rfl⟩
  rw [← hbk]
  have zb : bk.length = 2 + opts.size + data.size := by rw [hbk, backL_length]; rfl
  clear k6 k7 ne
  obtain ⟨ah, hah⟩ : ∃ ah : List UInt8, ah = aheadL s d m := ⟨_, rfl⟩
  have za : ah.length = 12 := by rw [hah]; rfl
  rw [← hah] at B7
  obtain ⟨sm, hsm⟩ : ∃ sm, sm = sumL s d ⟨src, dst, seq, ack, flags, window, urgent, opts⟩ data.data.toList := ⟨_, rfl⟩
  have hsl : sm < 65536 := by rw [hsm]; exact sumL_lt _ _ _ _
  have hm' : 20 + opts.size + data.data.toList.length = m := by rw [Hmm.out, Hn.out]; rfl
  have hsv : ((ofL (catS [⟨ah.toArray⟩, ⟨fr.toArray⟩, ⟨bk.toArray⟩]) : Nat) : Int) = (sm : Int) := by
    have : catS [⟨ah.toArray⟩, ⟨fr.toArray⟩, ⟨bk.toArray⟩] = ah ++ fr ++ bk := by simp [catS]
    rw [this, hsm, Hfr.out, hbk, hah, ← hm']
    rfl
  have ol := fun W g (h : Blk W g 9 #[.string ⟨ah.toArray⟩, .string ⟨fr.toArray⟩, .string ⟨bk.toArray⟩]) => of_lit [⟨ah.toArray⟩, ⟨fr.toArray⟩, ⟨bk.toArray⟩] (sm : Int) hsv (by
    intro s hs
    simp only [List.mem_cons, List.not_mem_nil, or_false] at hs
    rcases hs with rfl | rfl | rfl
    · show ah.length ≤ maxLen; rw [za]; decide
    · show fr.length ≤ maxLen; rw [zf]; decide
    · show bk.length ≤ maxLen; rw [zb]; have : (2 : Nat) + opts.size + data.size ≤ 65535 := by omega
      exact Nat.le_trans this (by decide)) g 3 3 W rfl (by omega) h
  have Hah := Lib.hid hah
  clear hah
  have Hbk := Lib.hid hbk
  clear hbk
  have Hsm := Lib.hid hsm
  clear hsm
  have Ol := Lib.hid ol
  clear ol
  have Hm' := Lib.hid hm'
  clear hm'
  clear hsv
  go_wp2_with fail
  with_reducible refine (B7.out _).mono ?_
  rintro e w8 ⟨rfl, hb8⟩
  go_wp2_with fail
  with_reducible refine (Ol.out _ _ (Blk.new _ _ _)).mono ?_
  rintro e w9 ⟨rfl, hb9⟩
  go_wp2_with fail
  (with_reducible refine (high16 sm _ hsl).mono ?_)
  rintro e w10 ⟨rfl, hb10⟩
  go_wp2
  go_ret2
  refine ⟨?_, ?_⟩
  · have e2 : (⟨fr.toArray⟩ : ByteArray) ++ ⟨(be2 sm).toArray⟩ ++ ⟨bk.toArray⟩ = ⟨(encL s d ⟨src, dst, seq, ack, flags, window, urgent, opts⟩ data.data.toList).toArray⟩ := by
      rw [str_cat, str_cat]
      unfold encL rawL
      rw [← Hfr.out, ← Hbk.out, ← Hsm.out]
    rw [← e2]
    rfl
  · have h0 : Below w.heap.size w W8 := hW8.1
    have h1 : Below W8.heap.size W8 w10 := hb8.trans ((((Below.refl _ _).alloc (Nat.le_refl _) _).trans ((hb9.mono (by simp)).trans (hb10.mono (by have := hb9.size; simp at this; omega)))).mono hb8.size)
    exact h0.trans (h1.mono h0.size)
end Go.Proofs.Ytpmcdpbolcmhgaa
