/- Contracts of layer 5 (ip), second part: Encode. -/
import Derived.Test.YtbfmgdcnpefciaaIpPlain
import Derived.Test.YtbfmgdcnpefciaaFlat
import Derived.Deep.DeepCutAuto
set_option linter.unusedVariables false
set_option linter.unusedSimpArgs false
namespace Go.Proofs.Ytbfmgdcnpefciaa
open Go.RowKit Go.BigFrame

theorem str_cat (a b : List UInt8) : (⟨a.toArray⟩ : ByteArray) ++ ⟨b.toArray⟩ = ⟨(a ++ b).toArray⟩ := by
  apply ByteArray.ext
  rw [ByteArray.data_append]
  simp
theorem str_four (a b c d : UInt8) (W : World) (g k : Nat) (h : Blk W g 5 #[u8v a, u8v b, u8v c, u8v d]) : (convert 42 9 (.slice (some ⟨g, 0, none⟩) 4 k)).run Try.prog W = .ok (.string ⟨#[a, b, c, d]⟩) W :=
  run_bytes_back W ⟨g, 0, none⟩ 4 k [a, b, c, d] rfl (by
    intro j hj
    rw [add_plain, Nat.zero_add, h.cell j]
    match j, hj with
    | 0, _ => rfl
    | 1, _ => rfl
    | 2, _ => rfl
    | 3, _ => rfl)
theorem conv_two (a b : UInt8) (x y : Int) (hx : x = (a.toNat : Int)) (hy : y = (b.toNat : Int)) (W : World) (g c : Nat) (h0 : W.cell? ⟨g, 0, none⟩ = some (.int .u8 x)) (h1 : W.cell? ⟨g, 1, none⟩ = some (.int .u8 y)) :
    (convert 42 9 (.slice (some ⟨g, 0, none⟩) 2 c)).run Try.prog W = .ok (.string ⟨#[a, b]⟩) W := by
  subst hx hy
  exact run_bytes_back W ⟨g, 0, none⟩ 2 c [a, b] rfl (by
    intro j hj
    rw [add_plain, Nat.zero_add]
    match j, hj with
    | 0, _ => exact h0
    | 1, _ => exact h1)
theorem conv_four (a b d e : UInt8) (x y z u : Int) (hx : x = (a.toNat : Int)) (hy : y = (b.toNat : Int)) (hz : z = (d.toNat : Int)) (hu : u = (e.toNat : Int)) (W : World) (g c : Nat) (h0 : W.cell? ⟨g, 0, none⟩ = some (.int .u8 x)) (h1 : W.cell? ⟨g, 1, none⟩ = some (.int .u8 y))
    (h2 : W.cell? ⟨g, 2, none⟩ = some (.int .u8 z)) (h3 : W.cell? ⟨g, 3, none⟩ = some (.int .u8 u)) :
    (convert 42 9 (.slice (some ⟨g, 0, none⟩) 4 c)).run Try.prog W = .ok (.string ⟨#[a, b, d, e]⟩) W := by
  subst hx hy hz hu
  exact run_bytes_back W ⟨g, 0, none⟩ 4 c [a, b, d, e] rfl (by
    intro j hj
    rw [add_plain, Nat.zero_add]
    match j, hj with
    | 0, _ => exact h0
    | 1, _ => exact h1
    | 2, _ => exact h2
    | 3, _ => exact h3)
theorem bcell {W w1 : World} (hb : Below W.heap.size W w1) : (∀ b o, b < W.heap.size → w1.cell? ⟨b, o, none⟩ = W.cell? ⟨b, o, none⟩) ∧ (∀ b o, b < W.heap.size → w1.frozen? ⟨b, o, none⟩ = W.frozen? ⟨b, o, none⟩) :=
  ⟨fun b o h => hb.cell (p := ⟨b, o, none⟩) h, fun b o h => hb.frozen (p := ⟨b, o, none⟩) h⟩

set_option maxRecDepth 100000 in
set_option maxHeartbeats 4000000 in
theorem enc_ok (h : IPh) (load : ByteArray) (w : World) (ho : h.ok) (hl : 20 + load.size ≤ 65535) :
    Calls Try.prog 24 #[.agg h.cells, .string load] w fun e w' => e = .returned (.tuple #[.string ⟨(encL h load.data.toList).toArray⟩, .int .i64 0]) ∧ Below w.heap.size w w' := by
  obtain ⟨src, dst, proto, ttl, tos, id, df⟩ := h
  obtain ⟨o1, o2, o3⟩ := ho
  simp only at o1 o2 o3
  unfold IPh.cells
  simp only
  obtain ⟨n, hn⟩ : ∃ n, n = 20 + load.size := ⟨_, rfl⟩
  have e1 : (20 : Int) + (load.size : Int) = (n : Int) := by omega
  have hn2 : n ≤ 65535 := by omega
  have b1 := fun W => high16 n W (by omega)
  have b2 := fun W => high16 id W (by omega)
  have b3 := fun W => high32 src W (by omega)
  have b4 := fun W => high32 dst W (by omega)
  have i1 : (load.size : Int) ≤ 65515 := by omega
  have B1 := Lib.hid b1
  clear b1
  have B2 := Lib.hid b2
  clear b2
  have B3 := Lib.hid b3
  clear b3
  have B4 := Lib.hid b4
  clear b4
  have Hn := Lib.hid hn
  clear hn
  have hx := Blk.new w 48 #[.int .u32 (src : Int), .int .u32 (dst : Int), .int .u8 (proto.toNat : Int), .int .u8 (ttl.toNat : Int), .int .u8 (tos.toNat : Int), .int .u16 (id : Int), .bool df]
  have hb0 : Below w.heap.size w (w.alloc (.cells #[.int .u32 (src : Int), .int .u32 (dst : Int), .int .u8 (proto.toNat : Int), .int .u8 (ttl.toNat : Int), .int .u8 (tos.toNat : Int), .int .u16 (id : Int), .bool df] 48)) := (Below.refl _ _).alloc (Nat.le_refl _) _
  have Hx := Lib.hid hx
  clear hx
  have Hb0 := Lib.hid hb0
  clear hb0
  cases df
  · go_enter Try.func24, Try.ntmps24
    go_upto_region 7 with fail
    generalize w.alloc _ = W at *
    obtain ⟨x, hxe⟩ : ∃ x, x = w.heap.size := ⟨_, rfl⟩
    rw [← hxe] at Hx ⊢
    clear hxe
    have hS0 : KeepS w x 48 #[.int .u32 (src : Int), .int .u32 (dst : Int), .int .u8 (proto.toNat : Int), .int .u8 (ttl.toNat : Int), .int .u8 (tos.toNat : Int), .int .u16 (id : Int), .bool false] W := ⟨Hb0.out, Hx.out⟩
    have ne : Nonempty (Cls (KeepS w x 48 #[.int .u32 (src : Int), .int .u32 (dst : Int), .int .u8 (proto.toNat : Int), .int .u8 (ttl.toNat : Int), .int .u8 (tos.toNat : Int), .int .u16 (id : Int), .bool false])) := ⟨⟨W, hS0⟩⟩
    have k2 : ∀ y : Cls (KeepS w x 48 #[.int .u32 (src : Int), .int .u32 (dst : Int), .int .u8 (proto.toNat : Int), .int .u8 (ttl.toNat : Int), .int .u8 (tos.toNat : Int), .int .u16 (id : Int), .bool false]), y.w.cell? ⟨x, 2, none⟩ = some (.int .u8 (proto.toNat : Int)) := fun y => y.h.2.cell 2
    have k3 : ∀ y : Cls (KeepS w x 48 #[.int .u32 (src : Int), .int .u32 (dst : Int), .int .u8 (proto.toNat : Int), .int .u8 (ttl.toNat : Int), .int .u8 (tos.toNat : Int), .int .u16 (id : Int), .bool false]), y.w.cell? ⟨x, 3, none⟩ = some (.int .u8 (ttl.toNat : Int)) := fun y => y.h.2.cell 3
    have k4 : ∀ y : Cls (KeepS w x 48 #[.int .u32 (src : Int), .int .u32 (dst : Int), .int .u8 (proto.toNat : Int), .int .u8 (ttl.toNat : Int), .int .u8 (tos.toNat : Int), .int .u16 (id : Int), .bool false]), y.w.cell? ⟨x, 4, none⟩ = some (.int .u8 (tos.toNat : Int)) := fun y => y.h.2.cell 4
    have k5 : ∀ y : Cls (KeepS w x 48 #[.int .u32 (src : Int), .int .u32 (dst : Int), .int .u8 (proto.toNat : Int), .int .u8 (ttl.toNat : Int), .int .u8 (tos.toNat : Int), .int .u16 (id : Int), .bool false]), y.w.cell? ⟨x, 5, none⟩ = some (.int .u16 (id : Int)) := fun y => y.h.2.cell 5
    have cf : ∀ (vals : Array Value) (w : World), (callFunc 29 vals).run Try.prog w = .ok (.enter 29 vals) w := fun _ _ => by kernel_rfl
    have r1 : ∀ W : World, (Instr.buildSlice 42 2 #[(0, .int .u8 69), (1, .int .u8 (tos.toNat : Int))]).run Try.prog W = .ok (.slice (some ⟨W.heap.size, 0, none⟩) 2 2) (W.alloc (.cells #[.int .u8 69, .int .u8 (tos.toNat : Int)] 5)) := fun _ => by kernel_rfl
    have r2 : ∀ W : World, (Instr.buildSlice 42 4 #[(0, .int .u8 0), (1, .int .u8 0), (2, .int .u8 (ttl.toNat : Int)), (3, .int .u8 (proto.toNat : Int))]).run Try.prog W = .ok (.slice (some ⟨W.heap.size, 0, none⟩) 4 4) (W.alloc (.cells #[.int .u8 0, .int .u8 0, .int .u8 (ttl.toNat : Int), .int .u8 (proto.toNat : Int)] 5)) := fun _ => by kernel_rfl
    have q1 : ∀ W u, isNew 5 #[.int .u8 69, .int .u8 (tos.toNat : Int)] 2 u W → (convert 42 9 u).run Try.prog W = .ok (.string ⟨#[69, tos]⟩) W := by
      rintro W u ⟨g, rfl, h⟩
      exact str_two 69 tos W g 2 h
    have q2 : ∀ W u, isNew 5 #[.int .u8 0, .int .u8 0, .int .u8 (ttl.toNat : Int), .int .u8 (proto.toNat : Int)] 4 u W → (convert 42 9 u).run Try.prog W = .ok (.string ⟨#[0, 0, ttl, proto]⟩) W := by
      rintro W u ⟨g, rfl, h⟩
      exact str_four 0 0 ttl proto W g 4 h
    have Cf := Lib.hid cf
    clear cf
    have R1 := Lib.hid r1
    clear r1
    have R2 := Lib.hid r2
    clear r2
    have Q1 := Lib.hid q1
    clear q1
    have Q2 := Lib.hid q2
    clear q2
    have z2 : ∀ n, (be2 n).length = 2 := fun _ => rfl
    have z4 : ∀ n, (be4 n).length = 4 := fun _ => rfl
    refine wp_region_flat (KeepS w x 48 #[.int .u32 (src : Int), .int .u32 (dst : Int), .int .u8 (proto.toNat : Int), .int .u8 (ttl.toNat : Int), .int .u8 (tos.toNat : Int), .int .u16 (id : Int), .bool false]) (fun w w' => Below w.heap.size w w') (by kernel_rfl) (by kernel_rfl) (fun w => Below.refl _ _) hS0.drew ?_
    clear hS0
    repeat (first
      | (refine flat_quiet (fun w => Below.refl _ _) rfl rfl rfl rfl ?_; intro K hK; go_big_quiet_op; go_big_quiet_on)
      | (refine flat_call Cf.out _ ?_ rfl rfl rfl _ (fun y => below_call KeepS.below y (B1.out _)) W ?_; (focus (simp only [List.map_toArray, List.map_cons, List.map_nil]; rfl)); intro K hK; go_big_quiet_op; go_big_quiet_on)
      | (refine flat_call Cf.out _ ?_ rfl rfl rfl _ (fun y => below_call KeepS.below y (B2.out _)) W ?_; (focus (simp only [List.map_toArray, List.map_cons, List.map_nil]; rfl)); intro K hK; go_big_quiet_op; go_big_quiet_on)
      | (refine flat_build (E := 5) _ ?_ _ R1.out KeepS.below rfl rfl rfl W ?_; (focus (simp only [List.map_toArray, List.map_cons, List.map_nil]; rfl)); intro K hK; go_big_quiet_op; go_big_quiet_on)
      | (refine flat_build (E := 5) _ ?_ _ R2.out KeepS.below rfl rfl rfl W ?_; (focus (simp only [List.map_toArray, List.map_cons, List.map_nil]; rfl)); intro K hK; go_big_quiet_op; go_big_quiet_on)
      | (refine flat_conv ?_ List.mem_cons_self _ Q1.out (fun w => Below.refl _ _) rfl rfl rfl W ?_; (focus (simp)); intro K hK; go_big_quiet_op; go_big_quiet_on)
      | (refine flat_conv ?_ List.mem_cons_self _ Q2.out (fun w => Below.refl _ _) rfl rfl rfl W ?_; (focus (simp)); intro K hK; go_big_quiet_op; go_big_quiet_on))
    refine flat_nil ?_
    intro W7 hW7 x34 _ x19 _
    simp only [endF, Act.put, List.setIfInBounds_toArray, List.set_cons_succ, List.set_cons_zero]
    have hfront : (⟨#[69, tos]⟩ : ByteArray) ++ ⟨(be2 n).toArray⟩ ++ ⟨(be2 id).toArray⟩ ++ ⟨#[0, 0, ttl, proto]⟩ = ⟨(frontL ⟨src, dst, proto, ttl, tos, id, false⟩ n).toArray⟩ := by
      rw [show (⟨#[69, tos]⟩ : ByteArray) = ⟨[69, tos].toArray⟩ from rfl, show (⟨#[0, 0, ttl, proto]⟩ : ByteArray) = ⟨[0, 0, ttl, proto].toArray⟩ from rfl, str_cat, str_cat, str_cat]
      rfl
    rw [hfront]
    obtain ⟨fr, hfr⟩ : ∃ fr : List UInt8, fr = frontL ⟨src, dst, proto, ttl, tos, id, false⟩ n := ⟨_, rfl⟩
    rw [← hfr]
    have zf : fr.length = 10 := by rw [hfr]; rfl
    have Hfr := Lib.hid hfr
    clear hfr
    clear hfront
    clear k2 k3 k4 k5
    have k0 : ∀ y : Cls (KeepS w x 48 #[.int .u32 (src : Int), .int .u32 (dst : Int), .int .u8 (proto.toNat : Int), .int .u8 (ttl.toNat : Int), .int .u8 (tos.toNat : Int), .int .u16 (id : Int), .bool false]), y.w.cell? ⟨x, 0, none⟩ = some (.int .u32 (src : Int)) := fun y => y.h.2.cell 0
    have k1 : ∀ y : Cls (KeepS w x 48 #[.int .u32 (src : Int), .int .u32 (dst : Int), .int .u8 (proto.toNat : Int), .int .u8 (ttl.toNat : Int), .int .u8 (tos.toNat : Int), .int .u16 (id : Int), .bool false]), y.w.cell? ⟨x, 1, none⟩ = some (.int .u32 (dst : Int)) := fun y => y.h.2.cell 1
    have cf4 : ∀ (vals : Array Value) (w : World), (callFunc 30 vals).run Try.prog w = .ok (.enter 30 vals) w := fun _ _ => by kernel_rfl
    have Cf4 := Lib.hid cf4
    clear cf4
    go_upto_region 8 with fail
    refine wp_region_flat (KeepS w x 48 #[.int .u32 (src : Int), .int .u32 (dst : Int), .int .u8 (proto.toNat : Int), .int .u8 (ttl.toNat : Int), .int .u8 (tos.toNat : Int), .int .u16 (id : Int), .bool false]) (fun w w' => Below w.heap.size w w') (by kernel_rfl) (by kernel_rfl) (fun w => Below.refl _ _) hW7.drew ?_
    repeat (first
      | (refine flat_quiet (fun w => Below.refl _ _) rfl rfl rfl rfl ?_; intro K hK; go_big_quiet_op; go_big_quiet_on)
      | (refine flat_call Cf4.out _ ?_ rfl rfl rfl _ (fun y => below_call KeepS.below y (B3.out _)) W ?_; (focus (simp only [List.map_toArray, List.map_cons, List.map_nil]; rfl)); intro K hK; go_big_quiet_op; go_big_quiet_on)
      | (refine flat_call Cf4.out _ ?_ rfl rfl rfl _ (fun y => below_call KeepS.below y (B4.out _)) W ?_; (focus (simp only [List.map_toArray, List.map_cons, List.map_nil]; rfl)); intro K hK; go_big_quiet_op; go_big_quiet_on))
    refine flat_nil ?_
    intro W8 hW8
    simp only [endF]
    clear k0 k1 ne
    go_wp2_with fail
    have hback : (⟨(be4 src).toArray⟩ : ByteArray) ++ ⟨(be4 dst).toArray⟩ = ⟨(backL ⟨src, dst, proto, ttl, tos, id, false⟩).toArray⟩ := by rw [str_cat]; rfl
    rw [hback]
    obtain ⟨bk, hbk⟩ : ∃ bk : List UInt8, bk = backL ⟨src, dst, proto, ttl, tos, id, false⟩ := ⟨_, rfl⟩
    rw [← hbk]
    have zb : bk.length = 8 := by rw [hbk]; rfl
    obtain ⟨sm, hsm⟩ : ∃ sm, sm = sumL ⟨src, dst, proto, ttl, tos, id, false⟩ n := ⟨_, rfl⟩
    have hsl : sm < 65536 := by rw [hsm]; exact sumL_lt _ _
    have hsv : ((ofL (catS [⟨fr.toArray⟩, ⟨bk.toArray⟩]) : Nat) : Int) = (sm : Int) := by
      have : catS [⟨fr.toArray⟩, ⟨bk.toArray⟩] = fr ++ bk := by simp [catS]
      rw [this, hsm, Hfr.out, hbk]
      rfl
    have ol := fun W g (h : Blk W g 9 #[.string ⟨fr.toArray⟩, .string ⟨bk.toArray⟩]) => of_lit [⟨fr.toArray⟩, ⟨bk.toArray⟩] (sm : Int) hsv (by
      intro s hs
      simp only [List.mem_cons, List.not_mem_nil, or_false] at hs
      rcases hs with rfl | rfl
      · show fr.length ≤ maxLen; rw [zf]; decide
      · show bk.length ≤ maxLen; rw [zb]; decide) g 2 2 W rfl (by omega) h
    have Hbk := Lib.hid hbk
    clear hbk
    have Hsm := Lib.hid hsm
    clear hsm
    have Ol := Lib.hid ol
    clear ol
    clear hback hsv
    with_reducible refine (Ol.out _ _ (Blk.new _ _ _)).mono ?_
    rintro e w9 ⟨rfl, hb9⟩
    go_wp2_with fail
    (with_reducible refine (high16 sm _ hsl).mono ?_)
    rintro e w10 ⟨rfl, hb10⟩
    go_wp2
    go_ret2
    refine ⟨?_, ?_⟩
    · have e2 : (⟨fr.toArray⟩ : ByteArray) ++ ⟨(be2 sm).toArray⟩ ++ ⟨bk.toArray⟩ ++ load = ⟨(encL ⟨src, dst, proto, ttl, tos, id, false⟩ load.data.toList).toArray⟩ := by
        have el : load = ⟨load.data.toList.toArray⟩ := by simp
        rw [el, str_cat, str_cat, str_cat]
        unfold encL headL
        rw [show (20 + load.data.toList.length) = n from Hn.out.symm, ← Hfr.out, ← Hbk.out, ← Hsm.out]
      rw [← e2]
      rfl
    · have h0 : Below w.heap.size w W8 := hW8.1
      have h1 : Below W8.heap.size W8 w10 := ((Below.refl _ _).alloc (Nat.le_refl _) _).trans ((hb9.mono (by simp)).trans (hb10.mono (by have := hb9.size; simp at this; omega)))
      exact h0.trans (h1.mono h0.size)
  · go_enter Try.func24, Try.ntmps24
    go_upto_region 7 with fail
    generalize w.alloc _ = W at *
    obtain ⟨x, hxe⟩ : ∃ x, x = w.heap.size := ⟨_, rfl⟩
    rw [← hxe] at Hx ⊢
    clear hxe
    have hS0 : KeepS w x 48 #[.int .u32 (src : Int), .int .u32 (dst : Int), .int .u8 (proto.toNat : Int), .int .u8 (ttl.toNat : Int), .int .u8 (tos.toNat : Int), .int .u16 (id : Int), .bool true] W := ⟨Hb0.out, Hx.out⟩
    have ne : Nonempty (Cls (KeepS w x 48 #[.int .u32 (src : Int), .int .u32 (dst : Int), .int .u8 (proto.toNat : Int), .int .u8 (ttl.toNat : Int), .int .u8 (tos.toNat : Int), .int .u16 (id : Int), .bool true])) := ⟨⟨W, hS0⟩⟩
    have k2 : ∀ y : Cls (KeepS w x 48 #[.int .u32 (src : Int), .int .u32 (dst : Int), .int .u8 (proto.toNat : Int), .int .u8 (ttl.toNat : Int), .int .u8 (tos.toNat : Int), .int .u16 (id : Int), .bool true]), y.w.cell? ⟨x, 2, none⟩ = some (.int .u8 (proto.toNat : Int)) := fun y => y.h.2.cell 2
    have k3 : ∀ y : Cls (KeepS w x 48 #[.int .u32 (src : Int), .int .u32 (dst : Int), .int .u8 (proto.toNat : Int), .int .u8 (ttl.toNat : Int), .int .u8 (tos.toNat : Int), .int .u16 (id : Int), .bool true]), y.w.cell? ⟨x, 3, none⟩ = some (.int .u8 (ttl.toNat : Int)) := fun y => y.h.2.cell 3
    have k4 : ∀ y : Cls (KeepS w x 48 #[.int .u32 (src : Int), .int .u32 (dst : Int), .int .u8 (proto.toNat : Int), .int .u8 (ttl.toNat : Int), .int .u8 (tos.toNat : Int), .int .u16 (id : Int), .bool true]), y.w.cell? ⟨x, 4, none⟩ = some (.int .u8 (tos.toNat : Int)) := fun y => y.h.2.cell 4
    have k5 : ∀ y : Cls (KeepS w x 48 #[.int .u32 (src : Int), .int .u32 (dst : Int), .int .u8 (proto.toNat : Int), .int .u8 (ttl.toNat : Int), .int .u8 (tos.toNat : Int), .int .u16 (id : Int), .bool true]), y.w.cell? ⟨x, 5, none⟩ = some (.int .u16 (id : Int)) := fun y => y.h.2.cell 5
    have cf : ∀ (vals : Array Value) (w : World), (callFunc 29 vals).run Try.prog w = .ok (.enter 29 vals) w := fun _ _ => by kernel_rfl
    have r1 : ∀ W : World, (Instr.buildSlice 42 2 #[(0, .int .u8 69), (1, .int .u8 (tos.toNat : Int))]).run Try.prog W = .ok (.slice (some ⟨W.heap.size, 0, none⟩) 2 2) (W.alloc (.cells #[.int .u8 69, .int .u8 (tos.toNat : Int)] 5)) := fun _ => by kernel_rfl
    have r2 : ∀ W : World, (Instr.buildSlice 42 4 #[(0, .int .u8 64), (1, .int .u8 0), (2, .int .u8 (ttl.toNat : Int)), (3, .int .u8 (proto.toNat : Int))]).run Try.prog W = .ok (.slice (some ⟨W.heap.size, 0, none⟩) 4 4) (W.alloc (.cells #[.int .u8 64, .int .u8 0, .int .u8 (ttl.toNat : Int), .int .u8 (proto.toNat : Int)] 5)) := fun _ => by kernel_rfl
    have q1 : ∀ W u, isNew 5 #[.int .u8 69, .int .u8 (tos.toNat : Int)] 2 u W → (convert 42 9 u).run Try.prog W = .ok (.string ⟨#[69, tos]⟩) W := by
      rintro W u ⟨g, rfl, h⟩
      exact str_two 69 tos W g 2 h
    have q2 : ∀ W u, isNew 5 #[.int .u8 64, .int .u8 0, .int .u8 (ttl.toNat : Int), .int .u8 (proto.toNat : Int)] 4 u W → (convert 42 9 u).run Try.prog W = .ok (.string ⟨#[64, 0, ttl, proto]⟩) W := by
      rintro W u ⟨g, rfl, h⟩
      exact str_four 64 0 ttl proto W g 4 h
    have Cf := Lib.hid cf
    clear cf
    have R1 := Lib.hid r1
    clear r1
    have R2 := Lib.hid r2
    clear r2
    have Q1 := Lib.hid q1
    clear q1
    have Q2 := Lib.hid q2
    clear q2
    have z2 : ∀ n, (be2 n).length = 2 := fun _ => rfl
    have z4 : ∀ n, (be4 n).length = 4 := fun _ => rfl
    refine wp_region_flat (KeepS w x 48 #[.int .u32 (src : Int), .int .u32 (dst : Int), .int .u8 (proto.toNat : Int), .int .u8 (ttl.toNat : Int), .int .u8 (tos.toNat : Int), .int .u16 (id : Int), .bool true]) (fun w w' => Below w.heap.size w w') (by kernel_rfl) (by kernel_rfl) (fun w => Below.refl _ _) hS0.drew ?_
    clear hS0
    repeat (first
      | (refine flat_quiet (fun w => Below.refl _ _) rfl rfl rfl rfl ?_; intro K hK; go_big_quiet_op; go_big_quiet_on)
      | (refine flat_call Cf.out _ ?_ rfl rfl rfl _ (fun y => below_call KeepS.below y (B1.out _)) W ?_; (focus (simp only [List.map_toArray, List.map_cons, List.map_nil]; rfl)); intro K hK; go_big_quiet_op; go_big_quiet_on)
      | (refine flat_call Cf.out _ ?_ rfl rfl rfl _ (fun y => below_call KeepS.below y (B2.out _)) W ?_; (focus (simp only [List.map_toArray, List.map_cons, List.map_nil]; rfl)); intro K hK; go_big_quiet_op; go_big_quiet_on)
      | (refine flat_build (E := 5) _ ?_ _ R1.out KeepS.below rfl rfl rfl W ?_; (focus (simp only [List.map_toArray, List.map_cons, List.map_nil]; rfl)); intro K hK; go_big_quiet_op; go_big_quiet_on)
      | (refine flat_build (E := 5) _ ?_ _ R2.out KeepS.below rfl rfl rfl W ?_; (focus (simp only [List.map_toArray, List.map_cons, List.map_nil]; rfl)); intro K hK; go_big_quiet_op; go_big_quiet_on)
      | (refine flat_conv ?_ List.mem_cons_self _ Q1.out (fun w => Below.refl _ _) rfl rfl rfl W ?_; (focus (simp)); intro K hK; go_big_quiet_op; go_big_quiet_on)
      | (refine flat_conv ?_ List.mem_cons_self _ Q2.out (fun w => Below.refl _ _) rfl rfl rfl W ?_; (focus (simp)); intro K hK; go_big_quiet_op; go_big_quiet_on))
    refine flat_nil ?_
    intro W7 hW7 x34 _ x19 _
    simp only [endF, Act.put, List.setIfInBounds_toArray, List.set_cons_succ, List.set_cons_zero]
    have hfront : (⟨#[69, tos]⟩ : ByteArray) ++ ⟨(be2 n).toArray⟩ ++ ⟨(be2 id).toArray⟩ ++ ⟨#[64, 0, ttl, proto]⟩ = ⟨(frontL ⟨src, dst, proto, ttl, tos, id, true⟩ n).toArray⟩ := by
      rw [show (⟨#[69, tos]⟩ : ByteArray) = ⟨[69, tos].toArray⟩ from rfl, show (⟨#[64, 0, ttl, proto]⟩ : ByteArray) = ⟨[64, 0, ttl, proto].toArray⟩ from rfl, str_cat, str_cat, str_cat]
      rfl
    rw [hfront]
    obtain ⟨fr, hfr⟩ : ∃ fr : List UInt8, fr = frontL ⟨src, dst, proto, ttl, tos, id, true⟩ n := ⟨_, rfl⟩
    rw [← hfr]
    have zf : fr.length = 10 := by rw [hfr]; rfl
    have Hfr := Lib.hid hfr
    clear hfr
    clear hfront
    clear k2 k3 k4 k5
    have k0 : ∀ y : Cls (KeepS w x 48 #[.int .u32 (src : Int), .int .u32 (dst : Int), .int .u8 (proto.toNat : Int), .int .u8 (ttl.toNat : Int), .int .u8 (tos.toNat : Int), .int .u16 (id : Int), .bool true]), y.w.cell? ⟨x, 0, none⟩ = some (.int .u32 (src : Int)) := fun y => y.h.2.cell 0
    have k1 : ∀ y : Cls (KeepS w x 48 #[.int .u32 (src : Int), .int .u32 (dst : Int), .int .u8 (proto.toNat : Int), .int .u8 (ttl.toNat : Int), .int .u8 (tos.toNat : Int), .int .u16 (id : Int), .bool true]), y.w.cell? ⟨x, 1, none⟩ = some (.int .u32 (dst : Int)) := fun y => y.h.2.cell 1
    have cf4 : ∀ (vals : Array Value) (w : World), (callFunc 30 vals).run Try.prog w = .ok (.enter 30 vals) w := fun _ _ => by kernel_rfl
    have Cf4 := Lib.hid cf4
    clear cf4
    go_upto_region 8 with fail
    refine wp_region_flat (KeepS w x 48 #[.int .u32 (src : Int), .int .u32 (dst : Int), .int .u8 (proto.toNat : Int), .int .u8 (ttl.toNat : Int), .int .u8 (tos.toNat : Int), .int .u16 (id : Int), .bool true]) (fun w w' => Below w.heap.size w w') (by kernel_rfl) (by kernel_rfl) (fun w => Below.refl _ _) hW7.drew ?_
    repeat (first
      | (refine flat_quiet (fun w => Below.refl _ _) rfl rfl rfl rfl ?_; intro K hK; go_big_quiet_op; go_big_quiet_on)
      | (refine flat_call Cf4.out _ ?_ rfl rfl rfl _ (fun y => below_call KeepS.below y (B3.out _)) W ?_; (focus (simp only [List.map_toArray, List.map_cons, List.map_nil]; rfl)); intro K hK; go_big_quiet_op; go_big_quiet_on)
      | (refine flat_call Cf4.out _ ?_ rfl rfl rfl _ (fun y => below_call KeepS.below y (B4.out _)) W ?_; (focus (simp only [List.map_toArray, List.map_cons, List.map_nil]; rfl)); intro K hK; go_big_quiet_op; go_big_quiet_on))
    refine flat_nil ?_
    intro W8 hW8
    simp only [endF]
    clear k0 k1 ne
    go_wp2_with fail
    have hback : (⟨(be4 src).toArray⟩ : ByteArray) ++ ⟨(be4 dst).toArray⟩ = ⟨(backL ⟨src, dst, proto, ttl, tos, id, true⟩).toArray⟩ := by rw [str_cat]; rfl
    rw [hback]
    obtain ⟨bk, hbk⟩ : ∃ bk : List UInt8, bk = backL ⟨src, dst, proto, ttl, tos, id, true⟩ := ⟨_, rfl⟩
    rw [← hbk]
    have zb : bk.length = 8 := by rw [hbk]; rfl
    obtain ⟨sm, hsm⟩ : ∃ sm, sm = sumL ⟨src, dst, proto, ttl, tos, id, true⟩ n := ⟨_, rfl⟩
    have hsl : sm < 65536 := by rw [hsm]; exact sumL_lt _ _
    have hsv : ((ofL (catS [⟨fr.toArray⟩, ⟨bk.toArray⟩]) : Nat) : Int) = (sm : Int) := by
      have : catS [⟨fr.toArray⟩, ⟨bk.toArray⟩] = fr ++ bk := by simp [catS]
      rw [this, hsm, Hfr.out, hbk]
      rfl
    have ol := fun W g (h : Blk W g 9 #[.string ⟨fr.toArray⟩, .string ⟨bk.toArray⟩]) => of_lit [⟨fr.toArray⟩, ⟨bk.toArray⟩] (sm : Int) hsv (by
      intro s hs
      simp only [List.mem_cons, List.not_mem_nil, or_false] at hs
      rcases hs with rfl | rfl
      · show fr.length ≤ maxLen; rw [zf]; decide
      · show bk.length ≤ maxLen; rw [zb]; decide) g 2 2 W rfl (by omega) h
    have Hbk := Lib.hid hbk
    clear hbk
    have Hsm := Lib.hid hsm
    clear hsm
    have Ol := Lib.hid ol
    clear ol
    clear hback hsv
    with_reducible refine (Ol.out _ _ (Blk.new _ _ _)).mono ?_
    rintro e w9 ⟨rfl, hb9⟩
    go_wp2_with fail
    (with_reducible refine (high16 sm _ hsl).mono ?_)
    rintro e w10 ⟨rfl, hb10⟩
    go_wp2
    go_ret2
    refine ⟨?_, ?_⟩
    · have e2 : (⟨fr.toArray⟩ : ByteArray) ++ ⟨(be2 sm).toArray⟩ ++ ⟨bk.toArray⟩ ++ load = ⟨(encL ⟨src, dst, proto, ttl, tos, id, true⟩ load.data.toList).toArray⟩ := by
        have el : load = ⟨load.data.toList.toArray⟩ := by simp
        rw [el, str_cat, str_cat, str_cat]
        unfold encL headL
        rw [show (20 + load.data.toList.length) = n from Hn.out.symm, ← Hfr.out, ← Hbk.out, ← Hsm.out]
      rw [← e2]
      rfl
    · have h0 : Below w.heap.size w W8 := hW8.1
      have h1 : Below W8.heap.size W8 w10 := ((Below.refl _ _).alloc (Nat.le_refl _) _).trans ((hb9.mono (by simp)).trans (hb10.mono (by have := hb9.size; simp at this; omega)))
      exact h0.trans (h1.mono h0.size)
end Go.Proofs.Ytbfmgdcnpefciaa
