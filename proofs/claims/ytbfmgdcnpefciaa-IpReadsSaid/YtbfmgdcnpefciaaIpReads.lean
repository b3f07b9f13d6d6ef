/- The statement IpReads: which head, and load, bytes have, or what is wrong with them, is as the document says; for any bytes. -/
import Derived.Test.YtbfmgdcnpefciaaIpAlive
set_option linter.unusedVariables false
set_option linter.unusedSimpArgs false
namespace Go.Proofs.Ytbfmgdcnpefciaa.ipReads
open Go.ChangeShapes Go.WideShapes Go.ChangeAt Go.RowKit
open Go.ChangeMaps (open_string shut_string)

set_option maxRecDepth 100000 in
set_option maxHeartbeats 4000000 in
theorem walk (a0 : ByteArray) (w : World) (w0 : a0.size ≤ maxLen) :
    Calls Try.prog 8 #[.string a0] w fun e w' => e = .returned (.bool true) ∧ Below w.heap.size w w' := by
  unfold maxLen at w0
  by_cases h1 : 131072 < a0.size
  · go_enter Try.func8, Try.ntmps8
    go_wp2_with fail
    (with_reducible refine (alive_ip _).mono ?_)
    rintro e w3 ⟨rfl, hb3⟩
    go_wp2
    go_ret
    exact ⟨rfl, hb3⟩
  obtain ⟨H, b, k, hD⟩ := decV_form a0.data.toList
  have d1 := fun W => dec_all a0 W (by omega)
  have d2 := fun W => ref_dec_all a0 W (by omega)
  rw [hD] at d1 d2
  clear hD
  obtain ⟨src, dst, proto, ttl, tos, id, df⟩ := H
  unfold IPh.cells at d1 d2
  simp only at d1 d2
  have i1 : (a0.size : Int) ≤ 131072 := by omega
  have D1 := Lib.hid d1
  clear d1
  have D2 := Lib.hid d2
  clear d2
  go_enter Try.func8, Try.ntmps8
  go_wp2_with fail
  (with_reducible refine (D1.out _).mono ?_)
  rintro e w2 ⟨rfl, hb2⟩
  go_upto_region 4 with fail
  have hx := Blk.new w2 48 #[.int .u32 (src : Int), .int .u32 (dst : Int), .int .u8 (proto.toNat : Int), .int .u8 (ttl.toNat : Int), .int .u8 (tos.toNat : Int), .int .u16 (id : Int), .bool df]
  have hB3 : Below w.heap.size w (w2.alloc (.cells #[.int .u32 (src : Int), .int .u32 (dst : Int), .int .u8 (proto.toNat : Int), .int .u8 (ttl.toNat : Int), .int .u8 (tos.toNat : Int), .int .u16 (id : Int), .bool df] 48)) := hb2.alloc hb2.size _
  obtain ⟨x, hxe⟩ : ∃ x, x = w2.heap.size := ⟨_, rfl⟩
  rw [← hxe] at hx ⊢
  clear hxe hb2
  generalize w2.alloc _ = w3 at *
  have Hx := Lib.hid hx
  clear hx
  have HB3 := Lib.hid hB3
  clear hB3
  go_wp2_with fail
  with_reducible refine (D2.out _).mono ?_
  rintro e w4 ⟨rfl, hb4⟩
  have hx4 := Hx.out.below hb4 Hx.out.lt
  have hB4 := HB3.out.trans (hb4.mono HB3.out.size)
  clear Hx HB3 hb4
  go_upto_region 5 with fail
  have hy := Blk.new w4 48 #[.int .u32 (src : Int), .int .u32 (dst : Int), .int .u8 (proto.toNat : Int), .int .u8 (ttl.toNat : Int), .int .u8 (tos.toNat : Int), .int .u16 (id : Int), .bool df]
  have hx5 := Blk.alloc hx4 (.cells #[.int .u32 (src : Int), .int .u32 (dst : Int), .int .u8 (proto.toNat : Int), .int .u8 (ttl.toNat : Int), .int .u8 (tos.toNat : Int), .int .u16 (id : Int), .bool df] 48)
  have hB5 : Below w.heap.size w (w4.alloc (.cells #[.int .u32 (src : Int), .int .u32 (dst : Int), .int .u8 (proto.toNat : Int), .int .u8 (ttl.toNat : Int), .int .u8 (tos.toNat : Int), .int .u16 (id : Int), .bool df] 48)) := hB4.alloc hB4.size _
  obtain ⟨y, hye⟩ : ∃ y, y = w4.heap.size := ⟨_, rfl⟩
  rw [← hye] at hy ⊢
  clear hye hx4 hB4
  generalize w4.alloc _ = w5 at *
  have c0 := hx5.cell 0
  have c1 := hx5.cell 1
  have c2 := hx5.cell 2
  have c3 := hx5.cell 3
  have c4 := hx5.cell 4
  have c5 := hx5.cell 5
  have c6 := hx5.cell 6
  simp at c0 c1 c2 c3 c4 c5 c6
  have d0 := hy.cell 0
  have d1 := hy.cell 1
  have d2 := hy.cell 2
  have d3 := hy.cell 3
  have d4 := hy.cell 4
  have d5 := hy.cell 5
  have d6 := hy.cell 6
  simp at d0 d1 d2 d3 d4 d5 d6
  clear hx5 hy
  have HB5 := Lib.hid hB5
  clear hB5
  go_wp2_with fail
  (with_reducible refine (alive_ip _).mono ?_)
  rintro e w6 ⟨rfl, hb6⟩
  go_wp2
  go_ret
  exact ⟨rfl, HB5.out.trans (hb6.mono HB5.out.size)⟩

theorem own : ownKnob Try.prog.godebug = none := by kernel_rfl
theorem laidOut : laidOutB Try.prog = true := by kernel_rfl
set_option maxRecDepth 100000 in
theorem lifted (os : Os) (started : os.Started) (H : Type) (enc : TypeId × Value → H) :
    ReturnsInHanded {} Try.checked os 8 .any (Rows.ipReadsSpec.pre6 enc Try.prog Try.f8 Rows.ipReadsRow.domain false) (Rows.ipReadsSpec.post enc Try.prog Try.f8 false true false false) := by
  refine returnsInHanded_of_change (C := Try.checked) own started (by kernel_rfl) Try.func8
    (ChangeSpec.witness6 (enc := enc) (C := Try.checked) false ⟨#[], #[.string ByteArray.empty], []⟩ 8 (by kernel_rfl) (by kernel_rfl) (by kernel_rfl) (by kernel_rfl)) ?_
  intro W base args ds gs before hval0 hW hcnd _
  have hval : ∀ (j : Nat) t v, Try.f8.params[j]? = some t → args[j]? = some v → Value.okWide Try.prog W .any base t v := hval0
  have hW' := hW
  obtain ⟨p, q, hA0, hV, rfl, hfz, hnd⟩ := hW
  have hA : DataW.TrodAll enc Try.prog W 0 (fun _ => true) true Try.f8.params.toList args.toList ds p := hA0
  rw [Try.params8] at hA hval
  obtain ⟨v0, vs0, d0, ds0, p0, q0, hargs, rfl, rfl, h0, r0⟩ := trodAll_cons hA
  obtain ⟨rfl, rfl, rfl⟩ := trodAll_nil r0
  obtain rfl : args = #[v0] := by cases args; simp_all
  obtain ⟨rfl, rfl⟩ := trodVars_none hV
  obtain ⟨a0, rfl, rfl, rfl, w0⟩ := open_string Try.underlying9 (hval 0 9 v0 rfl rfl) h0
  clear hA0 hval0
  refine (walk a0 W w0).mono fun e W' ⟨he, bel⟩ => ?_
  subst he
  exact ⟨_, rfl, _, _, _, [], _, [], hW', trodAll_mk1 (shut_bool Try.underlying4 _), (trodAll_cons_mk (shut_string Try.underlying9 w0) trodAll_mk0), rfl, bel.frame _, fun h => by cases h⟩

theorem over : Rows.ipReadsRow.holds Try.pinned (OpenSpec.ofChange Rows.ipReadsSpec) :=
  OpenClaim.holds_of_wide 8 Try.f8 rfl rfl rfl rfl rfl rfl rfl ⟨rfl, rfl, rfl, rfl, rfl⟩ rfl rfl rfl rfl rfl (by kernel_rfl) Try.func8 (by kernel_rfl)
    (of_decide_eq_true (by kernel_rfl)) (by unfold Func.isWrapper; first | (rw [if_pos (by decide +kernel)]; kernel_rfl) | (rw [if_neg (by decide +kernel)]; exact ⟨rfl, rfl⟩))
    (fun os started H enc _ => lifted os started H enc)

/-- THE STATEMENT -/
theorem proved : Rows.IpReadsSaid := over
#print axioms proved
end Go.Proofs.Ytbfmgdcnpefciaa.ipReads
