/- The statement TcpReads: which head, and data, bytes have, or what is wrong with them, is as the document says; for any addresses, any bytes. -/
import Derived.Test.YtpmcdpbolcmhgaaTcpAlive
import Derived.Test.YtpmcdpbolcmhgaaAggs
set_option linter.unusedVariables false
set_option linter.unusedSimpArgs false
namespace Go.Proofs.Ytpmcdpbolcmhgaa.tcpReads
open Go.ChangeShapes Go.WideShapes Go.ChangeAt Go.RowKit
open Go.ChangeMaps (open_string shut_string)

set_option maxRecDepth 100000 in
set_option maxHeartbeats 4000000 in
theorem walk (a0 a1 : Int) (a2 : ByteArray) (w : World) (w0 : (Lit.int .u32 a0).wf = true) (w1 : (Lit.int .u32 a1).wf = true) (w2 : a2.size ≤ maxLen) :
    Calls Try.prog 4 #[.int .u32 a0, .int .u32 a1, .string a2] w fun e w' => e = .returned (.bool true) ∧ Below w.heap.size w w' := by
  unfold maxLen at w2
  obtain ⟨l0, g0⟩ := bounds_u32 w0
  obtain ⟨l1, g1⟩ := bounds_u32 w1
  obtain ⟨s, hs⟩ : ∃ s : Nat, (s : Int) = a0 := ⟨a0.toNat, by omega⟩
  obtain ⟨d, hd⟩ : ∃ s : Nat, (s : Int) = a1 := ⟨a1.toNat, by omega⟩
  subst hs hd
  clear w0 w1
  have hb0 : Below w.heap.size w w := Below.refl _ _
  have HB := Lib.hid hb0
  clear hb0
  by_cases h1 : 131072 < a2.size
  · go_enter Try.func4, Try.ntmps4
    go_wp2_with fail
    (with_reducible refine (alive_tcp _).mono ?_)
    rintro e wc1 ⟨rfl, hbq⟩
    have hB := HB.out.trans (hbq.mono HB.out.size)
    clear HB
    have HB := Lib.hid hB
    clear hB
    clear hbq
    go_wp2
    go_ret
    exact ⟨rfl, HB.out⟩
  have i1 : (a2.size : Int) ≤ 131072 := by omega
  have c1 := fun W => dec_all s d a2 W (by omega) (by omega) (by omega)
  have c2 := fun W => ref_dec_all s d a2 W (by omega) (by omega) (by omega)
  obtain ⟨T, b, k, hD⟩ := decV_form s d a2.data.toList
  rw [hD] at c1 c2
  obtain ⟨src, dst, seq, ack, flags, window, urgent, opts⟩ := T
  unfold TCPh.cells at c1 c2
  simp only at c1 c2
  have C1 := Lib.hid c1
  clear c1
  have C2 := Lib.hid c2
  clear c2
  clear hD h1
  go_enter Try.func4, Try.ntmps4
  go_wp2_with fail
  (with_reducible refine (C1.out _).mono ?_)
  rintro e wc2 ⟨rfl, hbq⟩
  have hB := HB.out.trans (hbq.mono HB.out.size)
  clear HB
  have HB := Lib.hid hB
  clear hB
  clear hbq
  go_upto_region 4 with fail
  have hx := Blk.new wc2 25 #[.int .u16 (src : Int), .int .u16 (dst : Int), .int .u32 (seq : Int), .int .u32 (ack : Int), .int .u8 (flags.toNat : Int), .int .u16 (window : Int), .int .u16 (urgent : Int), .string opts]
  have hB := HB.out.alloc HB.out.size (.cells #[.int .u16 (src : Int), .int .u16 (dst : Int), .int .u32 (seq : Int), .int .u32 (ack : Int), .int .u8 (flags.toNat : Int), .int .u16 (window : Int), .int .u16 (urgent : Int), .string opts] 25)
  clear HB
  obtain ⟨gx, hge⟩ : ∃ g, g = wc2.heap.size := ⟨_, rfl⟩
  rw [← hge] at hx ⊢
  clear hge
  generalize wc2.alloc _ = wn3 at *
  have Hx := Lib.hid hx
  clear hx
  have HB := Lib.hid hB
  clear hB
  go_wp2_with fail
  (with_reducible refine (C2.out _).mono ?_)
  rintro e wc4 ⟨rfl, hbq⟩
  have hx := Hx.out.below hbq Hx.out.lt
  clear Hx
  have Hx := Lib.hid hx
  clear hx
  have hB := HB.out.trans (hbq.mono HB.out.size)
  clear HB
  have HB := Lib.hid hB
  clear hB
  clear hbq
  go_upto_region 5 with fail
  have hy := Blk.new wc4 25 #[.int .u16 (src : Int), .int .u16 (dst : Int), .int .u32 (seq : Int), .int .u32 (ack : Int), .int .u8 (flags.toNat : Int), .int .u16 (window : Int), .int .u16 (urgent : Int), .string opts]
  have hx := Blk.alloc Hx.out (.cells #[.int .u16 (src : Int), .int .u16 (dst : Int), .int .u32 (seq : Int), .int .u32 (ack : Int), .int .u8 (flags.toNat : Int), .int .u16 (window : Int), .int .u16 (urgent : Int), .string opts] 25)
  clear Hx
  have hB := HB.out.alloc HB.out.size (.cells #[.int .u16 (src : Int), .int .u16 (dst : Int), .int .u32 (seq : Int), .int .u32 (ack : Int), .int .u8 (flags.toNat : Int), .int .u16 (window : Int), .int .u16 (urgent : Int), .string opts] 25)
  clear HB
  obtain ⟨gy, hge⟩ : ∃ g, g = wc4.heap.size := ⟨_, rfl⟩
  rw [← hge] at hy ⊢
  clear hge
  generalize wc4.alloc _ = wn5 at *
  have Hx := Lib.hid hx
  clear hx
  have Hy := Lib.hid hy
  clear hy
  have HB := Lib.hid hB
  clear hB
  have c0 := Hx.out.cell 0
  have c1 := Hx.out.cell 1
  have c2 := Hx.out.cell 2
  have c3 := Hx.out.cell 3
  have c4 := Hx.out.cell 4
  have c5 := Hx.out.cell 5
  have c6 := Hx.out.cell 6
  have c7 := Hx.out.cell 7
  simp at c0 c1 c2 c3 c4 c5 c6 c7
  have d0 := Hy.out.cell 0
  have d1 := Hy.out.cell 1
  have d2 := Hy.out.cell 2
  have d3 := Hy.out.cell 3
  have d4 := Hy.out.cell 4
  have d5 := Hy.out.cell 5
  have d6 := Hy.out.cell 6
  have d7 := Hy.out.cell 7
  simp at d0 d1 d2 d3 d4 d5 d6 d7
  go_wp2_with fail
  (with_reducible refine (alive_tcp _).mono ?_)
  rintro e wc6 ⟨rfl, hbq⟩
  have hx := Hx.out.below hbq Hx.out.lt
  clear Hx
  have Hx := Lib.hid hx
  clear hx
  have hy := Hy.out.below hbq Hy.out.lt
  clear Hy
  have Hy := Lib.hid hy
  clear hy
  have hB := HB.out.trans (hbq.mono HB.out.size)
  clear HB
  have HB := Lib.hid hB
  clear hB
  clear hbq
  go_wp2
  go_ret
  exact ⟨rfl, HB.out⟩

theorem own : ownKnob Try.prog.godebug = none := by kernel_rfl
theorem laidOut : laidOutB Try.prog = true := by kernel_rfl
set_option maxRecDepth 100000 in
theorem lifted (os : Os) (started : os.Started) (H : Type) (enc : TypeId × Value → H) :
    ReturnsInHanded {} Try.checked os 4 .any (Rows.tcpReadsSpec.pre6 enc Try.prog Try.f4 Rows.tcpReadsRow.domain false) (Rows.tcpReadsSpec.post enc Try.prog Try.f4 false true false false) := by
  refine returnsInHanded_of_change (C := Try.checked) own started (by kernel_rfl) Try.func4
    (ChangeSpec.witness6 (enc := enc) (C := Try.checked) false ⟨#[], #[.int .u32 0, .int .u32 0, .string ByteArray.empty], []⟩ 8 (by kernel_rfl) (by kernel_rfl) (by kernel_rfl) (by kernel_rfl)) ?_
  intro W base args ds gs before hval0 hW hcnd _
  have hval : ∀ (j : Nat) t v, Try.f4.params[j]? = some t → args[j]? = some v → Value.okWide Try.prog W .any base t v := hval0
  have hW' := hW
  obtain ⟨p, q, hA0, hV, rfl, hfz, hnd⟩ := hW
  have hA : DataW.TrodAll enc Try.prog W 0 (fun _ => true) true Try.f4.params.toList args.toList ds p := hA0
  rw [Try.params4] at hA hval
  obtain ⟨v0, vs0, d0, ds0, p0, q0, hargs, rfl, rfl, h0, r0⟩ := trodAll_cons hA
  obtain ⟨v1, vs1, d1, ds1, p1, q1, rfl, rfl, rfl, h1, r1⟩ := trodAll_cons r0
  obtain ⟨v2, vs2, d2, ds2, p2, q2, rfl, rfl, rfl, h2, r2⟩ := trodAll_cons r1
  obtain ⟨rfl, rfl, rfl⟩ := trodAll_nil r2
  obtain rfl : args = #[v0, v1, v2] := by cases args; simp_all
  obtain ⟨rfl, rfl⟩ := trodVars_none hV
  obtain ⟨a0, rfl, rfl, rfl, w0⟩ := open_int Try.underlying22 (hval 0 22 v0 rfl rfl) h0
  obtain ⟨a1, rfl, rfl, rfl, w1⟩ := open_int Try.underlying22 (hval 1 22 v1 rfl rfl) h1
  obtain ⟨a2, rfl, rfl, rfl, w2⟩ := open_string Try.underlying9 (hval 2 9 v2 rfl rfl) h2
  clear hA0 hval0
  refine (walk a0 a1 a2 W w0 w1 w2).mono fun e W' ⟨he, bel⟩ => ?_
  subst he
  exact ⟨_, rfl, _, _, _, [], _, [], hW', trodAll_mk1 (shut_bool Try.underlying4 _), (trodAll_cons_mk (shut_int Try.underlying22 w0) (trodAll_cons_mk (shut_int Try.underlying22 w1) (trodAll_cons_mk (shut_string Try.underlying9 w2) trodAll_mk0))), rfl, bel.frame _, fun h => by cases h⟩

theorem over : Rows.tcpReadsRow.holds Try.pinned (OpenSpec.ofChange Rows.tcpReadsSpec) :=
  OpenClaim.holds_of_wide 4 Try.f4 rfl rfl rfl rfl rfl rfl rfl ⟨rfl, rfl, rfl, rfl, rfl⟩ rfl rfl rfl rfl rfl (by kernel_rfl) Try.func4 (by kernel_rfl)
    (of_decide_eq_true (by kernel_rfl)) (by unfold Func.isWrapper; first | (rw [if_pos (by decide +kernel)]; kernel_rfl) | (rw [if_neg (by decide +kernel)]; exact ⟨rfl, rfl⟩))
    (fun os started H enc _ => lifted os started H enc)

/-- THE STATEMENT -/
theorem proved : Rows.TcpReadsSaid := over
#print axioms proved
end Go.Proofs.Ytpmcdpbolcmhgaa.tcpReads
