/- The statement TcpWrites: which bytes a segment has, or why there are none, is as the document says; for any addresses, any head, any data. -/
import Derived.Test.YtpmcdpbolcmhgaaTcpAlive
import Derived.Test.YtpmcdpbolcmhgaaAggs
set_option linter.unusedVariables false
set_option linter.unusedSimpArgs false
namespace Go.Proofs.Ytpmcdpbolcmhgaa.tcpWrites
open Go.ChangeShapes Go.WideShapes Go.ChangeAt Go.RowKit
open Go.ChangeMaps (open_string shut_string)

set_option maxRecDepth 100000 in
set_option maxHeartbeats 4000000 in
theorem walk (a0 a1 a2_0 a2_1 a2_2 a2_3 a2_4 a2_5 a2_6 : Int) (a2_7 a3 : ByteArray) (w : World) (w0 : (Lit.int .u32 a0).wf = true) (w1 : (Lit.int .u32 a1).wf = true) (w2_0 : (Lit.int .u16 a2_0).wf = true) (w2_1 : (Lit.int .u16 a2_1).wf = true) (w2_2 : (Lit.int .u32 a2_2).wf = true) (w2_3 : (Lit.int .u32 a2_3).wf = true) (w2_4 : (Lit.int .u8 a2_4).wf = true) (w2_5 : (Lit.int .u16 a2_5).wf = true) (w2_6 : (Lit.int .u16 a2_6).wf = true) (w2_7 : a2_7.size ≤ maxLen) (w3 : a3.size ≤ maxLen) :
    Calls Try.prog 3 #[.int .u32 a0, .int .u32 a1, .agg #[.int .u16 a2_0, .int .u16 a2_1, .int .u32 a2_2, .int .u32 a2_3, .int .u8 a2_4, .int .u16 a2_5, .int .u16 a2_6, .string a2_7], .string a3] w fun e w' => e = .returned (.bool true) ∧ Below w.heap.size w w' := by
  unfold maxLen at w2_7 w3
  obtain ⟨l0, g0⟩ := bounds_u32 w0
  obtain ⟨l1, g1⟩ := bounds_u32 w1
  obtain ⟨s, hs⟩ : ∃ s : Nat, (s : Int) = a0 := ⟨a0.toNat, by omega⟩
  obtain ⟨d, hd⟩ : ∃ s : Nat, (s : Int) = a1 := ⟨a1.toNat, by omega⟩
  subst hs hd
  obtain ⟨H, hok, hO, hH⟩ := head_of a2_0 a2_1 a2_2 a2_3 a2_4 a2_5 a2_6 a2_7 w2_0 w2_1 w2_2 w2_3 w2_4 w2_5 w2_6
  clear w2_0 w2_1 w2_2 w2_3 w2_4 w2_5 w2_6 w0 w1
  have hb0 : Below w.heap.size w w := Below.refl _ _
  have HB := Lib.hid hb0
  clear hb0
  by_cases h1 : 131072 < a3.size ∨ 1024 < a2_7.size
  · clear hH hO hok
    rcases h1 with h1 | h1
    · go_enter Try.func3, Try.ntmps3
      go_upto_region 1 with fail
      have hx := Blk.new w 25 #[.int .u16 a2_0, .int .u16 a2_1, .int .u32 a2_2, .int .u32 a2_3, .int .u8 a2_4, .int .u16 a2_5, .int .u16 a2_6, .string a2_7]
      have hB := HB.out.alloc HB.out.size (.cells #[.int .u16 a2_0, .int .u16 a2_1, .int .u32 a2_2, .int .u32 a2_3, .int .u8 a2_4, .int .u16 a2_5, .int .u16 a2_6, .string a2_7] 25)
      clear HB
      obtain ⟨gx, hge⟩ : ∃ g, g = w.heap.size := ⟨_, rfl⟩
      rw [← hge] at hx ⊢
      clear hge
      generalize w.alloc _ = wn1 at *
      have Hx := Lib.hid hx
      clear hx
      have HB := Lib.hid hB
      clear hB
      go_wp2_with fail
      (with_reducible refine (alive_tcp _).mono ?_)
      rintro e wc2 ⟨rfl, hbq⟩
      have hx := Hx.out.below hbq Hx.out.lt
      clear Hx
      have Hx := Lib.hid hx
      clear hx
      have hB := HB.out.trans (hbq.mono HB.out.size)
      clear HB
      have HB := Lib.hid hB
      clear hB
      clear hbq
      go_wp2
      go_ret
      exact ⟨rfl, HB.out⟩
    · have h2 : a3.size ≤ 131072 ∨ 131072 < a3.size := by omega
      rcases h2 with h2 | h2
      · have i1 : (a3.size : Int) ≤ 131072 := by omega
        have i2 : 1024 < (a2_7.size : Int) := by omega
        go_enter Try.func3, Try.ntmps3
        go_upto_region 1 with fail
        have hx := Blk.new w 25 #[.int .u16 a2_0, .int .u16 a2_1, .int .u32 a2_2, .int .u32 a2_3, .int .u8 a2_4, .int .u16 a2_5, .int .u16 a2_6, .string a2_7]
        have hB := HB.out.alloc HB.out.size (.cells #[.int .u16 a2_0, .int .u16 a2_1, .int .u32 a2_2, .int .u32 a2_3, .int .u8 a2_4, .int .u16 a2_5, .int .u16 a2_6, .string a2_7] 25)
        clear HB
        obtain ⟨gx, hge⟩ : ∃ g, g = w.heap.size := ⟨_, rfl⟩
        rw [← hge] at hx ⊢
        clear hge
        generalize w.alloc _ = wn3 at *
        have Hx := Lib.hid hx
        clear hx
        have HB := Lib.hid hB
        clear hB
        have c0 := Hx.out.cell 0
        have c1 := Hx.out.cell 1
        have c2 := Hx.out.cell 2
        have c3 := Hx.out.cell 3
        have c4 := Hx.out.cell 4
        have c5 := Hx.out.cell 5
        have c6 := Hx.out.cell 6
        have c7 := Hx.out.cell 7
        simp at c0 c1 c2 c3 c4 c5 c6 c7
        go_upto_region 2 with fail
        clear c0 c1 c2 c3 c4 c5 c6 c7
        go_wp2_with fail
        (with_reducible refine (alive_tcp _).mono ?_)
        rintro e wc4 ⟨rfl, hbq⟩
        have hx := Hx.out.below hbq Hx.out.lt
        clear Hx
        have Hx := Lib.hid hx
        clear hx
        have hB := HB.out.trans (hbq.mono HB.out.size)
        clear HB
        have HB := Lib.hid hB
        clear hB
        clear hbq
        go_wp2
        go_ret
        exact ⟨rfl, HB.out⟩
      · go_enter Try.func3, Try.ntmps3
        go_upto_region 1 with fail
        have hx := Blk.new w 25 #[.int .u16 a2_0, .int .u16 a2_1, .int .u32 a2_2, .int .u32 a2_3, .int .u8 a2_4, .int .u16 a2_5, .int .u16 a2_6, .string a2_7]
        have hB := HB.out.alloc HB.out.size (.cells #[.int .u16 a2_0, .int .u16 a2_1, .int .u32 a2_2, .int .u32 a2_3, .int .u8 a2_4, .int .u16 a2_5, .int .u16 a2_6, .string a2_7] 25)
        clear HB
        obtain ⟨gx, hge⟩ : ∃ g, g = w.heap.size := ⟨_, rfl⟩
        rw [← hge] at hx ⊢
        clear hge
        generalize w.alloc _ = wn5 at *
        have Hx := Lib.hid hx
        clear hx
        have HB := Lib.hid hB
        clear hB
        go_wp2_with fail
        (with_reducible refine (alive_tcp _).mono ?_)
        rintro e wc6 ⟨rfl, hbq⟩
        have hx := Hx.out.below hbq Hx.out.lt
        clear Hx
        have Hx := Lib.hid hx
        clear hx
        have hB := HB.out.trans (hbq.mono HB.out.size)
        clear HB
        have HB := Lib.hid hB
        clear hB
        clear hbq
        go_wp2
        go_ret
        exact ⟨rfl, HB.out⟩
  have i1 : (a3.size : Int) ≤ 131072 := by omega
  have i2 : (a2_7.size : Int) ≤ 1024 := by omega
  have c1 := fun W => enc_all s d H a3 W (by omega) (by omega) hok (by rw [hO]; omega) (by omega)
  have c2 := fun W => ref_enc_all s d H a3 W (by omega) (by omega) hok (by rw [hO]; omega) (by omega)
  rw [hH] at c1 c2
  unfold encV at c1 c2
  generalize encS s d H a3 = E at *
  generalize encE H a3 = k at *
  have C1 := Lib.hid c1
  clear c1
  have C2 := Lib.hid c2
  clear c2
  clear hH hok hO h1
  go_enter Try.func3, Try.ntmps3
  go_upto_region 1 with fail
  have hx := Blk.new w 25 #[.int .u16 a2_0, .int .u16 a2_1, .int .u32 a2_2, .int .u32 a2_3, .int .u8 a2_4, .int .u16 a2_5, .int .u16 a2_6, .string a2_7]
  have hB := HB.out.alloc HB.out.size (.cells #[.int .u16 a2_0, .int .u16 a2_1, .int .u32 a2_2, .int .u32 a2_3, .int .u8 a2_4, .int .u16 a2_5, .int .u16 a2_6, .string a2_7] 25)
  clear HB
  obtain ⟨gx, hge⟩ : ∃ g, g = w.heap.size := ⟨_, rfl⟩
  rw [← hge] at hx ⊢
  clear hge
  generalize w.alloc _ = wn7 at *
  have Hx := Lib.hid hx
  clear hx
  have HB := Lib.hid hB
  clear hB
  have c0 := Hx.out.cell 0
  have c1 := Hx.out.cell 1
  have c2 := Hx.out.cell 2
  have c3 := Hx.out.cell 3
  have c4 := Hx.out.cell 4
  have c5 := Hx.out.cell 5
  have c6 := Hx.out.cell 6
  have c7 := Hx.out.cell 7
  simp at c0 c1 c2 c3 c4 c5 c6 c7
  go_wp2_with fail
  (with_reducible refine (C1.out _).mono ?_)
  rintro e wc8 ⟨rfl, hbq⟩
  have hx := Hx.out.below hbq Hx.out.lt
  clear Hx
  have Hx := Lib.hid hx
  clear hx
  have hB := HB.out.trans (hbq.mono HB.out.size)
  clear HB
  have HB := Lib.hid hB
  clear hB
  clear hbq
  clear c0 c1 c2 c3 c4 c5 c6 c7
  have c0 := Hx.out.cell 0
  have c1 := Hx.out.cell 1
  have c2 := Hx.out.cell 2
  have c3 := Hx.out.cell 3
  have c4 := Hx.out.cell 4
  have c5 := Hx.out.cell 5
  have c6 := Hx.out.cell 6
  have c7 := Hx.out.cell 7
  simp at c0 c1 c2 c3 c4 c5 c6 c7
  go_wp2_with fail
  (with_reducible refine (C2.out _).mono ?_)
  rintro e wc9 ⟨rfl, hbq⟩
  have hx := Hx.out.below hbq Hx.out.lt
  clear Hx
  have Hx := Lib.hid hx
  clear hx
  have hB := HB.out.trans (hbq.mono HB.out.size)
  clear HB
  have HB := Lib.hid hB
  clear hB
  clear hbq
  clear c0 c1 c2 c3 c4 c5 c6 c7
  go_wp2_with fail
  (with_reducible refine (alive_tcp _).mono ?_)
  rintro e wc10 ⟨rfl, hbq⟩
  have hx := Hx.out.below hbq Hx.out.lt
  clear Hx
  have Hx := Lib.hid hx
  clear hx
  have hB := HB.out.trans (hbq.mono HB.out.size)
  clear HB
  have HB := Lib.hid hB
  clear hB
  clear hbq
  go_wp2
  go_ret
  exact ⟨rfl, HB.out⟩

theorem own : ownKnob Try.prog.godebug = none := by kernel_rfl
theorem laidOut : laidOutB Try.prog = true := by kernel_rfl
set_option maxRecDepth 100000 in
theorem lifted (os : Os) (started : os.Started) (H : Type) (enc : TypeId × Value → H) :
    ReturnsInHanded {} Try.checked os 3 .any (Rows.tcpWritesSpec.pre6 enc Try.prog Try.f3 Rows.tcpWritesRow.domain false) (Rows.tcpWritesSpec.post enc Try.prog Try.f3 false true false false) := by
  refine returnsInHanded_of_change (C := Try.checked) own started (by kernel_rfl) Try.func3
    (ChangeSpec.witness6 (enc := enc) (C := Try.checked) false ⟨#[], #[.int .u32 0, .int .u32 0, .agg #[.int .u16 0, .int .u16 0, .int .u32 0, .int .u32 0, .int .u8 0, .int .u16 0, .int .u16 0, .string ByteArray.empty], .string ByteArray.empty], []⟩ 8 (by kernel_rfl) (by kernel_rfl) (by kernel_rfl) (by kernel_rfl)) ?_
  intro W base args ds gs before hval0 hW hcnd _
  have hval : ∀ (j : Nat) t v, Try.f3.params[j]? = some t → args[j]? = some v → Value.okWide Try.prog W .any base t v := hval0
  have hW' := hW
  obtain ⟨p, q, hA0, hV, rfl, hfz, hnd⟩ := hW
  have hA : DataW.TrodAll enc Try.prog W 0 (fun _ => true) true Try.f3.params.toList args.toList ds p := hA0
  rw [Try.params3] at hA hval
  obtain ⟨v0, vs0, d0, ds0, p0, q0, hargs, rfl, rfl, h0, r0⟩ := trodAll_cons hA
  obtain ⟨v1, vs1, d1, ds1, p1, q1, rfl, rfl, rfl, h1, r1⟩ := trodAll_cons r0
  obtain ⟨v2, vs2, d2, ds2, p2, q2, rfl, rfl, rfl, h2, r2⟩ := trodAll_cons r1
  obtain ⟨v3, vs3, d3, ds3, p3, q3, rfl, rfl, rfl, h3, r3⟩ := trodAll_cons r2
  obtain ⟨rfl, rfl, rfl⟩ := trodAll_nil r3
  obtain rfl : args = #[v0, v1, v2, v3] := by cases args; simp_all
  obtain ⟨rfl, rfl⟩ := trodVars_none hV
  obtain ⟨a0, rfl, rfl, rfl, w0⟩ := open_int Try.underlying22 (hval 0 22 v0 rfl rfl) h0
  obtain ⟨a1, rfl, rfl, rfl, w1⟩ := open_int Try.underlying22 (hval 1 22 v1 rfl rfl) h1
  have k2 := h2
  have lt2 : ∀ x ∈ p2, x.block < W.heap.size := by obtain ⟨m, hm⟩ := k2; exact DataW.trod_lt m _ _ _ hm
  obtain ⟨c2_0, c2_1, c2_2, c2_3, c2_4, c2_5, c2_6, c2_7, y2_0, y2_1, y2_2, y2_3, y2_4, y2_5, y2_6, y2_7, m2, rfl, rfl, rfl, hy2_0, hy2_1, hy2_2, hy2_3, hy2_4, hy2_5, hy2_6, hy2_7⟩ := open_agg8 Try.underlying25 (by kernel_rfl) (by kernel_rfl) (hval 2 25 v2 rfl rfl) h2
  obtain ⟨a2_0, e2_0, rfl, w2_0⟩ := DataW.trod_int Try.underlying23 hy2_0
  simp at e2_0
  subst e2_0
  obtain ⟨a2_1, e2_1, rfl, w2_1⟩ := DataW.trod_int Try.underlying23 hy2_1
  simp at e2_1
  subst e2_1
  obtain ⟨a2_2, e2_2, rfl, w2_2⟩ := DataW.trod_int Try.underlying22 hy2_2
  simp at e2_2
  subst e2_2
  obtain ⟨a2_3, e2_3, rfl, w2_3⟩ := DataW.trod_int Try.underlying22 hy2_3
  simp at e2_3
  subst e2_3
  obtain ⟨a2_4, e2_4, rfl, w2_4⟩ := DataW.trod_int Try.underlying5 hy2_4
  simp at e2_4
  subst e2_4
  obtain ⟨a2_5, e2_5, rfl, w2_5⟩ := DataW.trod_int Try.underlying23 hy2_5
  simp at e2_5
  subst e2_5
  obtain ⟨a2_6, e2_6, rfl, w2_6⟩ := DataW.trod_int Try.underlying23 hy2_6
  simp at e2_6
  subst e2_6
  obtain ⟨a2_7, e2_7, rfl, w2_7⟩ := DataW.trod_string Try.underlying9 hy2_7
  simp at e2_7
  subst e2_7
  obtain ⟨a3, rfl, rfl, rfl, w3⟩ := open_string Try.underlying9 (hval 3 9 v3 rfl rfl) h3
  clear hA0 hval0
  refine (walk a0 a1 a2_0 a2_1 a2_2 a2_3 a2_4 a2_5 a2_6 a2_7 a3 W w0 w1 w2_0 w2_1 w2_2 w2_3 w2_4 w2_5 w2_6 w2_7 w3).mono fun e W' ⟨he, bel⟩ => ?_
  subst he
  exact ⟨_, rfl, _, _, _, [], _, [], hW', trodAll_mk1 (shut_bool Try.underlying4 _), (trodAll_cons_mk (shut_int Try.underlying22 w0) (trodAll_cons_mk (shut_int Try.underlying22 w1) (trodAll_cons_mk (Below.trod laidOut (by kernel_rfl) (of_decide_eq_true (by kernel_rfl)) k2 bel lt2) (trodAll_cons_mk (shut_string Try.underlying9 w3) trodAll_mk0)))), rfl, bel.frame _, fun h => by cases h⟩

theorem over : Rows.tcpWritesRow.holds Try.pinned (OpenSpec.ofChange Rows.tcpWritesSpec) :=
  OpenClaim.holds_of_wide 3 Try.f3 rfl rfl rfl rfl rfl rfl rfl ⟨rfl, rfl, rfl, rfl, rfl⟩ rfl rfl rfl rfl rfl (by kernel_rfl) Try.func3 (by kernel_rfl)
    (of_decide_eq_true (by kernel_rfl)) (by unfold Func.isWrapper; first | (rw [if_pos (by decide +kernel)]; kernel_rfl) | (rw [if_neg (by decide +kernel)]; exact ⟨rfl, rfl⟩))
    (fun os started H enc _ => lifted os started H enc)

/-- THE STATEMENT -/
theorem proved : Rows.TcpWritesSaid := over
#print axioms proved
end Go.Proofs.Ytpmcdpbolcmhgaa.tcpWrites
