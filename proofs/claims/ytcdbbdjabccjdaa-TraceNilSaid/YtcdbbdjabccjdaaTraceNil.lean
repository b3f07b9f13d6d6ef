/- The statement TraceNil: what no trace answers, whatever the act. -/
import Derived.Test.YtcdbbdjabccjdaaTraceM
set_option linter.unusedVariables false
set_option linter.unusedSimpArgs false
namespace Go.Proofs.Ytcdbbdjabccjdaa.traceNil
open Go.ChangeShapes Go.WideShapes Go.ChangeAt Go.RowKit
open Go.ChangeMaps (open_string shut_string)

theorem walk (a0_0 a0_1 : Int) (a0_2 : ByteArray) (w : World) (w0_0 : (Lit.int .i64 a0_0).wf = true) (w0_1 : (Lit.int .u8 a0_1).wf = true) (w0_2 : a0_2.size ≤ maxLen) :
    Calls Try.prog 6 #[.agg #[.int .i64 a0_0, .int .u8 a0_1, .string a0_2]] w fun e w' => e = .returned (.bool true) ∧ Below w.heap.size w w' := by
  unfold maxLen at w0_2
  have hsz : (a0_2.size : Int) ≤ 9223372036854775807 := by omega
  have hb0 : Below w.heap.size w w := Below.refl _ _
  have HB := Lib.hid hb0
  clear hb0 w0_0 w0_1 w0_2
  have heq : ∀ W, (binOp .eql 29 (.agg #[.bool false, .string ⟨#[]⟩, .int .i64 0, .bool false, .bool false, .bool false]) (.agg #[.bool false, .string ⟨#[]⟩, .int .i64 0, .bool false, .bool false, .bool false])).run Try.prog W = .ok (.bool true) W := fun _ => by kernel_rfl
  by_cases h : (1024 : Int) < a0_2.size
  · go_enter Try.func6, Try.ntmps6
    go_wp2_with fail
    have hx := Blk.new w 36 #[.int .i64 a0_0, .int .u8 a0_1, .string a0_2]
    have hB := HB.out.alloc HB.out.size (.cells #[.int .i64 a0_0, .int .u8 a0_1, .string a0_2] 36)
    clear HB
    obtain ⟨gx, hge⟩ : ∃ g, g = w.heap.size := ⟨_, rfl⟩
    rw [← hge] at hx ⊢
    clear hge
    generalize w.alloc _ = wn1 at *
    have Hx := Lib.hid hx
    clear hx
    have HB := Lib.hid hB
    clear hB
    have hal := alive31 wn1
    refine hal.mono ?_
    rintro e w2 ⟨rfl, hb2⟩
    go_wp2
    go_ret
    exact ⟨rfl, HB.out.trans (hb2.mono HB.out.size)⟩
  · go_enter Try.func6, Try.ntmps6
    go_wp2_with fail
    have hx := Blk.new w 36 #[.int .i64 a0_0, .int .u8 a0_1, .string a0_2]
    have hB := HB.out.alloc HB.out.size (.cells #[.int .i64 a0_0, .int .u8 a0_1, .string a0_2] 36)
    clear HB
    obtain ⟨gx, hge⟩ : ∃ g, g = w.heap.size := ⟨_, rfl⟩
    rw [← hge] at hx ⊢
    clear hge
    generalize w.alloc _ = wn1 at *
    have Hx := Lib.hid hx
    clear hx
    have HB := Lib.hid hB
    clear hB
    have hdn := do_nil wn1 a0_0 a0_1 a0_2
    refine hdn.mono ?_
    clear hdn
    rintro e w2 ⟨rfl, hb2⟩
    have hB2 := HB.out.trans (hb2.mono HB.out.size)
    have hs : Calls Try.prog 14 #[.pointer none, .int .i64 0] w2 fun e w' => e = .returned (.agg #[.bool false, .string ⟨#[]⟩, .int .i64 0, .bool false, .bool false, .bool false]) ∧ Below w2.heap.size w2 w' := side_nil w2 0
    clear HB hb2
    have HB := Lib.hid hB2
    have Hs := Lib.hid hs
    clear hB2 hs Hx
    go_wp2_with fail
    refine Hs.out.mono ?_
    rintro e w3 ⟨rfl, hb3⟩
    have hB3 := HB.out.trans (hb3.mono HB.out.size)
    clear HB hb3 Hs
    have HB := Lib.hid hB3
    clear hB3
    go_wp2_with fail
    (with_reducible refine (cause_nil _).mono ?_)
    rintro e w' ⟨rfl, rfl⟩
    go_wp2_with fail
    (with_reducible refine (over_nil _).mono ?_)
    rintro e w' ⟨rfl, rfl⟩
    go_wp2_with fail
    refine (alive31 _).mono ?_
    rintro e w4 ⟨rfl, hb4⟩
    have hB4 := HB.out.trans (hb4.mono HB.out.size)
    clear HB hb4
    have HB := Lib.hid hB4
    clear hB4
    go_wp2
    go_ret
    exact ⟨rfl, HB.out⟩

theorem own : ownKnob Try.prog.godebug = none := by kernel_rfl
theorem laidOut : laidOutB Try.prog = true := by kernel_rfl
set_option maxRecDepth 100000 in
theorem lifted (os : Os) (started : os.Started) (H : Type) (enc : TypeId × Value → H) :
    ReturnsInHanded {} Try.checked os 6 .any (Rows.traceNilSpec.pre6 enc Try.prog Try.f6 Rows.traceNilRow.domain false) (Rows.traceNilSpec.post enc Try.prog Try.f6 false true false false) := by
  refine returnsInHanded_of_change (C := Try.checked) own started (by kernel_rfl) Try.func6
    (ChangeSpec.witness6 (enc := enc) (C := Try.checked) false ⟨#[], #[.agg #[.int .i64 0, .int .u8 0, .string ByteArray.empty]], []⟩ 8 (by kernel_rfl) (by kernel_rfl) (by kernel_rfl) (by kernel_rfl)) ?_
  intro W base args ds gs before hval0 hW hcnd _
  have hval : ∀ (j : Nat) t v, Try.f6.params[j]? = some t → args[j]? = some v → Value.okWide Try.prog W .any base t v := hval0
  have hW' := hW
  obtain ⟨p, q, hA0, hV, rfl, hfz, hnd⟩ := hW
  have hA : DataW.TrodAll enc Try.prog W 0 (fun _ => true) true Try.f6.params.toList args.toList ds p := hA0
  rw [Try.params6] at hA hval
  obtain ⟨v0, vs0, d0, ds0, p0, q0, hargs, rfl, rfl, h0, r0⟩ := trodAll_cons hA
  obtain ⟨rfl, rfl, rfl⟩ := trodAll_nil r0
  obtain rfl : args = #[v0] := by cases args; simp_all
  obtain ⟨rfl, rfl⟩ := trodVars_none hV
  have k0 := h0
  have lt0 : ∀ x ∈ p0, x.block < W.heap.size := by obtain ⟨m, hm⟩ := k0; exact DataW.trod_lt m _ _ _ hm
  obtain ⟨c0_0, c0_1, c0_2, y0_0, y0_1, y0_2, m0, rfl, rfl, rfl, hy0_0, hy0_1, hy0_2⟩ := Go.Joins.open_agg3 Try.underlying36 (by kernel_rfl) (by kernel_rfl) (hval 0 36 v0 rfl rfl) h0
  obtain ⟨a0_0, e0_0, rfl, w0_0⟩ := DataW.trod_int Try.underlying3 hy0_0
  simp at e0_0
  subst e0_0
  obtain ⟨a0_1, e0_1, rfl, w0_1⟩ := DataW.trod_int Try.underlying5 hy0_1
  simp at e0_1
  subst e0_1
  obtain ⟨a0_2, e0_2, rfl, w0_2⟩ := DataW.trod_string Try.underlying9 hy0_2
  simp at e0_2
  subst e0_2
  clear hA0 hval0
  refine (walk a0_0 a0_1 a0_2 W w0_0 w0_1 w0_2).mono fun e W' ⟨he, bel⟩ => ?_
  subst he
  exact ⟨_, rfl, _, _, _, [], _, [], hW', trodAll_mk1 (shut_bool Try.underlying4 _), (trodAll_cons_mk (Below.trod laidOut (by kernel_rfl) (of_decide_eq_true (by kernel_rfl)) k0 bel lt0) trodAll_mk0), rfl, bel.frame _, fun h => by cases h⟩

theorem over : Rows.traceNilRow.holds Try.pinned (OpenSpec.ofChange Rows.traceNilSpec) :=
  OpenClaim.holds_of_wide 6 Try.f6 rfl rfl rfl rfl rfl rfl rfl ⟨rfl, rfl, rfl, rfl, rfl⟩ rfl rfl rfl rfl rfl (by kernel_rfl) Try.func6 (by kernel_rfl)
    (of_decide_eq_true (by kernel_rfl)) (by unfold Func.isWrapper; first | (rw [if_pos (by decide +kernel)]; kernel_rfl) | (rw [if_neg (by decide +kernel)]; exact ⟨rfl, rfl⟩))
    (fun os started H enc _ => lifted os started H enc)

/-- THE STATEMENT -/
theorem proved : Rows.TraceNilSaid := over
#print axioms proved
end Go.Proofs.Ytcdbbdjabccjdaa.traceNil
