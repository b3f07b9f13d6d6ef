/- The statement ClockParts: it makes no difference whether a clock goes at once, or in parts; and what none answers; for any time and any two steps. -/
import Derived.Test.YtcfomapeiaobaaaClockLeast
set_option linter.unusedVariables false
set_option linter.unusedSimpArgs false
namespace Go.Proofs.Ytcfomapeiaobaaa.clockParts
open Go.ChangeShapes Go.WideShapes Go.ChangeAt Go.RowKit
open Go.ChangeMaps (open_string shut_string)

set_option maxHeartbeats 1000000 in
theorem walk (a0 a1 a2 : Int) (w : World) (w0 : (Lit.int .i64 a0).wf = true) (w1 : (Lit.int .u32 a1).wf = true) (w2 : (Lit.int .u32 a2).wf = true) :
    Calls Try.prog 9 #[.int .i64 a0, .int .u32 a1, .int .u32 a2] w fun e w' => e = .returned (.bool true) ∧ Below w.heap.size w w' := by
  obtain ⟨l0, g0⟩ := bounds_i64 w0
  obtain ⟨l1, g1⟩ := bounds_u32 w1
  obtain ⟨l2, g2⟩ := bounds_u32 w2
  clear w0 w1 w2
  by_cases hm : cMay a0 = true
  · have hab := cMay_true.1 hm
    have Hm := Lib.hid hm
    clear hm
    have e0 : cAdd a0 (a1 + a2) = if 17592186044416 - a0 < a1 + a2 then (0, 9) else (a0 + (a1 + a2), 0) := if_neg (by omega)
    have e1 : cAdd a0 a1 = if 17592186044416 - a0 < a1 then (0, 9) else (a0 + a1, 0) := if_neg (by omega)
    by_cases c1 : 17592186044416 - a0 < a1
    · rw [if_pos (by omega)] at e0 e1
      have E0 := Lib.hid e0
      clear e0
      have E1 := Lib.hid e1
      clear e1
      go_enter Try.func9, Try.ntmps9
      go_wp2_with fail
      (with_reducible refine (clk_new a0 _ (by omega) (by omega) Hm.out).mono ?_)
      rintro e w1 ⟨rfl, hc1, hb1⟩
      have Hc1 := Lib.hid hc1
      clear hc1
      have Hb1 := Lib.hid hb1
      clear hb1
      go_wp2_with fail
      (with_reducible refine (clk_new a0 _ (by omega) (by omega) Hm.out).mono ?_)
      rintro e w2 ⟨rfl, hc2, hb2⟩
      have hlt := Hc1.out.lt
      have hlt2 := hc2.lt
      have hk1 : Clk w2 w.heap.size a0 := Blk.below Hc1.out hb2 hlt
      have hb12 : Below w.heap.size w w2 := Hb1.out.trans (hb2.mono Hb1.out.size)
      clear hb2
      have Hc2 := Lib.hid hc2
      clear hc2
      have Hk1 := Lib.hid hk1
      clear hk1
      have Hlt := Lib.hid hlt
      clear hlt
      have Hlt2 := Lib.hid hlt2
      clear hlt2
      have Hb12 := Lib.hid hb12
      clear hb12
      go_wp2_with fail
      (with_reducible refine (clk_go _ a0 (a1 + a2) _ Hk1.out (by omega) (by omega) (by omega) (by omega) 0 9 E0.out a0 (by rw [if_neg (by omega)])).mono ?_)
      rintro e w3 ⟨rfl, hc3, hg3⟩
      have hk2 : Clk w3 w1.heap.size a0 := Hc2.out.grown hg3 (by have := Hlt.out; simp; omega)
      have hb3 : Below w.heap.size w w3 := below_only Hb12.out hg3 (Nat.le_refl _) Hb12.out.size
      clear hg3
      have Hc3 := Lib.hid hc3
      clear hc3
      have Hk2 := Lib.hid hk2
      clear hk2
      have Hb3 := Lib.hid hb3
      clear hb3
      go_wp2_with fail
      (with_reducible refine (clk_go _ a0 a1 _ Hk2.out (by omega) (by omega) (by omega) (by omega) 0 9 E1.out a0 (by rw [if_neg (by omega)])).mono ?_)
      rintro e w4 ⟨rfl, hc4, hg4⟩
      have hb4 : Below w.heap.size w w4 := below_only Hb3.out hg4 Hb1.out.size Hb3.out.size
      clear hg4
      have Hc4 := Lib.hid hc4
      clear hc4
      have Hb4 := Lib.hid hb4
      clear hb4
      go_wp2_with fail
      (with_reducible refine (clk_nil_now _).mono ?_)
      rintro e w' ⟨rfl, rfl⟩
      go_wp2_with fail
      (with_reducible refine (clk_nil_go _ 1).mono ?_)
      rintro e w' ⟨rfl, rfl⟩
      go_wp2_with fail
      (with_reducible refine (clk_nil_left _ 5).mono ?_)
      rintro e w' ⟨rfl, rfl⟩
      go_wp2_with fail
      (with_reducible refine (works_clock _).mono ?_)
      rintro e w5 ⟨rfl, hb5⟩
      go_wp2
      go_ret
      exact ⟨rfl, Hb4.out.trans (hb5.mono Hb4.out.size)⟩
    · rw [if_neg c1] at e1
      have e2 : cAdd (a0 + a1) a2 = if 17592186044416 - (a0 + a1) < a2 then (0, 9) else (a0 + a1 + a2, 0) := if_neg (by omega)
      by_cases c2 : 17592186044416 - a0 < a1 + a2
      · rw [if_pos c2] at e0
        rw [if_pos (by omega)] at e2
        have E0 := Lib.hid e0
        clear e0
        have E1 := Lib.hid e1
        clear e1
        have E2 := Lib.hid e2
        clear e2
        go_enter Try.func9, Try.ntmps9
        go_wp2_with fail
        (with_reducible refine (clk_new a0 _ (by omega) (by omega) Hm.out).mono ?_)
        rintro e w1 ⟨rfl, hc1, hb1⟩
        have Hc1 := Lib.hid hc1
        clear hc1
        have Hb1 := Lib.hid hb1
        clear hb1
        go_wp2_with fail
        (with_reducible refine (clk_new a0 _ (by omega) (by omega) Hm.out).mono ?_)
        rintro e w2 ⟨rfl, hc2, hb2⟩
        have hlt := Hc1.out.lt
        have hlt2 := hc2.lt
        have hk1 : Clk w2 w.heap.size a0 := Blk.below Hc1.out hb2 hlt
        have hb12 : Below w.heap.size w w2 := Hb1.out.trans (hb2.mono Hb1.out.size)
        clear hb2
        have Hc2 := Lib.hid hc2
        clear hc2
        have Hk1 := Lib.hid hk1
        clear hk1
        have Hlt := Lib.hid hlt
        clear hlt
        have Hlt2 := Lib.hid hlt2
        clear hlt2
        have Hb12 := Lib.hid hb12
        clear hb12
        go_wp2_with fail
        (with_reducible refine (clk_go _ a0 (a1 + a2) _ Hk1.out (by omega) (by omega) (by omega) (by omega) 0 9 E0.out a0 (by rw [if_neg (by omega)])).mono ?_)
        rintro e w3 ⟨rfl, hc3, hg3⟩
        have hk2 : Clk w3 w1.heap.size a0 := Hc2.out.grown hg3 (by have := Hlt.out; simp; omega)
        have hb3 : Below w.heap.size w w3 := below_only Hb12.out hg3 (Nat.le_refl _) Hb12.out.size
        clear hg3
        have Hc3 := Lib.hid hc3
        clear hc3
        have Hk2 := Lib.hid hk2
        clear hk2
        have Hb3 := Lib.hid hb3
        clear hb3
        go_wp2_with fail
        (with_reducible refine (clk_go _ a0 a1 _ Hk2.out (by omega) (by omega) (by omega) (by omega) (a0 + a1) 0 E1.out (a0 + a1) (by rw [if_pos rfl])).mono ?_)
        rintro e w4 ⟨rfl, hc4, hg4⟩
        have hb4 : Below w.heap.size w w4 := below_only Hb3.out hg4 Hb1.out.size Hb3.out.size
        clear hg4
        have Hc4 := Lib.hid hc4
        clear hc4
        have Hb4 := Lib.hid hb4
        clear hb4
        go_wp2_with fail
        (with_reducible refine (clk_go _ (a0 + a1) a2 _ Hc4.out (by omega) (by omega) (by omega) (by omega) 0 9 E2.out (a0 + a1) (by rw [if_neg (by omega)])).mono ?_)
        rintro e w6 ⟨rfl, hc6, hg6⟩
        have hb6 : Below w.heap.size w w6 := below_only Hb4.out hg6 Hb1.out.size Hb4.out.size
        clear hg6 hc6
        have Hb6 := Lib.hid hb6
        clear hb6
        go_wp2_with fail
        (with_reducible refine (clk_nil_now _).mono ?_)
        rintro e w' ⟨rfl, rfl⟩
        go_wp2_with fail
        (with_reducible refine (clk_nil_go _ 1).mono ?_)
        rintro e w' ⟨rfl, rfl⟩
        go_wp2_with fail
        (with_reducible refine (clk_nil_left _ 5).mono ?_)
        rintro e w' ⟨rfl, rfl⟩
        go_wp2_with fail
        (with_reducible refine (works_clock _).mono ?_)
        rintro e w5 ⟨rfl, hb5⟩
        go_wp2
        go_ret
        exact ⟨rfl, Hb6.out.trans (hb5.mono Hb6.out.size)⟩
      · rw [if_neg c2] at e0
        rw [if_neg (by omega)] at e2
        have e3 : (a0 + (a1 + a2) == a0 + a1 + a2) = true := by rw [beq_iff_eq]; omega
        have E0 := Lib.hid e0
        clear e0
        have E1 := Lib.hid e1
        clear e1
        have E2 := Lib.hid e2
        clear e2
        go_enter Try.func9, Try.ntmps9
        go_wp2_with fail
        (with_reducible refine (clk_new a0 _ (by omega) (by omega) Hm.out).mono ?_)
        rintro e w1 ⟨rfl, hc1, hb1⟩
        have Hc1 := Lib.hid hc1
        clear hc1
        have Hb1 := Lib.hid hb1
        clear hb1
        go_wp2_with fail
        (with_reducible refine (clk_new a0 _ (by omega) (by omega) Hm.out).mono ?_)
        rintro e w2 ⟨rfl, hc2, hb2⟩
        have hlt := Hc1.out.lt
        have hlt2 := hc2.lt
        have hk1 : Clk w2 w.heap.size a0 := Blk.below Hc1.out hb2 hlt
        have hb12 : Below w.heap.size w w2 := Hb1.out.trans (hb2.mono Hb1.out.size)
        clear hb2
        have Hc2 := Lib.hid hc2
        clear hc2
        have Hk1 := Lib.hid hk1
        clear hk1
        have Hlt := Lib.hid hlt
        clear hlt
        have Hlt2 := Lib.hid hlt2
        clear hlt2
        have Hb12 := Lib.hid hb12
        clear hb12
        go_wp2_with fail
        (with_reducible refine (clk_go _ a0 (a1 + a2) _ Hk1.out (by omega) (by omega) (by omega) (by omega) (a0 + (a1 + a2)) 0 E0.out (a0 + (a1 + a2)) (by rw [if_pos rfl])).mono ?_)
        rintro e w3 ⟨rfl, hc3, hg3⟩
        have hk2 : Clk w3 w1.heap.size a0 := Hc2.out.grown hg3 (by have := Hlt.out; simp; omega)
        have hb3 : Below w.heap.size w w3 := below_only Hb12.out hg3 (Nat.le_refl _) Hb12.out.size
        clear hg3
        have Hc3 := Lib.hid hc3
        clear hc3
        have Hk2 := Lib.hid hk2
        clear hk2
        have Hb3 := Lib.hid hb3
        clear hb3
        go_wp2_with fail
        (with_reducible refine (clk_go _ a0 a1 _ Hk2.out (by omega) (by omega) (by omega) (by omega) (a0 + a1) 0 E1.out (a0 + a1) (by rw [if_pos rfl])).mono ?_)
        rintro e w4 ⟨rfl, hc4, hg4⟩
        have hk4 : Clk w4 w.heap.size (a0 + (a1 + a2)) := Hc3.out.grown hg4 (by have := Hlt.out; simp; omega)
        have hb4 : Below w.heap.size w w4 := below_only Hb3.out hg4 Hb1.out.size Hb3.out.size
        clear hg4
        have Hc4 := Lib.hid hc4
        clear hc4
        have Hb4 := Lib.hid hb4
        clear hb4
        have Hk4 := Lib.hid hk4
        clear hk4
        go_wp2_with fail
        (with_reducible refine (clk_go _ (a0 + a1) a2 _ Hc4.out (by omega) (by omega) (by omega) (by omega) (a0 + a1 + a2) 0 E2.out (a0 + a1 + a2) (by rw [if_pos rfl])).mono ?_)
        rintro e w6 ⟨rfl, hc6, hg6⟩
        have hk6 : Clk w6 w.heap.size (a0 + (a1 + a2)) := Hk4.out.grown hg6 (by have := Hlt.out; simp; omega)
        have hb6 : Below w.heap.size w w6 := below_only Hb4.out hg6 Hb1.out.size Hb4.out.size
        clear hg6
        have Hb6 := Lib.hid hb6
        clear hb6
        have Hk6 := Lib.hid hk6
        clear hk6
        have Hc6 := Lib.hid hc6
        clear hc6
        go_wp2_with fail
        (with_reducible refine (clk_nil_now _).mono ?_)
        rintro e w' ⟨rfl, rfl⟩
        go_wp2_with fail
        (with_reducible refine (clk_nil_go _ 1).mono ?_)
        rintro e w' ⟨rfl, rfl⟩
        go_wp2_with fail
        (with_reducible refine (clk_nil_left _ 5).mono ?_)
        rintro e w' ⟨rfl, rfl⟩
        go_wp2_with fail
        (with_reducible refine (clk_now _ (a0 + (a1 + a2)) _ Hk6.out).mono ?_)
        rintro e w' ⟨rfl, rfl⟩
        go_wp2_with fail
        (with_reducible refine (clk_now _ (a0 + a1 + a2) _ Hc6.out).mono ?_)
        rintro e w' ⟨rfl, rfl⟩
        go_wp2_with fail
        (with_reducible refine (works_clock _).mono ?_)
        rintro e w5 ⟨rfl, hb5⟩
        go_wp2
        go_ret
        exact ⟨rfl, Hb6.out.trans (hb5.mono Hb6.out.size)⟩
  · have hm' : cMay a0 = false := by simpa using hm
    have HM := Lib.hid hm'
    clear hm hm'
    go_enter Try.func9, Try.ntmps9
    go_wp2_with fail
    (with_reducible refine (clk_none a0 _ (by omega) (by omega) HM.out).mono ?_)
    rintro e w' ⟨rfl, rfl⟩
    go_wp2_with fail
    (with_reducible refine (clk_none a0 _ (by omega) (by omega) HM.out).mono ?_)
    rintro e w' ⟨rfl, rfl⟩
    go_wp2_with fail
    (with_reducible refine (works_clock _).mono ?_)
    rintro e w5 ⟨rfl, hb5⟩
    go_wp2
    go_ret
    exact ⟨rfl, hb5⟩

theorem own : ownKnob Try.prog.godebug = none := by kernel_rfl
theorem laidOut : laidOutB Try.prog = true := by kernel_rfl
set_option maxRecDepth 100000 in
theorem lifted (os : Os) (started : os.Started) (H : Type) (enc : TypeId × Value → H) :
    ReturnsInHanded {} Try.checked os 9 .any (Rows.clockPartsSpec.pre6 enc Try.prog Try.f9 Rows.clockPartsRow.domain false) (Rows.clockPartsSpec.post enc Try.prog Try.f9 false true false false) := by
  refine returnsInHanded_of_change (C := Try.checked) own started (by kernel_rfl) Try.func9
    (ChangeSpec.witness6 (enc := enc) (C := Try.checked) false ⟨#[], #[.int .i64 0, .int .u32 0, .int .u32 0], []⟩ 8 (by kernel_rfl) (by kernel_rfl) (by kernel_rfl) (by kernel_rfl)) ?_
  intro W base args ds gs before hval0 hW hcnd _
  have hval : ∀ (j : Nat) t v, Try.f9.params[j]? = some t → args[j]? = some v → Value.okWide Try.prog W .any base t v := hval0
  have hW' := hW
  obtain ⟨p, q, hA0, hV, rfl, hfz, hnd⟩ := hW
  have hA : DataW.TrodAll enc Try.prog W 0 (fun _ => true) true Try.f9.params.toList args.toList ds p := hA0
  rw [Try.params9] at hA hval
  obtain ⟨v0, vs0, d0, ds0, p0, q0, hargs, rfl, rfl, h0, r0⟩ := trodAll_cons hA
  obtain ⟨v1, vs1, d1, ds1, p1, q1, rfl, rfl, rfl, h1, r1⟩ := trodAll_cons r0
  obtain ⟨v2, vs2, d2, ds2, p2, q2, rfl, rfl, rfl, h2, r2⟩ := trodAll_cons r1
  obtain ⟨rfl, rfl, rfl⟩ := trodAll_nil r2
  obtain rfl : args = #[v0, v1, v2] := by cases args; simp_all
  obtain ⟨rfl, rfl⟩ := trodVars_none hV
  obtain ⟨a0, rfl, rfl, rfl, w0⟩ := open_int Try.underlying2 (hval 0 2 v0 rfl rfl) h0
  obtain ⟨a1, rfl, rfl, rfl, w1⟩ := open_int Try.underlying57 (hval 1 57 v1 rfl rfl) h1
  obtain ⟨a2, rfl, rfl, rfl, w2⟩ := open_int Try.underlying57 (hval 2 57 v2 rfl rfl) h2
  clear hA0 hval0
  refine (walk a0 a1 a2 W w0 w1 w2).mono fun e W' ⟨he, bel⟩ => ?_
  subst he
  exact ⟨_, rfl, _, _, _, [], _, [], hW', trodAll_mk1 (shut_bool Try.underlying4 _), (trodAll_cons_mk (shut_int Try.underlying2 w0) (trodAll_cons_mk (shut_int Try.underlying57 w1) (trodAll_cons_mk (shut_int Try.underlying57 w2) trodAll_mk0))), rfl, bel.frame _, fun h => by cases h⟩

theorem over : Rows.clockPartsRow.holds Try.pinned (OpenSpec.ofChange Rows.clockPartsSpec) :=
  OpenClaim.holds_of_wide 9 Try.f9 rfl rfl rfl rfl rfl rfl rfl ⟨rfl, rfl, rfl, rfl, rfl⟩ rfl rfl rfl rfl rfl (by kernel_rfl) Try.func9 (by kernel_rfl)
    (of_decide_eq_true (by kernel_rfl)) (by unfold Func.isWrapper; first | (rw [if_pos (by decide +kernel)]; kernel_rfl) | (rw [if_neg (by decide +kernel)]; exact ⟨rfl, rfl⟩))
    (fun os started H enc _ => lifted os started H enc)

/-- THE STATEMENT -/
theorem proved : Rows.ClockPartsSaid := over
#print axioms proved
end Go.Proofs.Ytcfomapeiaobaaa.clockParts
