/- The statement SeqMoves: two numbers keep their order, and how far they are apart, wherever they are moved together; for any numbers. -/
import Derived.Test.YthichhoiegkcjaaSeqRef
set_option linter.unusedVariables false
set_option linter.unusedSimpArgs false
namespace Go.Proofs.Ythichhoiegkcjaa.seqMoves
open Go.ChangeShapes Go.WideShapes Go.ChangeAt Go.RowKit
open Go.ChangeMaps (open_string shut_string)

set_option maxHeartbeats 2000000 in
theorem walk (a0 a1 a2 a3 : Int) (w : World) (w0 : (Lit.int .u32 a0).wf = true) (w1 : (Lit.int .u32 a1).wf = true) (w2 : (Lit.int .u32 a2).wf = true) (w3 : (Lit.int .u32 a3).wf = true) :
    Calls Try.prog 8 #[.int .u32 a0, .int .u32 a1, .int .u32 a2, .int .u32 a3] w fun e w' => e = .returned (.bool true) ∧ Below w.heap.size w w' := by
  obtain ⟨l0, g0⟩ := bounds_u32 w0
  obtain ⟨l1, g1⟩ := bounds_u32 w1
  obtain ⟨l2, g2⟩ := bounds_u32 w2
  obtain ⟨l3, g3⟩ := bounds_u32 w3
  clear w0 w1 w2 w3
  have H1 := Lib.hid (fun w => less_any a0 a1 w (by omega) (by omega) (by omega) (by omega))
  have H1r := Lib.hid (fun w => less_any a1 a0 w (by omega) (by omega) (by omega) (by omega))
  have H2 := Lib.hid (fun w => less_v ((a0 + a2) % 4294967296) ((a1 + a2) % 4294967296) _ (sLess_moves (by omega) (by omega) (by omega) (by omega) (by omega) (by omega)) w (by omega) (by omega) (by omega) (by omega))
  have H3 := Lib.hid (fun w => sub_any a0 a1 w (by omega) (by omega) (by omega) (by omega))
  have H4 := Lib.hid (fun w => sub_v ((a0 + a2) % 4294967296) ((a1 + a2) % 4294967296) _ (sSub_moves (by omega) (by omega) (by omega) (by omega) (by omega) (by omega)) w (by omega) (by omega) (by omega) (by omega))
  have H5 := Lib.hid (fun w => in_any a0 a1 a3 w (by omega) (by omega) (by omega) (by omega) (by omega) (by omega))
  have H6 := Lib.hid (fun w => in_v ((a0 + a2) % 4294967296) ((a1 + a2) % 4294967296) a3 _ (sIn_moves (by omega) (by omega) (by omega) (by omega) (by omega) (by omega)) w (by omega) (by omega) (by omega) (by omega) (by omega) (by omega))
  have H7 := Lib.hid (fun w => max_any a0 a1 w (by omega) (by omega) (by omega) (by omega))
  have H8 := Lib.hid (fun w => max_v ((a0 + a2) % 4294967296) ((a1 + a2) % 4294967296) _ (sMax_moves (by omega) (by omega) (by omega) (by omega) (by omega) (by omega)) w (by omega) (by omega) (by omega) (by omega))
  obtain ⟨m0, m1⟩ := sMax_bounds (a := a0) (b := a1) (by omega) (by omega) (by omega) (by omega)
  obtain ⟨s0, s1⟩ := sSub_bounds (a := a0) (b := a1) (by omega) (by omega) (by omega) (by omega)
  have sb := sSub_back (a := a0) (b := a1) (by omega) (by omega) (by omega) (by omega)
  have hb : (a0 == (a1 + sSub a0 a1) % 4294967296) = true := by rw [beq_iff_eq]; omega
  clear sb
  generalize sIn a0 a1 a3 = v3 at *
  generalize sMax a0 a1 = v4 at *
  by_cases c : a0 = a1
  · have k1 : sLess a0 a1 = false := sLess_false.2 (by omega)
    have k2 : sLess a1 a0 = false := sLess_false.2 (by omega)
    have k3 : decide (sSub a0 a1 < 0) = false := by rw [decide_eq_false_iff_not]; unfold sSub; split <;> omega
    have c1 : (a0 == a1) = true := by simpa using c
    have c2 : (a0 != a1) = false := by simpa using c
    have c3 : ((a0 - a1) % 4294967296 != 2147483648) = true := by rw [bne_iff_ne]; omega
    have c4 : ((a0 - a1) % 4294967296 == 2147483648) = false := by rw [beq_eq_false_iff_ne]; omega
    rw [k1] at H1 H2
    rw [k2] at H1r
    generalize sSub a0 a1 = v2 at *
    clear k1 k2 c
    go_enter Try.func8, Try.ntmps8
    go_wp2_with fail
    refine (H1.out _).mono ?_
    rintro e w' ⟨rfl, rfl⟩
    go_wp2_with fail
    refine (H2.out _).mono ?_
    rintro e w' ⟨rfl, rfl⟩
    go_wp2_with fail
    refine (H3.out _).mono ?_
    rintro e w' ⟨rfl, rfl⟩
    go_wp2_with fail
    refine (H4.out _).mono ?_
    rintro e w' ⟨rfl, rfl⟩
    go_wp2_with fail
    refine (H5.out _).mono ?_
    rintro e w' ⟨rfl, rfl⟩
    go_wp2_with fail
    refine (H6.out _).mono ?_
    rintro e w' ⟨rfl, rfl⟩
    go_wp2_with fail
    refine (H7.out _).mono ?_
    rintro e w' ⟨rfl, rfl⟩
    go_wp2_with fail
    refine (H8.out _).mono ?_
    rintro e w' ⟨rfl, rfl⟩
    go_wp2_with fail
    refine (H1.out _).mono ?_
    rintro e w' ⟨rfl, rfl⟩
    go_wp2_with fail
    refine (H1r.out _).mono ?_
    rintro e w' ⟨rfl, rfl⟩
    go_wp2_with fail
    refine (H1.out _).mono ?_
    rintro e w' ⟨rfl, rfl⟩
    go_wp2_with fail
    refine (H3.out _).mono ?_
    rintro e w' ⟨rfl, rfl⟩
    go_wp2_with fail
    refine (H3.out _).mono ?_
    rintro e w' ⟨rfl, rfl⟩
    go_wp2_with fail
    refine (H1.out _).mono ?_
    rintro e w' ⟨rfl, rfl⟩
    go_wp2_with fail
    refine (alive_seq _).mono ?_
    rintro e w' ⟨rfl, rfl⟩
    go_wp2
    go_ret
    exact ⟨rfl, Below.refl _ _⟩
  · have c1 : (a0 == a1) = false := by simpa using c
    have c2 : (a0 != a1) = true := by simpa using c
    by_cases d : (a0 - a1) % 4294967296 = 2147483648
    · have k1 : sLess a0 a1 = false := sLess_false.2 (by omega)
      have k3 : decide (sSub a0 a1 < 0) = true := by rw [decide_eq_true_iff]; unfold sSub; split <;> omega
      have c3 : ((a0 - a1) % 4294967296 != 2147483648) = false := by rw [bne_eq_false_iff_eq]; omega
      have c4 : ((a0 - a1) % 4294967296 == 2147483648) = true := by rw [beq_iff_eq]; omega
      rw [k1] at H1 H2
      generalize sSub a0 a1 = v2 at *
      clear k1 c d
      go_enter Try.func8, Try.ntmps8
      go_wp2_with fail
      refine (H1.out _).mono ?_
      rintro e w' ⟨rfl, rfl⟩
      go_wp2_with fail
      refine (H2.out _).mono ?_
      rintro e w' ⟨rfl, rfl⟩
      go_wp2_with fail
      refine (H3.out _).mono ?_
      rintro e w' ⟨rfl, rfl⟩
      go_wp2_with fail
      refine (H4.out _).mono ?_
      rintro e w' ⟨rfl, rfl⟩
      go_wp2_with fail
      refine (H5.out _).mono ?_
      rintro e w' ⟨rfl, rfl⟩
      go_wp2_with fail
      refine (H6.out _).mono ?_
      rintro e w' ⟨rfl, rfl⟩
      go_wp2_with fail
      refine (H7.out _).mono ?_
      rintro e w' ⟨rfl, rfl⟩
      go_wp2_with fail
      refine (H8.out _).mono ?_
      rintro e w' ⟨rfl, rfl⟩
      go_wp2_with fail
      refine (H3.out _).mono ?_
      rintro e w' ⟨rfl, rfl⟩
      go_wp2_with fail
      refine (H3.out _).mono ?_
      rintro e w' ⟨rfl, rfl⟩
      go_wp2_with fail
      refine (H1.out _).mono ?_
      rintro e w' ⟨rfl, rfl⟩
      go_wp2_with fail
      refine (alive_seq _).mono ?_
      rintro e w' ⟨rfl, rfl⟩
      go_wp2
      go_ret
      exact ⟨rfl, Below.refl _ _⟩
    · have c3 : ((a0 - a1) % 4294967296 != 2147483648) = true := by rw [bne_iff_ne]; omega
      have c4 : ((a0 - a1) % 4294967296 == 2147483648) = false := by rw [beq_eq_false_iff_ne]; omega
      by_cases f : (a0 - a1) % 4294967296 < 2147483648
      · have k1 : sLess a0 a1 = false := sLess_false.2 (by omega)
        have k2 : sLess a1 a0 = true := sLess_true.2 (by omega)
        have k3 : decide (sSub a0 a1 < 0) = false := by rw [decide_eq_false_iff_not]; unfold sSub; split <;> omega
        rw [k1] at H1 H2
        rw [k2] at H1r
        generalize sSub a0 a1 = v2 at *
        clear k1 k2 c d f
        go_enter Try.func8, Try.ntmps8
        go_wp2_with fail
        refine (H1.out _).mono ?_
        rintro e w' ⟨rfl, rfl⟩
        go_wp2_with fail
        refine (H2.out _).mono ?_
        rintro e w' ⟨rfl, rfl⟩
        go_wp2_with fail
        refine (H3.out _).mono ?_
        rintro e w' ⟨rfl, rfl⟩
        go_wp2_with fail
        refine (H4.out _).mono ?_
        rintro e w' ⟨rfl, rfl⟩
        go_wp2_with fail
        refine (H5.out _).mono ?_
        rintro e w' ⟨rfl, rfl⟩
        go_wp2_with fail
        refine (H6.out _).mono ?_
        rintro e w' ⟨rfl, rfl⟩
        go_wp2_with fail
        refine (H7.out _).mono ?_
        rintro e w' ⟨rfl, rfl⟩
        go_wp2_with fail
        refine (H8.out _).mono ?_
        rintro e w' ⟨rfl, rfl⟩
        go_wp2_with fail
        refine (H1.out _).mono ?_
        rintro e w' ⟨rfl, rfl⟩
        go_wp2_with fail
        refine (H1r.out _).mono ?_
        rintro e w' ⟨rfl, rfl⟩
        go_wp2_with fail
        refine (H3.out _).mono ?_
        rintro e w' ⟨rfl, rfl⟩
        go_wp2_with fail
        refine (H3.out _).mono ?_
        rintro e w' ⟨rfl, rfl⟩
        go_wp2_with fail
        refine (H1.out _).mono ?_
        rintro e w' ⟨rfl, rfl⟩
        go_wp2_with fail
        refine (alive_seq _).mono ?_
        rintro e w' ⟨rfl, rfl⟩
        go_wp2
        go_ret
        exact ⟨rfl, Below.refl _ _⟩
      · have k1 : sLess a0 a1 = true := sLess_true.2 (by omega)
        have k2 : sLess a1 a0 = false := sLess_false.2 (by omega)
        have k3 : decide (sSub a0 a1 < 0) = true := by rw [decide_eq_true_iff]; unfold sSub; split <;> omega
        rw [k1] at H1 H2
        rw [k2] at H1r
        generalize sSub a0 a1 = v2 at *
        clear k1 k2 c d f
        go_enter Try.func8, Try.ntmps8
        go_wp2_with fail
        refine (H1.out _).mono ?_
        rintro e w' ⟨rfl, rfl⟩
        go_wp2_with fail
        refine (H2.out _).mono ?_
        rintro e w' ⟨rfl, rfl⟩
        go_wp2_with fail
        refine (H3.out _).mono ?_
        rintro e w' ⟨rfl, rfl⟩
        go_wp2_with fail
        refine (H4.out _).mono ?_
        rintro e w' ⟨rfl, rfl⟩
        go_wp2_with fail
        refine (H5.out _).mono ?_
        rintro e w' ⟨rfl, rfl⟩
        go_wp2_with fail
        refine (H6.out _).mono ?_
        rintro e w' ⟨rfl, rfl⟩
        go_wp2_with fail
        refine (H7.out _).mono ?_
        rintro e w' ⟨rfl, rfl⟩
        go_wp2_with fail
        refine (H8.out _).mono ?_
        rintro e w' ⟨rfl, rfl⟩
        go_wp2_with fail
        refine (H1.out _).mono ?_
        rintro e w' ⟨rfl, rfl⟩
        go_wp2_with fail
        refine (H1r.out _).mono ?_
        rintro e w' ⟨rfl, rfl⟩
        go_wp2_with fail
        refine (H3.out _).mono ?_
        rintro e w' ⟨rfl, rfl⟩
        go_wp2_with fail
        refine (H3.out _).mono ?_
        rintro e w' ⟨rfl, rfl⟩
        go_wp2_with fail
        refine (H1.out _).mono ?_
        rintro e w' ⟨rfl, rfl⟩
        go_wp2_with fail
        refine (alive_seq _).mono ?_
        rintro e w' ⟨rfl, rfl⟩
        go_wp2
        go_ret
        exact ⟨rfl, Below.refl _ _⟩

theorem own : ownKnob Try.prog.godebug = none := by kernel_rfl
theorem laidOut : laidOutB Try.prog = true := by kernel_rfl
set_option maxRecDepth 100000 in
theorem lifted (os : Os) (started : os.Started) (H : Type) (enc : TypeId × Value → H) :
    ReturnsInHanded {} Try.checked os 8 .any (Rows.seqMovesSpec.pre6 enc Try.prog Try.f8 Rows.seqMovesRow.domain false) (Rows.seqMovesSpec.post enc Try.prog Try.f8 false true false false) := by
  refine returnsInHanded_of_change (C := Try.checked) own started (by kernel_rfl) Try.func8
    (ChangeSpec.witness6 (enc := enc) (C := Try.checked) false ⟨#[], #[.int .u32 0, .int .u32 0, .int .u32 0, .int .u32 0], []⟩ 8 (by kernel_rfl) (by kernel_rfl) (by kernel_rfl) (by kernel_rfl)) ?_
  intro W base args ds gs before hval0 hW hcnd _
  have hval : ∀ (j : Nat) t v, Try.f8.params[j]? = some t → args[j]? = some v → Value.okWide Try.prog W .any base t v := hval0
  have hW' := hW
  obtain ⟨p, q, hA0, hV, rfl, hfz, hnd⟩ := hW
  have hA : DataW.TrodAll enc Try.prog W 0 (fun _ => true) true Try.f8.params.toList args.toList ds p := hA0
  rw [Try.params8] at hA hval
  obtain ⟨v0, vs0, d0, ds0, p0, q0, hargs, rfl, rfl, h0, r0⟩ := trodAll_cons hA
  obtain ⟨v1, vs1, d1, ds1, p1, q1, rfl, rfl, rfl, h1, r1⟩ := trodAll_cons r0
  obtain ⟨v2, vs2, d2, ds2, p2, q2, rfl, rfl, rfl, h2, r2⟩ := trodAll_cons r1
  obtain ⟨v3, vs3, d3, ds3, p3, q3, rfl, rfl, rfl, h3, r3⟩ := trodAll_cons r2
  obtain ⟨rfl, rfl, rfl⟩ := trodAll_nil r3
  obtain rfl : args = #[v0, v1, v2, v3] := by cases args; simp_all
  obtain ⟨rfl, rfl⟩ := trodVars_none hV
  obtain ⟨a0, rfl, rfl, rfl, w0⟩ := open_int Try.underlying29 (hval 0 29 v0 rfl rfl) h0
  obtain ⟨a1, rfl, rfl, rfl, w1⟩ := open_int Try.underlying29 (hval 1 29 v1 rfl rfl) h1
  obtain ⟨a2, rfl, rfl, rfl, w2⟩ := open_int Try.underlying29 (hval 2 29 v2 rfl rfl) h2
  obtain ⟨a3, rfl, rfl, rfl, w3⟩ := open_int Try.underlying29 (hval 3 29 v3 rfl rfl) h3
  clear hA0 hval0
  refine (walk a0 a1 a2 a3 W w0 w1 w2 w3).mono fun e W' ⟨he, bel⟩ => ?_
  subst he
  exact ⟨_, rfl, _, _, _, [], _, [], hW', trodAll_mk1 (shut_bool Try.underlying4 _), (trodAll_cons_mk (shut_int Try.underlying29 w0) (trodAll_cons_mk (shut_int Try.underlying29 w1) (trodAll_cons_mk (shut_int Try.underlying29 w2) (trodAll_cons_mk (shut_int Try.underlying29 w3) trodAll_mk0)))), rfl, bel.frame _, fun h => by cases h⟩

theorem over : Rows.seqMovesRow.holds Try.pinned (OpenSpec.ofChange Rows.seqMovesSpec) :=
  OpenClaim.holds_of_wide 8 Try.f8 rfl rfl rfl rfl rfl rfl rfl ⟨rfl, rfl, rfl, rfl, rfl⟩ rfl rfl rfl rfl rfl (by kernel_rfl) Try.func8 (by kernel_rfl)
    (of_decide_eq_true (by kernel_rfl)) (by unfold Func.isWrapper; first | (rw [if_pos (by decide +kernel)]; kernel_rfl) | (rw [if_neg (by decide +kernel)]; exact ⟨rfl, rfl⟩))
    (fun os started H enc _ => lifted os started H enc)

/-- THE STATEMENT -/
theorem proved : Rows.SeqMovesSaid := over
#print axioms proved
end Go.Proofs.Ythichhoiegkcjaa.seqMoves
